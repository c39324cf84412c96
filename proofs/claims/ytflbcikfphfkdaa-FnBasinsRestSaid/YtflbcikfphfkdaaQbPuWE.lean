/- Plain functions and what they come to. -/
import Derived.Test.YtflbcikfphfkdaaQbPuWC
namespace Go.Proofs.Ytflbcikfphfkdaa.PuB
open Go.RowKit Go.Proofs.Ytflbcikfphfkdaa.R Go.Proofs.YtflbcikfphfkdaaW.PrintLast Go.Proofs.YtflbcikfphfkdaaW.PrintMore
open Go.Proofs.YtflbcikfphfkdaaW.PrintWords hiding Ev
set_option linter.unusedVariables false
set_option linter.unusedSimpArgs false
theorem AlongS (k : Nat) (row : List S30) (i : Int) (l : List Int) (hr : row.length ≤ 1000) (hl : l.length ≤ 1000) (hk : 3000 < k) : spec_HeldAlong.f k row i l = some (aAlong row i l) := by
  obtain ⟨k, rfl⟩ : ∃ m, k = m + 1 := ⟨k - 1, by omega⟩
  unfold spec_HeldAlong.f aAlong
  rw [ask_spec (k + 1) row l hr hl (by omega), Option.bind_some]
  by_cases h : ROk row ∧ FOk l
  · rw [if_pos (decide_eq_true h), w64 (by omega) (by omega), in_spec, Option.bind_some]
    by_cases q : 0 ≤ i ∧ i ≤ (row.length : Int) - 1
    · obtain ⟨j, rfl⟩ : ∃ j : Nat, i = (j : Int) := ⟨i.toNat, by omega⟩
      have h60 := h.2.1
      rw [decide_eq_true q]
      simp only [spec_HeldAlong.j0, Bool.not_true, Bool.false_eq_true, if_false]
      rw [go_spec k h.1 h.2 (by omega), Option.bind_some, if_pos (show (ROk row ∧ FOk l) ∧ (0 ≤ (j : Int) ∧ (j : Int) ≤ (row.length : Int) - 1) from ⟨h, q⟩)]
      have hL : ((rnR row l).map (·.1)).length ≤ 60 := by rw [List.length_map, rnR_len]; exact h60
      have : ∀ (L : List (List S30)), L.length ≤ 60 → ∀ (r : List (List S30)) (a : List Int) (i k : Nat), L.drop i = r → a.length ≤ i → (∀ s ∈ r, j < s.length) → r.length < k →
          spec_HeldAlong.l0 k (j : Int) a L (L.length : Int) (i : Int) = some (a ++ r.map (fun t => (rd_T30 t (j : Int)).f2), true) := by
        intro L hL r
        induction r with
        | nil =>
          intro a i k e _ _ hk
          obtain ⟨k, rfl⟩ : ∃ m, k = m + 1 := ⟨k - 1, by simp at hk; omega⟩
          have := dropn e
          simp only [spec_HeldAlong.l0]; rw [if_neg (by omega)]; simp
        | cons s r ih =>
          intro a i k e ha hs hk
          simp only [List.length_cons] at hk
          obtain ⟨k, rfl⟩ : ∃ m, k = m + 1 := ⟨k - 1, by omega⟩
          obtain ⟨e1, e2, e3⟩ := dropc e
          have q := hs s (List.mem_cons_self ..)
          simp only [spec_HeldAlong.l0]
          rw [if_pos (by omega), if_pos (by omega), if_pos (by omega), rd3_nat, e2, if_pos (by omega), if_pos (by omega), if_pos (by omega), nx1 i (by omega), ih _ (i + 1) k e3 (by simp; omega) (fun z hz => hs z (List.mem_cons_of_mem _ hz)) (by omega)]
          simp
      have q := this ((rnR row l).map (·.1)) hL ((rnR row l).map (·.1)) [] 0 k rfl (by simp) (fun s hs => by
          obtain ⟨t, ht, rfl⟩ := List.mem_map.mp hs
          rw [(rnR_all l row h.1.2 h.1.1.2 h.2.2 t ht).2.1]; omega) (by omega)
      simp only [List.nil_append, List.map_map] at q
      exact q
    · rw [decide_eq_false q, if_neg (fun z => q z.2)]
      simp only [spec_HeldAlong.j0, Bool.not_false, if_true]
  · rw [if_neg (by simp only [decide_eq_true_eq]; exact h), if_neg (fun z => h z.1)]
    simp only [spec_HeldAlong.j0, if_true]
/-- what is needed of the basin behind the first j -/
def need (row : List S30) (j : Nat) (l : List Int) : Int :=
  nd (rd_T30 row (j : Int)).f1 (if 1 < (rd_T30 row (j : Int)).f2 then (rd_T30 row (j : Int)).f2 else 1) (rd_T30 row (j : Int)).f2 ((rnR (row.take j) l).map (·.2.2))
def aLeast (row : List S30) (i : Int) (l : List Int) : Int × Bool := if (ROk row ∧ FOk l) ∧ (0 ≤ i ∧ i ≤ (row.length : Int) - 1) then (if need row i.toNat l > 1000 then (0, false) else (need row i.toNat l, true)) else (0, false)
theorem least_l0 (row : List S30) (j : Nat) (hj : j < row.length) (h6 : row.length ≤ 6) (hb : BOk (rd_T30 row (j : Int))) (l : List Int) (hl : FOk l) : ∀ (r : List Int) (ah : List S30) (m h : Int) (i k : Nat), l.drop i = r → AllB ah → ah.length ≤ 6 → 0 ≤ h → h ≤ 1000 + 7000 * (i : Int) → 0 ≤ m → m ≤ 1000 + 7000 * (i : Int) → r.length + 1500 < k →
    impl_LeastSize.l0 k row (j : Int) m h ah l (l.length : Int) (i : Int) = if nd (rd_T30 row (j : Int)).f1 m h ((rnR ah r).map (·.2.2)) > 1000 then some (0, false) else some (nd (rd_T30 row (j : Int)).f1 m h ((rnR ah r).map (·.2.2)), true)
  | r, ah, m, h, i, 0, _, _, _, _, _, _, _, hk => by omega
  | [], ah, m, h, i, k + 1, e, _, _, _, _, _, _, _ => by
    have := dropn e
    simp only [impl_LeastSize.l0]; rw [if_neg (by omega)]; simp [rnR, nd]
  | f :: r, ah, m, h, i, k + 1, e, ha, hn, h0, h1, m0, m1, hk => by
    obtain ⟨e1, e2, e3⟩ := dropc e
    have hf := hl.dropm e f (List.mem_cons_self ..)
    have h60 := hl.1
    have hh := hldb ha hn
    have t := tkR_ok ah f ha hf.1
    have h2 := hldb t.1 (by rw [t.2.1]; exact hn)
    have hb1 := hb.2.1
    simp only [List.length_cons] at hk
    simp only [impl_LeastSize.l0]
    rw [if_pos (by omega), if_pos (by omega), if_pos (by omega), rd_nat, e2, tick_impl k ah f (by omega) ha hf.1 (by omega) (by omega), Option.bind_some, if_pos (by omega), if_pos (by omega), w64 (x := h + (tkR ah f).2.2) (by omega) (by omega), w64 (x := h + (tkR ah f).2.2 - (rd_T30 row (j : Int)).f1) (by omega) (by omega), nx1 i (by omega)]
    have g0 := t.2.2.2.2.1
    have ih := least_l0 row j hj h6 hb l hl r (tkR ah f).1 (mx m (h + (tkR ah f).2.2)) (mx 0 (h + (tkR ah f).2.2 - (rd_T30 row (j : Int)).f1)) (i + 1) k e3 t.1 (by rw [t.2.1]; exact hn) (by unfold mx; split <;> omega) (by unfold mx; split <;> omega) (by unfold mx; split <;> omega) (by unfold mx; split <;> omega) (by omega)
    rw [ih]
    rfl
theorem rdT_mem {row : List S30} {j : Nat} (hj : j < row.length) : rd_T30 row (j : Int) ∈ row := by
  rw [rdT_nat, List.getD_eq_getElem?_getD, List.getElem?_eq_getElem hj]; exact List.getElem_mem hj
theorem LeastI (k : Nat) (row : List S30) (i : Int) (l : List Int) (hr : row.length ≤ 1000) (hk : 3000 < k) : impl_LeastSize.f k row i l = some (aLeast row i l) := by
  unfold impl_LeastSize.f impl_isBasinOf.f aLeast
  rw [row_impl, Option.bind_some]
  by_cases h : ROk row
  · rw [if_pos (decide_eq_true h), fl_impl, Option.bind_some]
    by_cases g : FOk l
    · rw [if_pos (decide_eq_true g), w64 (by omega) (by omega), in_impl, Option.bind_some, Option.bind_some]
      by_cases q : 0 ≤ i ∧ i ≤ (row.length : Int) - 1
      · obtain ⟨j, rfl⟩ : ∃ j : Nat, i = (j : Int) := ⟨i.toNat, by omega⟩
        have h60 := g.1
        have h6 := h.1.2
        have hb := h.2 _ (rdT_mem (show j < row.length by omega))
        have hb' := hb
        obtain ⟨b0, b1, b2⟩ := hb'
        rw [if_pos (decide_eq_true q), if_pos (show (ROk row ∧ FOk l) ∧ (0 ≤ (j : Int) ∧ (j : Int) ≤ (row.length : Int) - 1) from ⟨⟨h, g⟩, q⟩), if_pos (show (0 : Int) ≤ (j : Int) by omega), if_pos (show (j : Int) < (row.length : Int) by omega), if_pos (show (j : Int) ≤ (row.length : Int) by omega), Int.toNat_natCast]
        unfold impl_Basin_63.f
        rw [if_pos (by simp; omega), Option.bind_some]
        have := least_l0 row j (by omega) h6 hb l g l (row.take j) (mx 1 (rd_T30 row (j : Int)).f2) (rd_T30 row (j : Int)).f2 0 k rfl (fun x hx => h.2 x (List.mem_of_mem_take hx)) (by simp; omega) (by omega) (by omega) (by unfold mx; split <;> omega) (by unfold mx; split <;> omega) (by omega)
        have en : nd (rd_T30 row (j : Int)).f1 (mx 1 (rd_T30 row (j : Int)).f2) (rd_T30 row (j : Int)).f2 ((rnR (row.take j) l).map (·.2.2)) = need row j l := rfl
        rw [en] at this
        refine this.trans ?_
        split <;> rfl
      · rw [if_neg (by simp only [decide_eq_true_eq]; exact q), if_neg (fun z => q z.2)]
    · rw [if_neg (by simp only [decide_eq_true_eq]; exact g), Option.bind_some, if_neg (by simp), if_neg (fun q => g q.1.2)]
  · rw [if_neg (by simp only [decide_eq_true_eq]; exact h), Option.bind_some, if_neg (by simp), if_neg (fun q => h q.1.1)]
/-- the row with another size at j -/
def siz (row : List S30) (j : Nat) (s : Int) : List S30 := row.set j ⟨s, (rd_T30 row (j : Int)).f1, (rd_T30 row (j : Int)).f2⟩
theorem siz_ok {row : List S30} (h : ROk row) {j : Nat} (hj : j < row.length) {s : Int} (h1 : 1 ≤ s) (h2 : (rd_T30 row (j : Int)).f2 ≤ s) (h3 : s ≤ 1000) : ROk (siz row j s) := by
  have hb := h.2 _ (rdT_mem hj)
  refine ⟨by unfold siz; rw [List.length_set]; exact h.1, fun x hx => ?_⟩
  rcases List.mem_or_eq_of_mem_set hx with q | q
  · exact h.2 x q
  · rw [q]; exact ⟨⟨h1, h3⟩, hb.2.1, hb.2.2.1, h2⟩
theorem siz_split {row : List S30} {j : Nat} (hj : j < row.length) (s : Int) : siz row j s = row.take j ++ ⟨s, (rd_T30 row (j : Int)).f1, (rd_T30 row (j : Int)).f2⟩ :: row.drop (j + 1) := by
  unfold siz; rw [List.set_eq_take_append_cons_drop, if_pos hj]
/-- with the size s nothing spills of it just if it is needed -/
theorem siz_none {row : List S30} (h : ROk row) {l : List Int} (g : FOk l) {j : Nat} (hj : j < row.length) {s : Int} (h1 : 1 ≤ s) (h2 : (rd_T30 row (j : Int)).f2 ≤ s) :
    (∀ x ∈ (rnR (siz row j s) l).map (fun t => t.2.1.getD j 0), x = 0) ↔ need row j l ≤ s := by
  have hb := h.2 _ (rdT_mem hj)
  have hl : ∀ x ∈ l, 0 ≤ x := fun x hx => (g.2 x hx).1
  have ha : AllB (row.take j) := fun x hx => h.2 x (List.mem_of_mem_take hx)
  have e := sp_at l (row.take j) (⟨s, (rd_T30 row (j : Int)).f1, (rd_T30 row (j : Int)).f2⟩ : S30) (row.drop (j + 1)) hl ha
  rw [List.length_take, show min j row.length = j by omega] at e
  rw [siz_split hj, e, sp_none _ s _ _ h1 hb.2.1.1 hb.2.2.1 h2 (given_all l (row.take j) ha hl).2]
  unfold need
  rw [nd_le]
  exact ⟨fun q => ⟨by split <;> omega, q⟩, fun q => q.2⟩
theorem flag_l1 (row : List S30) (j : Nat) (l : List Int) (s : Int) (L : List (List Int)) (hL : L.length ≤ 1000) : ∀ (r : List (List Int)) (w v : Bool) (i k : Nat), (w || r.any (fun t => decide (t.getD j 0 > 0))) = v → L.drop i = r → (∀ t ∈ r, j < t.length) → r.length < k →
    spec_LeastSize.l1 k row (j : Int) l s w L (L.length : Int) (i : Int) = if v = true then spec_LeastSize.l0 (k - r.length - 1) row (j : Int) l (wrap64 (s + 1)) else some (s, true)
  | r, w, v, i, 0, _, _, _, hk => by omega
  | [], w, v, i, k + 1, hv, e, _, _ => by
    have := dropn e
    have : w = v := by simpa using hv
    subst this
    simp only [spec_LeastSize.l1]; rw [if_neg (by omega)]; simp
  | t :: r, w, v, i, k + 1, hv, e, ht, hk => by
    obtain ⟨e1, e2, e3⟩ := dropc e
    have ih := fun w hv => flag_l1 row j l s L hL r w v (i + 1) k hv e3 (fun z hz => ht z (List.mem_cons_of_mem _ hz)) (by simpa using hk)
    have ek : k + 1 - (t :: r).length - 1 = k - r.length - 1 := by simp
    have q := ht t (List.mem_cons_self ..)
    simp only [spec_LeastSize.l1]
    rw [if_pos (by omega), if_pos (by omega), if_pos (by omega), nx1 i (by omega), ek]
    cases w with
    | true => rw [if_pos rfl]; exact ih true (by rw [← hv]; simp)
    | false =>
      rw [if_neg (by simp), if_pos (by omega), rd4_nat, e2, if_pos (by omega), rd_nat]
      exact ih _ (by rw [← hv]; simp)
theorem leastS_l0 (row : List S30) (h : ROk row) (l : List Int) (g : FOk l) (j : Nat) (hj : j < row.length) : ∀ (d : Nat) (s : Int) (k : Nat), s + d = 1001 → 1 ≤ s → (rd_T30 row (j : Int)).f2 ≤ s → s ≤ need row j l → 70 * d + 3000 < k →
    spec_LeastSize.l0 k row (j : Int) l s = if need row j l > 1000 then some (0, false) else some (need row j l, true)
  | d, s, 0, _, _, _, _, hk => by omega
  | 0, s, k + 1, hd, h1, h2, h3, hk => by
    simp only [spec_LeastSize.l0]
    rw [if_neg (by omega), if_pos (by omega)]
  | d + 1, s, k + 1, hd, h1, h2, h3, hk => by
    have h6 := h.1.2
    have h60 := g.1
    have ok := siz_ok h hj h1 h2 (by omega)
    have sn := siz_none h g hj h1 h2
    have spi := sp_in ok g
    simp only [spec_LeastSize.l0]
    rw [if_pos (by omega), Option.bind_some, if_pos (by simp; omega), Option.bind_some, if_pos (by omega), if_pos (by omega), if_pos (by simp; omega), List.nil_append, Int.toNat_natCast]
    show ((spec_weGo.f k (siz row j s) l).bind _) = _
    rw [go_spec k ok g (by omega), Option.bind_some]
    have hL : ((rnR (siz row j s) l).map (·.2.1)).length ≤ 60 := by rw [List.length_map, rnR_len]; exact h60
    have hlen : ∀ t ∈ (rnR (siz row j s) l).map (·.2.1), j < t.length := fun t ht => by rw [(spi t ht).1]; unfold siz; rw [List.length_set]; exact hj
    have hpos : ∀ t ∈ (rnR (siz row j s) l).map (·.2.1), 0 ≤ t.getD j 0 := fun t ht => by
      have := hlen t ht
      rw [List.getD_eq_getElem?_getD, List.getElem?_eq_getElem this]
      exact ((spi t ht).2 _ (List.getElem_mem this)).1
    have any : (((rnR (siz row j s) l).map (·.2.1)).any (fun t => decide (t.getD j 0 > 0))) = !(decide (need row j l ≤ s)) := by
      refine Bool.eq_iff_iff.mpr ?_
      rw [List.any_eq_true, Bool.not_eq_true', decide_eq_false_iff_not, ← sn]
      constructor
      · rintro ⟨t, ht, q⟩ z
        obtain ⟨u, hu, rfl⟩ := List.mem_map.mp ht
        have := z _ (List.mem_map.mpr ⟨u, hu, rfl⟩)
        simp only [decide_eq_true_eq] at q
        omega
      · intro z
        refine Classical.byContradiction fun n => z fun x hx => ?_
        obtain ⟨u, hu, rfl⟩ := List.mem_map.mp hx
        have p := hpos _ (List.mem_map.mpr ⟨u, hu, rfl⟩)
        refine Classical.byContradiction fun nz => n ⟨u.2.1, List.mem_map.mpr ⟨u, hu, rfl⟩, decide_eq_true (by omega)⟩
    refine (flag_l1 row j l s ((rnR (siz row j s) l).map (·.2.1)) (by omega) ((rnR (siz row j s) l).map (·.2.1)) false (!(decide (need row j l ≤ s))) 0 k (by rw [Bool.false_or]; exact any) rfl hlen (by omega)).trans ?_
    by_cases c : need row j l ≤ s
    · rw [decide_eq_true c, if_neg (by simp), if_neg (by omega), show need row j l = s by omega]
    · rw [decide_eq_false c, if_pos (by simp), w64 (x := s + 1) (by omega) (by omega)]
      exact leastS_l0 row h l g j hj d (s + 1) _ (by omega) (by omega) (by omega) (by omega) (by omega)
theorem LeastS (k : Nat) (row : List S30) (i : Int) (l : List Int) (hr : row.length ≤ 1000) (hl : l.length ≤ 1000) (hk : 100000 < k) : spec_LeastSize.f k row i l = some (aLeast row i l) := by
  obtain ⟨k, rfl⟩ : ∃ m, k = m + 1 := ⟨k - 1, by omega⟩
  unfold spec_LeastSize.f aLeast
  rw [ask_spec (k + 1) row l hr hl (by omega), Option.bind_some]
  by_cases h : ROk row ∧ FOk l
  · rw [if_pos (decide_eq_true h), w64 (by omega) (by omega), in_spec, Option.bind_some]
    by_cases q : 0 ≤ i ∧ i ≤ (row.length : Int) - 1
    · obtain ⟨j, rfl⟩ : ∃ j : Nat, i = (j : Int) := ⟨i.toNat, by omega⟩
      have hb := h.1.2 _ (rdT_mem (show j < row.length by omega))
      obtain ⟨b0, b1, b2⟩ := hb
      have m1 : spec_l1Most.f 1 (rd_T30 row (j : Int)).f2 = some (if 1 < (rd_T30 row (j : Int)).f2 then (rd_T30 row (j : Int)).f2 else 1) := by unfold spec_l1Most.f; split <;> split <;> first | rfl | (congr 1; omega) | omega
      have hge := nd_ge (rd_T30 row (j : Int)).f1 ((rnR (row.take j) l).map (·.2.2)) (if 1 < (rd_T30 row (j : Int)).f2 then (rd_T30 row (j : Int)).f2 else 1) (rd_T30 row (j : Int)).f2
      rw [decide_eq_true q, if_pos (show (ROk row ∧ FOk l) ∧ (0 ≤ (j : Int) ∧ (j : Int) ≤ (row.length : Int) - 1) from ⟨h, q⟩), Int.toNat_natCast]
      simp only [spec_LeastSize.j0, Bool.not_true, Bool.false_eq_true, if_false]
      rw [if_pos (by omega), if_pos (by omega), m1, Option.bind_some]
      obtain ⟨s, hs⟩ : ∃ s, s = (if 1 < (rd_T30 row (j : Int)).f2 then (rd_T30 row (j : Int)).f2 else 1) := ⟨_, rfl⟩
      have hs1 : 1 ≤ s ∧ (rd_T30 row (j : Int)).f2 ≤ s ∧ s ≤ 1000 := by rw [hs]; split <;> omega
      rw [← hs] at hge ⊢
      rw [leastS_l0 row h.1 l h.2 j (by omega) (1001 - s).toNat s k (by omega) hs1.1 hs1.2.1 (by unfold need; rw [← hs]; exact hge) (by omega)]
      split <;> rfl
    · rw [decide_eq_false q, if_neg (fun z => q z.2)]
      simp only [spec_LeastSize.j0, Bool.not_false, if_true]
  · rw [if_neg (by simp only [decide_eq_true_eq]; exact h), if_neg (fun z => h z.1)]
    simp only [spec_LeastSize.j0, if_true]
end Go.Proofs.Ytflbcikfphfkdaa.PuB
