/- Plain functions and what they come to. -/
import Derived.Test.YtflbcikfphfkdaaQwPuW7
import Derived.Test.YtflbcikfphfkdaaQwRz7
namespace Go.Proofs.Ytflbcikfphfkdaa.PuB
open Go.RowKit Go.Proofs.Ytflbcikfphfkdaa.R Go.Proofs.YtflbcikfphfkdaaW.PrintLast Go.Proofs.YtflbcikfphfkdaaW.PrintMore
open Go.Proofs.YtflbcikfphfkdaaW.PrintWords hiding Ev
set_option linter.unusedVariables false
set_option linter.unusedSimpArgs false
theorem rk_app {a b : List S30} (ha : ROk a) (hb : ROk b) (h : a.length + b.length ≤ 6) : ROk (a ++ b) := by
  refine ⟨⟨by have := ha.1.1; simp; omega, by simpa using h⟩, fun x hx => ?_⟩
  rcases List.mem_append.mp hx with q | q
  · exact ha.2 x q
  · exact hb.2 x q
theorem give_bd {row : List S30} (h : AllB row) (hn : row.length ≤ 6) : ∀ (l : List Int), (∀ x ∈ l, 0 ≤ x ∧ x ≤ 1000) → ∀ x ∈ (rnR row l).map (·.2.2), 0 ≤ x ∧ x ≤ 7000
  | [], _ => by simp [rnR]
  | f :: l, hl => by
    have hf := hl f (List.mem_cons_self ..)
    have t := tkR_ok row f h hf.1
    have hh := hldb h hn
    have h2 := hldb t.1 (by rw [t.2.1]; exact hn)
    intro x hx
    simp only [rnR, List.map_cons] at hx
    rcases List.mem_cons.mp hx with e | e
    · subst e; omega
    · exact give_bd t.1 (by rw [t.2.1]; exact hn) l (fun y hy => hl y (List.mem_cons_of_mem _ hy)) x e
theorem splA_in (n : Nat) : ∀ (L : List (List Int)) (a : List Int) (B : Int), (∀ x ∈ a, 0 ≤ x ∧ x ≤ B) → (∀ s ∈ L, s.length = n ∧ ∀ x ∈ s, 0 ≤ x ∧ x ≤ 7000) → ∀ x ∈ splA a L, 0 ≤ x ∧ x ≤ B + 7000 * (L.length : Int)
  | [], a, B, ha, _ => fun x hx => by have := ha x hx; simp; omega
  | s :: L, a, B, ha, hL => fun x hx => by
    have := splA_in n L (addL a s) (B + 7000) (fun z hz => by have := addL_in a s ha (hL s (List.mem_cons_self ..)).2 (by omega) z hz; omega) (fun z hz => hL z (List.mem_cons_of_mem _ hz)) x hx
    simp only [List.length_cons]; omega
theorem rd_last : ∀ (l : List Int), l ≠ [] → some (rd l ((l.length : Int) - 1)) = l.getLast? := fun l h => by
  have h1 : 0 < l.length := List.length_pos_iff.mpr h
  rw [show (l.length : Int) - 1 = ((l.length - 1 : Nat) : Int) by omega, rd_nat, List.getLast?_eq_getElem?, List.getD_eq_getElem?_getD, List.getElem?_eq_getElem (by omega)]
  rfl
theorem j10_ok {l1 : List Int} (b1 : Bytes l1) (k : Nat) (hk : 2000 < k) : laws_FnRowsKeepWater.j10 k l1 = some true := by
  obtain ⟨k, rfl⟩ : ∃ m, k = m + 1 := ⟨k - 1, by omega⟩
  obtain ⟨f, e, h62⟩ := wdrawT b1 k (by omega)
  simp only [laws_FnRowsKeepWater.j10]
  have ht : (aTot f).1.length ≤ 62 := by
    unfold aTot
    by_cases c : FOk f
    · rw [if_pos c]; simp only [tot_len]; exact h62
    · rw [if_neg c]; simp
  rw [e, Option.bind_some, TotI k f (by omega), Option.bind_some, TotS k f (by omega) (by omega), Option.bind_some, if_pos (by simp), hSame_f k _ (by omega) (by omega), Option.bind_some, if_pos rfl, fl_impl, Option.bind_some, FlS k f (by omega) (by omega)]
  have h2 : (aTot f).2 = decide (FOk f) := by
    unfold aTot
    by_cases c : FOk f
    · rw [if_pos c]; exact (decide_eq_true c).symm
    · rw [if_neg c]; exact (decide_eq_false c).symm
  rw [h2, if_pos (by simp), Option.bind_some, Option.bind_some, if_pos (by simp)]
  unfold aTot
  by_cases c : FOk f
  · rw [if_pos c]
    simp only [tot_len]
    have h60 := c.1
    by_cases z : (f.length : Int) = 0
    · rw [if_pos z]
    · rw [if_neg z, w64 (by omega) (by omega), if_pos (by omega), if_pos (by omega), hSum_f k f 1000 (by omega) (by omega) c.2 (by omega), Option.bind_some]
      have hne : f ≠ [] := fun q => z (by rw [q]; rfl)
      have q := rd_last (tot 0 f) (fun q => hne (List.length_eq_zero_iff.mp (by rw [← tot_len f 0, q]; rfl)))
      rw [tot_last f 0 hne, tot_len] at q
      have q := Option.some.inj q
      rw [q]; simp
  · rw [if_neg c]
    simp only [List.length_nil]
    rw [if_pos (by rfl)]
theorem j9_ok {l1 : List Int} (b1 : Bytes l1) (k : Nat) (hk : 3000 < k) (b : List S30) (y z : List Int) (hy : y.length ≤ 60) (h : FOk y → (aRun b y) = (z, true)) : laws_FnRowsKeepWater.j9 k l1 b y z false = some true := by
  obtain ⟨k, rfl⟩ : ∃ m, k = m + 1 := ⟨k - 1, by omega⟩
  simp only [laws_FnRowsKeepWater.j9]
  rw [if_neg (by simp), fl_impl, Option.bind_some]
  by_cases c : FOk y
  · have e := h c
    have hz : z.length ≤ 60 := by
      have : z = (aRun b y).1 := by rw [e]
      rw [this]; unfold aRun
      split
      · rw [List.length_map, rnR_len]; exact hy
      · simp
    rw [if_pos (decide_eq_true c), RunI k b y (by omega), e, Option.bind_some, if_pos rfl, hSame_f k z (by omega) (by omega), Option.bind_some, if_pos rfl]
    exact j10_ok b1 k (by omega)
  · rw [if_neg (by simp only [decide_eq_true_eq]; exact c)]
    exact j10_ok b1 k (by omega)
theorem j8_ok {l1 : List Int} (b1 : Bytes l1) (k : Nat) (hk : 4000 < k) (a b : List S30) (l : List Int) (c : List S30) (x : Bool) (h : x = true → (ROk a ∧ ROk b) ∧ a.length + b.length ≤ 6 ∧ c = a ++ b ∧ FOk l) : laws_FnRowsKeepWater.j8 k l1 l a b c x = some true := by
  obtain ⟨k, rfl⟩ : ∃ m, k = m + 1 := ⟨k - 1, by omega⟩
  simp only [laws_FnRowsKeepWater.j8]
  cases x with
  | false => rw [if_neg (by simp)]; exact j10_ok b1 k (by omega)
  | true =>
    obtain ⟨⟨ha, hb⟩, hn, rfl, hl⟩ := h rfl
    have e1 : aRun a l = ((rnR a l).map (·.2.2), true) := if_pos ⟨ha, hl⟩
    have e2 : aRun (a ++ b) l = ((rnR (a ++ b) l).map (·.2.2), true) := if_pos ⟨rk_app ha hb hn, hl⟩
    rw [if_pos rfl, RunI k a l (by omega), Option.bind_some, RunI k (a ++ b) l (by omega), Option.bind_some, e1, e2, if_pos rfl]
    refine j9_ok b1 k (by omega) b _ _ (by rw [List.length_map, rnR_len]; exact hl.1) (fun q => ?_)
    rw [rnR_append]
    exact if_pos ⟨hb, q⟩
theorem j6_ok {l1 : List Int} (b1 : Bytes l1) (k : Nat) (hk : 5000 < k) (l : List Int) : laws_FnRowsKeepWater.j6 k l1 l = some true := by
  obtain ⟨k, rfl⟩ : ∃ m, k = m + 1 := ⟨k - 1, by omega⟩
  obtain ⟨a, b, e, ha, hb⟩ := wdrawJ b1 k (by omega)
  simp only [laws_FnRowsKeepWater.j6]
  have hj : (aJoin a b).1.length ≤ 16 := by
    unfold aJoin
    split
    · simp; omega
    · simp
  rw [e, Option.bind_some]
  simp only []
  rw [JoinI k a b (by omega), Option.bind_some, JoinS k a b (by omega) (by omega) (by omega), Option.bind_some, if_neg (by simp), hBas_f k _ (by omega) (by omega), Option.bind_some]
  obtain ⟨k, rfl⟩ : ∃ m, k = m + 1 := ⟨k - 1, by omega⟩
  simp only [laws_FnRowsKeepWater.j7, Bool.not_true, Bool.false_eq_true, if_false]
  by_cases c : (ROk a ∧ ROk b) ∧ a.length + b.length ≤ 6
  · have e1 : aJoin a b = (a ++ b, true) := if_pos c
    rw [e1, if_pos rfl, fl_impl, Option.bind_some]
    exact j8_ok b1 k (by omega) a b l _ _ (fun q => ⟨c.1, c.2, rfl, by simpa using q⟩)
  · have e1 : aJoin a b = ([], false) := if_neg c
    rw [e1, if_neg (by simp)]
    exact j8_ok b1 k (by omega) a b l _ _ (fun q => by cases q)
theorem l1_ok {l1 : List Int} (b1 : Bytes l1) {row : List S30} {l : List Int} (h : ROk row) (g : FOk l) : ∀ (d i k : Nat), i + d = row.length → d + 6000 < k → laws_FnRowsKeepWater.l1 k l1 row l (endR row l) (row.length : Int) (i : Int) = some true
  | d, i, 0, _, hk => by omega
  | 0, i, k + 1, hi, hk => by
    simp only [laws_FnRowsKeepWater.l1]
    rw [if_neg (by omega)]
    exact j6_ok b1 k (by omega) l
  | d + 1, i, k + 1, hi, hk => by
    have h60 := g.1
    have h6 := h.1.2
    have ee := endR_ok l row h.2 g.2
    have e : aAlong row (i : Int) l = ((rnR row l).map (fun t => (rd_T30 t.1 (i : Int)).f2), true) := if_pos ⟨⟨h, g⟩, by omega, by omega⟩
    have ih := l1_ok b1 h g d (i + 1) k (by omega) (by omega)
    simp only [laws_FnRowsKeepWater.l1]
    rw [if_pos (by omega), AlongI k row i l (by omega) (by omega), Option.bind_some, e, if_pos rfl]
    simp only [List.length_map, rnR_len]
    rw [if_pos trivial, nx1 i (by omega)]
    by_cases z : (l.length : Int) > 0
    · rw [if_pos z, w64 (by omega) (by omega), if_pos (by omega), if_pos (by omega), if_pos (by omega), if_pos (by rw [ee.2]; omega)]
      have hne : l ≠ [] := fun q => by rw [q] at z; simp at z
      have q := rd_last ((rnR row l).map (fun t => (rd_T30 t.1 (i : Int)).f2)) (fun q => by have := congrArg List.length q; rw [List.length_map, rnR_len] at this; simp at this; exact hne this)
      rw [List.length_map, rnR_len, show (rnR row l).map (fun t => (rd_T30 t.1 (i : Int)).f2) = ((rnR row l).map (·.1)).map (fun t => (rd_T30 t (i : Int)).f2) by rw [List.map_map]; rfl, List.getLast?_map, rnR_end, if_neg hne] at q
      have q := Option.some.inj q
      rw [show (rnR row l).map (fun t => (rd_T30 t.1 (i : Int)).f2) = ((rnR row l).map (·.1)).map (fun t => (rd_T30 t (i : Int)).f2) by rw [List.map_map]; rfl, if_pos q]
      exact ih
    · rw [if_neg z]; exact ih
theorem l0_ok {l1 : List Int} (b1 : Bytes l1) {row : List S30} {l : List Int} (h : ROk row) (g : FOk l) : ∀ (r : List Int) (now : List S30) (m : Int) (i k : Nat), l.drop i = r → ROk now → ((rnR row l).map (·.2.2)).drop i = (rnR now r).map (·.2.2) → endR now r = endR row l → pk m ((rnR now r).map (·.2.2)) = pk 0 ((rnR row l).map (·.2.2)) → 2 * r.length + 7000 < k →
    laws_FnRowsKeepWater.l0 k l1 row l ((rnR row l).map (·.2.2)) (endR row l) (pk 0 ((rnR row l).map (·.2.2))) now m l (l.length : Int) (i : Int) = some true
  | r, now, m, i, 0, _, _, _, _, _, hk => by omega
  | [], now, m, i, k + 1, e, hn, hG, hE, hp, hk => by
    have := dropn e
    have h6 := h.1.2
    simp only [rnR, List.map_nil, pk, endR] at hE hp
    subst hE
    rw [← hp]
    have ee := endR_ok l row h.2 g.2
    simp only [laws_FnRowsKeepWater.l0]
    rw [if_neg (by omega), hBas_f k _ (by have := hn.1.2; omega) (by omega), Option.bind_some, if_pos rfl]
    obtain ⟨k, rfl⟩ : ∃ m, k = m + 1 := ⟨k - 1, by omega⟩
    simp only [laws_FnRowsKeepWater.j4, bne_self_eq_false, Bool.false_eq_true, if_false]
    exact l1_ok b1 h g row.length 0 k (by omega) (by omega)
  | f :: r, now, m, i, k + 1, e, hn, hG, hE, hp, hk => by
    obtain ⟨e1, e2, e3⟩ := dropc e
    have h60 := g.1
    have hf := g.dropm e f (List.mem_cons_self ..)
    have t := tkR_ok now f hn.2 hf.1
    simp only [rnR, List.map_cons, pk, endR] at hG hE hp
    obtain ⟨d1, d2, d3⟩ := dropc hG
    have ht : aTick now f = ((tkR now f).1, (tkR now f).2.2, true) := if_pos ⟨hn, hf⟩
    have hr : ROk (tkR now f).1 := ⟨⟨by rw [t.2.1]; exact hn.1.1, by rw [t.2.1]; exact hn.1.2⟩, t.1⟩
    simp only [List.length_cons] at hk
    simp only [laws_FnRowsKeepWater.l0]
    rw [if_pos (by omega), if_pos (by omega), if_pos (by omega), rd_nat, e2, TickI k now f (by omega), Option.bind_some, ht, if_pos rfl, if_pos (by omega), rd_nat, d2, if_pos rfl, row_impl, Option.bind_some, decide_eq_true hr]
    obtain ⟨k, rfl⟩ : ∃ m, k = m + 1 := ⟨k - 1, by omega⟩
    simp only [laws_FnRowsKeepWater.j3, Bool.not_true, Bool.false_eq_true, if_false]
    rw [nx1 i (by omega)]
    by_cases c : (tkR now f).2.2 > m
    · rw [if_pos c]
      rw [if_pos (show m < (tkR now f).2.2 from c)] at hp
      exact l0_ok b1 h g r _ _ (i + 1) k e3 hr d3 hE hp (by omega)
    · rw [if_neg c]
      rw [if_neg (show ¬ m < (tkR now f).2.2 from c)] at hp
      exact l0_ok b1 h g r _ _ (i + 1) k e3 hr d3 hE hp (by omega)
theorem j0_ok {l1 : List Int} (b1 : Bytes l1) {row : List S30} {l : List Int} (h : ROk row) (g : FOk l) (k : Nat) (hk : 8000 < k) :
    laws_FnRowsKeepWater.j0 k l1 row l ((rnR row l).map (·.2.2)) true (endR row l) (splA (List.replicate row.length 0) ((rnR row l).map (·.2.1))) (fstS 0 ((rnR row l).map (·.2.1))).2.2 (pk 0 ((rnR row l).map (·.2.2))) true false = some true := by
  obtain ⟨k, rfl⟩ : ∃ m, k = m + 1 := ⟨k - 1, by omega⟩
  have h60 := g.1
  have h6 := h.1.2
  have ee := endR_ok l row h.2 g.2
  have er : ROk (endR row l) := ⟨by rw [ee.2]; exact h.1, ee.1⟩
  have a1 : aHeld row = (hld row, true) := if_pos h
  have a2 : aHeld (endR row l) = (hld (endR row l), true) := if_pos er
  have gb := give_bd h.2 h6 l g.2
  have gl : ((rnR row l).map (·.2.2)).length ≤ 60 := by rw [List.length_map, rnR_len]; exact h60
  have s1 := sm_bd 1000 l g.2
  have s2 := sm_bd 7000 _ gb
  have q2 : 7000 * ((((rnR row l).map (·.2.2)).length : Nat) : Int) ≤ 7000 * 60 := Int.mul_le_mul_of_nonneg_left (by omega) (by omega)
  have hh := hldb h.2 h6
  have he := hldb er.2 er.1.2
  have cons := rnR_sum l row h.2 g.2
  have spi := sp_in h g
  have z0 : ∀ x ∈ List.replicate row.length (0 : Int), 0 ≤ x ∧ x ≤ 0 := fun x hx => by rw [List.eq_of_mem_replicate hx]; simp
  have si := splA_in row.length ((rnR row l).map (·.2.1)) (List.replicate row.length 0) 0 z0 spi
  have sl : (splA (List.replicate row.length 0) ((rnR row l).map (·.2.1))).length ≤ 6 := by rw [splA_len]; simpa using h6
  have sA : sm (splA (List.replicate row.length 0) ((rnR row l).map (·.2.1))) = smA ((rnR row l).map (·.2.1)) := by
    rw [splA_sm _ _ (fun s hs => by rw [(spi s hs).1]; simp)]
    have : ∀ n : Nat, sm (List.replicate n 0) = 0 := fun n => by
      induction n with
      | zero => rfl
      | succ n ih => rw [List.replicate_succ, sm_cons, ih]; rfl
    rw [this]; omega
  have fs := fstS_ok ((rnR row l).map (·.2.1)) 0 (fun s hs x hx => ((spi s hs).2 x hx).1)
  have lm : (((rnR row l).map (·.2.1)).length : Int) ≤ 60 := by rw [List.length_map, rnR_len]; omega
  simp only [laws_FnRowsKeepWater.j0, Bool.false_eq_true, if_false, if_true]
  rw [HeldI k row (by omega), Option.bind_some, HeldI k (endR row l) (by omega), Option.bind_some, a1, a2, if_pos rfl, if_pos rfl, hSum_f k l 1000 (by omega) (by omega) g.2 (by omega), Option.bind_some, hSum_f k _ 7000 (by omega) (by omega) gb (by omega), Option.bind_some]
  simp only []
  rw [w64 (x := hld row + sm l) (by omega) (by omega), w64 (x := hld row + sm l - sm ((rnR row l).map (·.2.2))) (by omega) (by omega), if_pos (by omega), if_pos (by rw [List.length_map, rnR_len]),
    hSum_f k _ (0 + 7000 * (((rnR row l).map (·.2.1)).length : Int)) (by omega) (by omega) si (by omega), Option.bind_some, sA, fs, bne_self_eq_false]
  obtain ⟨k, rfl⟩ : ∃ m, k = m + 1 := ⟨k - 1, by omega⟩
  simp only [laws_FnRowsKeepWater.j1, Bool.false_eq_true, if_false]
  exact l0_ok b1 h g l row 0 0 k rfl h rfl rfl rfl (by omega)
theorem law_w (l0 l1 : List Int) (b0 : Bytes l0) (b1 : Bytes l1) (k : Nat) (hk : 10000 < k) : laws_FnRowsKeepWater.f k l0 l1 = some true := by
  obtain ⟨b, hb⟩ : ∃ b, laws_big.f l0 l1 = some b := by unfold laws_big.f; split <;> exact ⟨_, rfl⟩
  unfold laws_FnRowsKeepWater.f
  rw [hb, Option.bind_some]
  cases b with
  | true => rw [if_pos rfl]
  | false =>
    obtain ⟨row, l, e, h8, h62⟩ := wdraw b0 k (by omega)
    rw [if_neg (by simp), e, Option.bind_some]
    simp only []
    rw [RunI k row l (by omega), Option.bind_some, RunS k row l (by omega) (by omega) (by omega), Option.bind_some, EndI k row l (by omega), Option.bind_some, EndS k row l (by omega) (by omega) (by omega), Option.bind_some, SplI k row l (by omega), Option.bind_some, SplS k row l (by omega) (by omega) (by omega), Option.bind_some,
      FstI k row l (by omega), Option.bind_some, FstS k row l (by omega) (by omega) (by omega), Option.bind_some, PeakI k row l (by omega), Option.bind_some, PeakS k row l (by omega) (by omega) (by omega), Option.bind_some, BackI k row l (by omega), Option.bind_some, BackS k row l (by omega) (by omega) (by omega), Option.bind_some]
    by_cases P : ROk row ∧ FOk l
    · have h60 := P.2.1
      have h6 := P.1.1.2
      have ee := endR_ok l row P.1.2 P.2.2
      have e1 : aRun row l = ((rnR row l).map (·.2.2), true) := if_pos P
      have e2 : aEnd row l = (endR row l, true) := if_pos P
      have e3 : aSpl row l = (splA (List.replicate row.length 0) ((rnR row l).map (·.2.1)), true) := if_pos P
      have e4 : aFst row l = fstS 0 ((rnR row l).map (·.2.1)) := if_pos P
      have e5 : aPeak row l = (pk 0 ((rnR row l).map (·.2.2)), true) := if_pos P
      have e6 : aBack row l = (true, true) := if_pos P
      rw [e1, e2, e3, e4, e5, e6]
      simp only [bne_self_eq_false, Bool.false_eq_true, if_false, if_true]
      rw [hSame_f k _ (by rw [List.length_map, rnR_len]; omega) (by omega), Option.bind_some, if_pos rfl, hBas_f k _ (by rw [ee.2]; omega) (by omega), Option.bind_some, if_pos rfl, hSame_f k _ (by rw [splA_len]; simp; omega) (by omega), Option.bind_some, if_pos rfl, row_impl, Option.bind_some, if_pos (decide_eq_true P.1), fl_impl, Option.bind_some, decide_eq_true P.2, bne_self_eq_false]
      exact j0_ok b1 P.1 P.2 k (by omega)
    · have e1 : aRun row l = ([], false) := if_neg P
      have e2 : aEnd row l = ([], false) := if_neg P
      have e3 : aSpl row l = ([], false) := if_neg P
      have e4 : aFst row l = (0, 0, false) := if_neg P
      have e5 : aPeak row l = (0, false) := if_neg P
      have e6 : aBack row l = (false, false) := if_neg P
      rw [e1, e2, e3, e4, e5, e6]
      simp only [bne_self_eq_false, Bool.false_eq_true, if_false, if_true]
      rw [hSame_f k _ (by simp) (by omega), Option.bind_some, if_pos rfl, hBas_f k _ (by simp) (by omega), Option.bind_some, if_pos rfl, Option.bind_some, if_pos rfl, row_impl, Option.bind_some]
      obtain ⟨k, rfl⟩ : ∃ m, k = m + 1 := ⟨k - 1, by omega⟩
      have fin : laws_FnRowsKeepWater.j0 (k + 1) l1 row l [] false [] [] false 0 false false = some true := by
        simp only [laws_FnRowsKeepWater.j0, Bool.false_eq_true, if_false]
        exact j6_ok b1 k (by omega) l
      by_cases c : ROk row
      · rw [if_pos (decide_eq_true c), fl_impl, Option.bind_some, decide_eq_false (fun q => P ⟨c, q⟩), bne_self_eq_false]
        exact fin
      · rw [if_neg (by simp only [decide_eq_true_eq]; exact c)]
        exact fin
theorem FnRowsKeepWater : laws_FnRowsKeepWater.Pure := by
  intro l0 l1 _ h0 w0 _ h1 w1
  exact ⟨10001, law_w l0 l1 (bytes_of l0 h0 w0) (bytes_of l1 h1 w1) 10001 (by omega)⟩
end Go.Proofs.Ytflbcikfphfkdaa.PuB
