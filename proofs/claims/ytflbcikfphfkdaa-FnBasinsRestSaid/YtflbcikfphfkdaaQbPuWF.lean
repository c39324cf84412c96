/- Plain functions and what they come to. -/
import Derived.Test.YtflbcikfphfkdaaQbPuWE
import Derived.Test.YtflbcikfphfkdaaQbRz10
namespace Go.Proofs.Ytflbcikfphfkdaa.PuB
open Go.RowKit Go.Proofs.Ytflbcikfphfkdaa.R Go.Proofs.YtflbcikfphfkdaaW.PrintLast Go.Proofs.YtflbcikfphfkdaaW.PrintMore
open Go.Proofs.YtflbcikfphfkdaaW.PrintWords hiding Ev
set_option linter.unusedVariables false
set_option linter.unusedSimpArgs false
theorem mono_iter {α : Type} {g : Nat → Option α} (h : ∀ k, LeO (g k) (g (k + 1))) {k : Nat} {r : α} (e : g k = some r) : ∀ j, k ≤ j → g j = some r := by
  intro j hj
  obtain ⟨d, rfl⟩ : ∃ d, j = k + d := ⟨j - k, by omega⟩
  induction d with
  | zero => exact e
  | succ d ih => exact h _ _ (ih (by omega))
theorem flow_ok {l : List Int} (hb : Bytes l) (p s : Int) (h0 : 0 ≤ p) (hp : p ≤ 100000000) : ∃ x p' s', spec_l1Cur_flow.f l p s = some (x, p', s') := by
  unfold spec_l1Cur_flow.f
  obtain ⟨b, p1, s1, q, a, c⟩ := one_ok hb p s 12 h0 (by omega) (by omega)
  rw [q, Option.bind_some]
  simp only []
  cases b with
  | true =>
    rw [if_pos rfl]
    obtain ⟨x, p2, s2, q2, _⟩ := among_ok hb p1 s1 [(-1), 0, 1000, 1001] (by omega) (by omega) (by simp) (by simp)
    rw [q2, Option.bind_some]; exact ⟨_, _, _, rfl⟩
  | false =>
    rw [if_neg (by simp)]
    obtain ⟨x, p2, s2, q2, _⟩ := pick_ok hb p1 s1 9 (by omega) (by omega) (by omega)
    rw [q2, Option.bind_some]; exact ⟨_, _, _, rfl⟩
theorem drawE {l : List Int} (hb : Bytes l) (k : Nat) (hk : 1000 < k) : ∃ r, spec_DrawTicksToEmpty.f k l = some r ∧ r.length ≤ 8 := by
  unfold spec_DrawTicksToEmpty.f spec_DrawIsRow.f
  obtain ⟨r, p, s, q, _, h8, _, _⟩ := wrow_ok hb 0 0 4 (by omega) (by omega) (by omega) k hk
  rw [q, Option.bind_some, Option.bind_some]; exact ⟨_, rfl, h8⟩
theorem drawK {l : List Int} (hb : Bytes l) (k : Nat) (hk : 1000 < k) : ∃ r f, spec_DrawTickRow.f k l = some (r, f) ∧ r.length ≤ 8 := by
  unfold spec_DrawTickRow.f
  obtain ⟨r, p, s, q, _, h8, h0, hp⟩ := wrow_ok hb 0 0 4 (by omega) (by omega) (by omega) k hk
  rw [q, Option.bind_some]
  simp only []
  obtain ⟨x, p2, s2, q2⟩ := flow_ok hb p s h0 (by omega)
  rw [q2, Option.bind_some]; exact ⟨_, _, rfl, h8⟩
theorem drawSt {l : List Int} (hb : Bytes l) (k : Nat) (hk : 1000 < k) : ∃ r f, spec_DrawSteadyHeld.f k l = some (r, f) ∧ r.length ≤ 8 := by
  unfold spec_DrawSteadyHeld.f
  obtain ⟨r, f, q, h8⟩ := drawK hb k hk
  rw [q, Option.bind_some]; exact ⟨_, _, rfl, h8⟩
theorem drawL {l : List Int} (hb : Bytes l) (k : Nat) (hk : 1000 < k) : ∃ r i f, spec_DrawLeastSize.f k l = some (r, i, f) ∧ r.length ≤ 8 ∧ f.length ≤ 62 := by
  unfold spec_DrawLeastSize.f spec_DrawHeldAlong.f
  obtain ⟨r, p, s, q, _, h8, h0, hp⟩ := wrow_ok hb 0 0 4 (by omega) (by omega) (by omega) k hk
  rw [q, Option.bind_some]
  simp only []
  obtain ⟨x, p2, s2, q2, a2, b2, _⟩ := pick_ok hb p s 4 h0 (by omega) (by omega)
  rw [q2, Option.bind_some]
  simp only []
  obtain ⟨x3, p3, s3, q3, a3, b3, _⟩ := pick_ok hb p2 s2 9 (by omega) (by omega) (by omega)
  rw [q3, Option.bind_some]
  simp only []
  obtain ⟨f, p4, s4, q4, h62, _⟩ := wfl_ok hb p3 s3 (by omega) (by omega) k hk
  rw [q4, Option.bind_some, Option.bind_some]
  exact ⟨_, _, _, rfl, h8, h62⟩
theorem addL_at : ∀ (a b : List Int) (j : Nat), b.length = a.length → j < a.length → (addL a b).getD j 0 = a.getD j 0 + b.getD j 0
  | [], _, j, _, h => by simp at h
  | x :: a, [], j, h, _ => by simp at h
  | x :: a, y :: b, 0, _, _ => by simp [addL]
  | x :: a, y :: b, j + 1, h, hj => by
    simp only [addL, List.getD_cons_succ]
    exact addL_at a b j (by simpa using h) (by simpa using hj)
theorem splA_at (j : Nat) : ∀ (L : List (List Int)) (a : List Int), (∀ s ∈ L, s.length = a.length) → j < a.length → (splA a L).getD j 0 = a.getD j 0 + sm (L.map (fun s => s.getD j 0))
  | [], a, _, _ => by simp [splA]
  | s :: L, a, h, hj => by
    have e := h s (List.mem_cons_self ..)
    simp only [splA, List.map_cons, sm_cons]
    rw [splA_at j L (addL a s) (fun z hz => by rw [addL_len]; exact h z (List.mem_cons_of_mem _ hz)) (by rw [addL_len]; exact hj), addL_at a s j e hj]
    omega
theorem sm_zero_iff : ∀ (l : List Int), (∀ x ∈ l, 0 ≤ x) → (sm l > 0 ↔ ¬ ∀ x ∈ l, x = 0)
  | [], _ => by simp
  | x :: l, h => by
    have h1 := h x (List.mem_cons_self ..)
    have hl : ∀ y ∈ l, 0 ≤ y := fun y hy => h y (List.mem_cons_of_mem _ hy)
    have h2 := sm_nonneg l hl
    have ih := sm_zero_iff l hl
    simp only [sm_cons, List.forall_mem_cons]
    constructor
    · rintro a ⟨b, c⟩
      have : ¬ sm l > 0 := fun q => ih.mp q c
      omega
    · intro a
      by_cases c : x = 0
      · have : sm l > 0 := ih.mpr (fun q => a ⟨c, q⟩)
        omega
      · omega
/-- what spills in all of the basin j is something just if its size is less than needed -/
theorem spl_need {row : List S30} (h : ROk row) {l : List Int} (g : FOk l) {j : Nat} (hj : j < row.length) {s : Int} (h1 : 1 ≤ s) (h2 : (rd_T30 row (j : Int)).f2 ≤ s) (h3 : s ≤ 1000) :
    rd (splA (List.replicate (siz row j s).length 0) ((rnR (siz row j s) l).map (·.2.1))) (j : Int) > 0 ↔ s < need row j l := by
  have ok := siz_ok h hj h1 h2 h3
  have spi := sp_in ok g
  have hl : (siz row j s).length = row.length := by unfold siz; rw [List.length_set]
  rw [rd_nat, splA_at j ((rnR (siz row j s) l).map (·.2.1)) (List.replicate (siz row j s).length 0) (fun t ht => by rw [(spi t ht).1, List.length_replicate]) (by rw [List.length_replicate, hl]; exact hj)]
  have z : (List.replicate (siz row j s).length (0 : Int)).getD j 0 = 0 := by
    rw [List.getD_eq_getElem?_getD, List.getElem?_replicate]; split <;> rfl
  rw [z, Int.zero_add, List.map_map]
  have hp : ∀ x ∈ (rnR (siz row j s) l).map (fun t => t.2.1.getD j 0), 0 ≤ x := fun x hx => by
    obtain ⟨u, hu, rfl⟩ := List.mem_map.mp hx
    have q := spi u.2.1 (List.mem_map.mpr ⟨u, hu, rfl⟩)
    have hj' : j < u.2.1.length := by rw [q.1, hl]; exact hj
    rw [List.getD_eq_getElem?_getD, List.getElem?_eq_getElem hj']
    exact (q.2 _ (List.getElem_mem hj')).1
  have e := sm_zero_iff _ hp
  refine Iff.trans e ?_
  rw [siz_none h g hj h1 h2]
  omega
theorem j11_ok {row : List S30} (h : ROk row) {l : List Int} (g : FOk l) {j : Nat} (hj : j < row.length) (s : Int) (X : List Int) (N : Int) (i : Nat) (hi : i ≤ 10) (x : Bool) (hx : x = false → 1 ≤ s ∧ (rd_T30 row (j : Int)).f2 ≤ s ∧ s ≤ 1000) (k : Nat) (hk : 4000 < k) :
    laws_FnBasinsRest.j11 (k + 1) row (j : Int) l (need row j l) s X N (i : Int) x = laws_FnBasinsRest.l2 k row (j : Int) l (need row j l) X N ((i + 1 : Nat) : Int) := by
  simp only [laws_FnBasinsRest.j11]
  cases x with
  | true => rw [if_pos rfl, nx1 i (by omega)]
  | false =>
    obtain ⟨h1, h2, h3⟩ := hx rfl
    have h6 := h.1.2
    have ok := siz_ok h hj h1 h2 h3
    have sp : aSpl (siz row j s) l = (splA (List.replicate (siz row j s).length 0) ((rnR (siz row j s) l).map (·.2.1)), true) := if_pos ⟨ok, g⟩
    have q := spl_need h g hj h1 h2 h3
    have hl : (siz row j s).length = row.length := by unfold siz; rw [List.length_set]
    rw [if_neg (by simp), if_pos (by simp; omega), Option.bind_some, if_pos (by omega), if_pos (by omega), if_pos (by simp; omega), List.nil_append, Int.toNat_natCast]
    show ((impl_SpillsOf.f k (siz row j s) l).bind _) = _
    rw [SplI k (siz row j s) l (by omega), Option.bind_some, sp, if_pos rfl, if_pos (by simp only [splA_len, List.length_replicate, hl]; omega)]
    have d : (decide (rd (splA (List.replicate (siz row j s).length 0) ((rnR (siz row j s) l).map (·.2.1))) (j : Int) > 0)) = decide (s < need row j l) := decide_eq_decide.mpr q
    simp only []
    rw [d, bne_self_eq_false, if_neg (by simp), nx1 i (by omega)]
theorem l2_one {row : List S30} (h : ROk row) {l : List Int} (g : FOk l) {j : Nat} (hj : j < row.length) (X : List Int) (hX : X.length ≤ 10) (i : Nat) (hi : i < X.length) (hs : rd X (i : Int) ≤ 1000) (k : Nat) (hk : 4000 < k) :
    laws_FnBasinsRest.l2 (k + 2) row (j : Int) l (need row j l) X (X.length : Int) (i : Int) = laws_FnBasinsRest.l2 k row (j : Int) l (need row j l) X (X.length : Int) ((i + 1 : Nat) : Int) := by
  rw [show k + 2 = (k + 1) + 1 from rfl]
  simp only [laws_FnBasinsRest.l2]
  rw [if_pos (by omega), if_pos (by omega), if_pos (by omega)]
  by_cases c : rd X (i : Int) < 1
  · rw [if_pos c]
    exact j11_ok h g hj _ X _ i (by omega) true (fun q => by cases q) k hk
  · rw [if_neg c, if_pos (by omega), if_pos (by omega)]
    exact j11_ok h g hj _ X _ i (by omega) _ (fun q => by have := of_decide_eq_false q; omega) k hk
theorem j9_okB {row : List S30} {i : Int} {l : List Int} (n : Int) (b : Bool) (e : aLeast row i l = (n, b)) (k : Nat) (hk : 6000 < k) : laws_FnBasinsRest.j9 k row i l n b false = some true := by
  obtain ⟨k, rfl⟩ : ∃ m, k = m + 1 := ⟨k - 1, by omega⟩
  simp only [laws_FnBasinsRest.j9, Bool.false_eq_true, if_false]
  cases b with
  | false => rw [if_neg (by simp)]
  | true =>
    unfold aLeast at e
    by_cases c : (ROk row ∧ FOk l) ∧ (0 ≤ i ∧ i ≤ (row.length : Int) - 1)
    · rw [if_pos c] at e
      obtain ⟨j, rfl⟩ : ∃ j : Nat, i = (j : Int) := ⟨i.toNat, by omega⟩
      rw [Int.toNat_natCast] at e
      by_cases d : need row j l > 1000
      · rw [if_pos d] at e; injection e with _ e; cases e
      · rw [if_neg d] at e
        injection e with e _
        subst e
        have n1 : 1 ≤ need row j l := by
          have := nd_ge (rd_T30 row (j : Int)).f1 ((rnR (row.take j) l).map (·.2.2)) (if 1 < (rd_T30 row (j : Int)).f2 then (rd_T30 row (j : Int)).f2 else 1) (rd_T30 row (j : Int)).f2
          unfold need
          have : 1 ≤ (if 1 < (rd_T30 row (j : Int)).f2 then (rd_T30 row (j : Int)).f2 else 1) := by split <;> omega
          omega
        rw [if_pos rfl, Option.bind_some, w64 (x := need row j l - 1) (by omega) (by omega)]
        obtain ⟨k, rfl⟩ : ∃ m, k = m + 4 + 1 := ⟨k - 5, by omega⟩
        have hj : j < row.length := by omega
        refine (l2_one c.1.1 c.1.2 hj [need row j l, need row j l - 1] (by simp) 0 (by simp) (by show need row j l ≤ 1000; omega) (k + 2 + 1) (by omega)).trans ?_
        refine (l2_one c.1.1 c.1.2 hj [need row j l, need row j l - 1] (by simp) 1 (by simp) (by show need row j l - 1 ≤ 1000; omega) (k + 1) (by omega)).trans ?_
        simp only [laws_FnBasinsRest.l2]
        rw [if_neg (by simp)]
    · rw [if_neg c] at e; injection e with _ e; cases e
theorem aAlong_ok {row : List S30} {i : Int} {l : List Int} : (aAlong row i l).1.length ≤ 1000 ∧ ((aLeast row i l).2 = true → (aAlong row i l).2 = true) := by
  unfold aAlong aLeast
  by_cases c : (ROk row ∧ FOk l) ∧ (0 ≤ i ∧ i ≤ (row.length : Int) - 1)
  · have := c.1.2.1
    rw [if_pos c]
    exact ⟨by rw [List.length_map, rnR_len]; omega, fun _ => rfl⟩
  · rw [if_neg c, if_neg c]; exact ⟨by simp, fun q => by cases q⟩
theorem aTick_len (row : List S30) (f : Int) : (aTick row f).1.length ≤ 6 := by
  unfold aTick
  by_cases c : ROk row ∧ (0 ≤ f ∧ f ≤ 1000)
  · rw [if_pos c, (tkR_ok row f c.1.2 c.2.1).2.1]; exact c.1.1.2
  · rw [if_neg c]; simp
theorem j8_okB {l1 : List Int} (b1 : Bytes l1) (k : Nat) (hk : 200000 < k) : laws_FnBasinsRest.j8 k l1 = some true := by
  obtain ⟨k, rfl⟩ : ∃ m, k = m + 1 := ⟨k - 1, by omega⟩
  obtain ⟨x, i, fl, e, h8, h62⟩ := drawL b1 k (by omega)
  obtain ⟨y, f, e2, h82⟩ := drawK b1 k (by omega)
  simp only [laws_FnBasinsRest.j8]
  rw [e, Option.bind_some]
  simp only []
  rw [LeastI k x i fl (by omega) (by omega), Option.bind_some, LeastS k x i fl (by omega) (by omega) (by omega), Option.bind_some, AlongI k x i fl (by omega) (by omega), Option.bind_some, AlongS k x i fl (by omega) (by omega) (by omega), Option.bind_some, e2, Option.bind_some]
  simp only []
  rw [TickI k y f (by omega), Option.bind_some, TickS' k y f (by omega) (by omega), Option.bind_some]
  have al := @aAlong_ok x i fl
  have tl := aTick_len y f
  simp only [bne_self_eq_false, Bool.false_eq_true, if_false, if_true]
  rw [hSame_f k _ al.1 (by omega), Option.bind_some, if_pos rfl, hBas_f k _ (by omega) (by omega), Option.bind_some, if_pos rfl]
  rcases hq : aLeast x i fl with ⟨n, b⟩
  rw [hq] at al
  cases b with
  | true =>
    have q := al.2 rfl
    rw [if_pos rfl, q]
    exact j9_okB n true hq k (by omega)
  | false =>
    rw [if_neg (by simp)]
    exact j9_okB n false hq k (by omega)
theorem rest_l1 {l1 : List Int} (b1 : Bytes l1) {row R : List S30} {f : Int} (hf : 0 ≤ f ∧ f ≤ 1000) (hR : ROk R) (fx : (tkR R f).1 = R) (hm : R.map (fun b => (b.f0, b.f1)) = row.map (fun b => (b.f0, b.f1))) : ∀ (d i k : Nat), i + d = row.length → 300000 + d < k →
    laws_FnBasinsRest.l1 k l1 f (R.map (·.f2)) (R.take i) row (row.length : Int) (i : Int) = some true
  | d, i, 0, _, hk => by omega
  | 0, i, k + 1, hi, hk => by
    have hl : R.length = row.length := by have := congrArg List.length hm; simpa using this
    have h6 := hR.1.2
    have tk : aTick R f = (R, f, true) := by
      unfold aTick; rw [if_pos ⟨hR, hf⟩, fx, fixed_given hR.2 hf.1 fx]
    have st : Std R f 0 (R.map (·.f2), true) := .inr ⟨hR, hf, R, ⟨fx, rfl⟩, rfl⟩
    simp only [laws_FnBasinsRest.l1]
    rw [if_neg (by omega), List.take_of_length_le (by omega), TickI k R f (by omega), Option.bind_some, StdI st k (by omega), Option.bind_some, tk]
    simp only [if_true]
    rw [hBas_f k R (by omega) (by omega), Option.bind_some, if_pos rfl, hSame_f k _ (by simp; omega) (by omega), Option.bind_some, if_pos rfl]
    exact j8_okB b1 k (by omega)
  | d + 1, i, k + 1, hi, hk => by
    have hl : R.length = row.length := by have := congrArg List.length hm; simpa using this
    have h6 := hR.1.2
    have hiR : i < R.length := by omega
    have hir : i < row.length := by omega
    have e1 : row.getD i z30 = row[i] := by rw [List.getD_eq_getElem?_getD, List.getElem?_eq_getElem hir]; rfl
    have e2 : (R.map (·.f2)).getD i 0 = R[i].f2 := by rw [List.getD_eq_getElem?_getD, List.getElem?_map, List.getElem?_eq_getElem hiR]; rfl
    have hmi : (R[i].f0, R[i].f1) = (row[i].f0, row[i].f1) := by
      have := congrArg (fun z => z[i]?) hm
      simp only [List.getElem?_map, List.getElem?_eq_getElem hiR, List.getElem?_eq_getElem hir, Option.map_some] at this
      exact Option.some.inj this
    injection hmi with m0 m1
    have el : (⟨row[i].f0, row[i].f1, R[i].f2⟩ : S30) = R[i] := by rw [← m0, ← m1]
    have tk : R.take i ++ [R[i]] = R.take (i + 1) := by rw [List.take_add_one, List.getElem?_eq_getElem hiR]; rfl
    simp only [laws_FnBasinsRest.l1]
    rw [if_pos (by omega), if_pos (by omega), if_pos (by omega), if_pos (by simp; omega), if_pos (by simp; omega), rdT_nat, rd_nat, e1, e2, el, tk, nx1 i (by omega)]
    exact rest_l1 b1 hf hR fx hm d (i + 1) k (by omega) (by omega)
theorem j5_okB {l1 : List Int} (b1 : Bytes l1) {row : List S30} {f : Int} {n : Nat} {r : List Int × Bool} (e : spec_DrawSteadyHeld.f 2000 l1 = some (row, f)) (h8 : row.length ≤ 8) (t : Std row f n r) (k : Nat) (hk : 10 * n + 400000 < k) : laws_FnBasinsRest.j5 k l1 = some true := by
  obtain ⟨k, rfl⟩ : ∃ m, k = m + 1 := ⟨k - 1, by omega⟩
  have e' := mono_iter (fun k => spec_DrawSteadyHeld.mono l1 k) e k (by omega)
  simp only [laws_FnBasinsRest.j5]
  rw [e', Option.bind_some]
  simp only []
  rw [StdI t k (by omega), Option.bind_some, StdS t (by omega) k (by omega), Option.bind_some, if_neg (by simp)]
  have hlen : r.1.length ≤ 1000 := by
    rcases t with ⟨_, rfl⟩ | ⟨h, g, R, q, rfl⟩
    · simp
    · have := (rst_ok f g.1 n row R h q).2.2.1
      simp; omega
  rw [hSame_f k _ hlen (by omega), Option.bind_some]
  obtain ⟨k, rfl⟩ : ∃ m, k = m + 1 := ⟨k - 1, by omega⟩
  simp only [laws_FnBasinsRest.j6, Bool.not_true, Bool.false_eq_true, if_false]
  rcases t with ⟨_, rfl⟩ | ⟨h, g, R, q, rfl⟩
  · simp only [Bool.false_eq_true, if_false]
    exact j8_okB b1 k (by omega)
  · obtain ⟨a, b, c, d⟩ := rst_ok f g.1 n row R h q
    simp only [if_true]
    exact rest_l1 b1 g a b d row.length 0 k (by omega) (by omega)
theorem stuck_l0 (l1 : List Int) (row0 : List S30) (x6 : Int) (x7 : Bool) (l : List S30) (hl : l.length ≤ 1000) : ∀ (r : List S30) (s w v : Bool) (i k : Nat), (s || !(ns w r)) = v → l.drop i = r → r.length < k →
    laws_FnBasinsRest.l0 k l1 row0 x6 x7 s w l (l.length : Int) (i : Int) = if (x7 == v) = true then some false else laws_FnBasinsRest.j2 (k - r.length - 1) l1 row0 x6 x7
  | r, s, w, v, i, 0, _, _, hk => by omega
  | [], s, w, v, i, k + 1, hv, e, _ => by
    have := dropn e
    have : s = v := by rw [← hv]; simp [ns]
    subst this
    simp only [laws_FnBasinsRest.l0]; rw [if_neg (by omega)]; simp
  | b :: r, s, w, v, i, k + 1, hv, e, hk => by
    obtain ⟨e1, e2, e3⟩ := dropc e
    have ih := fun s w hv => stuck_l0 l1 row0 x6 x7 l hl r s w v (i + 1) k hv e3 (by simpa using hk)
    have ek : k + 1 - (b :: r).length - 1 = k - r.length - 1 := by simp
    simp only [ns] at hv
    simp only [laws_FnBasinsRest.l0]
    rw [if_pos (by omega), if_pos (by omega), if_pos (by omega), rdT_nat, e2, nx1 i (by omega), ek]
    have eb : (b.f1 == 0) = decide (b.f1 = 0) := by
      refine Bool.eq_iff_iff.mpr ?_
      simp
    cases w with
    | true =>
      rw [if_pos rfl]
      cases s with
      | true => rw [if_pos rfl]; exact ih true true (by rw [← hv]; simp)
      | false =>
        rw [if_neg (by simp), eb]
        exact ih _ true (by rw [← hv]; by_cases c : b.f1 = 0 <;> simp [c])
    | false =>
      rw [if_neg (by simp)]
      cases s with
      | true => rw [if_pos rfl]; exact ih true _ (by rw [← hv]; simp)
      | false =>
        rw [if_neg (by simp)]
        by_cases d : b.f2 > 0
        · rw [if_pos d, eb]
          exact ih _ _ (by rw [← hv]; by_cases c : b.f1 = 0 <;> simp [c, d])
        · rw [if_neg d]
          exact ih false _ (by rw [← hv]; simp [d])
theorem zero_fl (n : Nat) (h : n ≤ 60) : FOk (List.replicate n 0) := ⟨by simpa using h, fun x hx => by rw [List.eq_of_mem_replicate hx]; omega⟩
theorem law_b (l0 l1 : List Int) (b0 : Bytes l0) (b1 : Bytes l1) : ∃ k, laws_FnBasinsRest.f k l0 l1 = some true := by
  obtain ⟨b, hb⟩ : ∃ b, laws_big.f l0 l1 = some b := by unfold laws_big.f; split <;> exact ⟨_, rfl⟩
  obtain ⟨row, e, h8⟩ := drawE b0 2000 (by omega)
  obtain ⟨r, t⟩ := tks_ex row
  obtain ⟨K, tS⟩ := TksS t (by omega)
  obtain ⟨row2, f2, e2, h82⟩ := drawSt b1 2000 (by omega)
  obtain ⟨n2, r2, t2⟩ := std_ex row2 f2
  have main : ∀ k, K + 10 * n2 + 500000 < k → laws_FnBasinsRest.f k l0 l1 = some true := by
    intro k hk
    unfold laws_FnBasinsRest.f
    rw [hb, Option.bind_some]
    cases b with
    | true => rw [if_pos rfl]
    | false =>
      have e' := mono_iter (fun k => spec_DrawTicksToEmpty.mono l0 k) e k (by omega)
      have fin : ∀ m, 10 * n2 + 400000 < m → laws_FnBasinsRest.j5 m l1 = some true := fun m hm => j5_okB b1 e2 h82 t2 m hm
      rw [if_neg (by simp), e', Option.bind_some, TksI t (by omega) k (by omega), Option.bind_some, tS k (by omega), Option.bind_some, HeldI k row (by omega), Option.bind_some, HeldS' k row (by omega) (by omega), Option.bind_some]
      have hd : (aHeld row).2 = decide (ROk row) := by
        unfold aHeld
        by_cases c : ROk row
        · rw [if_pos c]; exact (decide_eq_true c).symm
        · rw [if_neg c]; exact (decide_eq_false c).symm
      simp only [bne_self_eq_false, Bool.false_eq_true, if_false, if_true]
      rw [row_impl, Option.bind_some, hd, bne_self_eq_false, if_neg (by simp), Option.bind_some, RowS' k row (by omega) (by omega), Option.bind_some, bne_self_eq_false, if_neg (by simp)]
      have j0 : laws_FnBasinsRest.j0 k l1 row r.1 r.2 (decide (ROk row)) false = some true := by
        obtain ⟨k, rfl⟩ : ∃ m, k = m + 1 := ⟨k - 1, by omega⟩
        simp only [laws_FnBasinsRest.j0, Bool.false_eq_true, if_false]
        have j2f : ∀ m, K + 10 * n2 + 450000 < m → r.2 = false → laws_FnBasinsRest.j2 m l1 row r.1 r.2 = some true := by
          intro m hm hr
          obtain ⟨m, rfl⟩ : ∃ z, m = z + 2 := ⟨m - 2, by omega⟩
          rw [show m + 2 = (m + 1) + 1 from rfl]
          simp only [laws_FnBasinsRest.j2, laws_FnBasinsRest.j3, hr, Bool.false_eq_true, if_false]
          exact fin m (by omega)
        rcases t with ⟨h, rfl⟩ | ⟨h, q, rfl⟩ | ⟨h, q, n, hn, he, rfl⟩
        · rw [if_neg (by simp only [decide_eq_true_eq]; exact h)]
          exact j2f k (by omega) rfl
        · rw [if_pos (decide_eq_true h)]
          refine (stuck_l0 l1 row 0 false row (by omega) row false false true 0 k (by rw [q]; rfl) rfl (by omega)).trans ?_
          rw [if_neg (by simp)]
          exact j2f _ (by omega) rfl
        · rw [if_pos (decide_eq_true h)]
          refine (stuck_l0 l1 row (n : Int) true row (by omega) row false false false 0 k (by rw [q]; rfl) rfl (by omega)).trans ?_
          rw [if_neg (by simp)]
          have hr := emp_run n row he
          obtain ⟨m, hm⟩ : ∃ m, k - row.length - 1 = m + 3 := ⟨k - row.length - 4, by omega⟩
          rw [hm, show m + 3 = (m + 1 + 1) + 1 from rfl]
          simp only [laws_FnBasinsRest.j2, laws_FnBasinsRest.j3, if_true]
          by_cases c : (n : Int) ≤ 60
          · have hf := zero_fl n (by omega)
            have ee := endR_ok _ row h.2 hf.2
            have er : ROk (endR row (List.replicate n 0)) := ⟨by rw [ee.2]; exact h.1, ee.1⟩
            have a1 : aEnd row (List.replicate n 0) = (endR row (List.replicate n 0), true) := if_pos ⟨h, hf⟩
            have a2 : aHeld (endR row (List.replicate n 0)) = (hld (endR row (List.replicate n 0)), true) := if_pos er
            rw [decide_eq_true c, if_pos rfl, if_pos (by omega), Int.toNat_natCast, if_pos (by omega), EndI _ row _ (by omega), Option.bind_some, a1]
            simp only [if_true]
            rw [HeldI _ _ (by omega), Option.bind_some, a2]
            simp only [if_true]
            rw [hr.1, bne_self_eq_false]
            simp only [laws_FnBasinsRest.j4, Bool.false_eq_true, if_false]
            by_cases z : (n : Int) > 0
            · obtain ⟨p, rfl⟩ : ∃ p, n = p + 1 := ⟨n - 1, by omega⟩
              have hf := zero_fl p (by omega)
              have ee := endR_ok _ row h.2 hf.2
              have er : ROk (endR row (List.replicate p 0)) := ⟨by rw [ee.2]; exact h.1, ee.1⟩
              have a1 : aEnd row (List.replicate p 0) = (endR row (List.replicate p 0), true) := if_pos ⟨h, hf⟩
              have a2 : aHeld (endR row (List.replicate p 0)) = (hld (endR row (List.replicate p 0)), true) := if_pos er
              have hp := hr.2 p (by omega)
              rw [if_pos z, w64 (x := ((p + 1 : Nat) : Int) - 1) (by omega) (by omega), show ((p + 1 : Nat) : Int) - 1 = (p : Int) by omega, if_pos (by omega), Int.toNat_natCast, if_pos (by omega), EndI _ row _ (by omega), Option.bind_some, a1]
              simp only [if_true]
              rw [HeldI _ _ (by omega), Option.bind_some, a2]
              simp only [if_true]
              rw [if_neg (by omega)]
              exact fin _ (by omega)
            · rw [if_neg z]
              exact fin _ (by omega)
          · rw [decide_eq_false c, if_neg (by simp)]
            exact fin _ (by omega)
      by_cases c : r.2 = true
      · rw [if_pos c]
        have : ROk row := by
          rcases t with ⟨h, rfl⟩ | ⟨h, _⟩ | ⟨h, _⟩
          · cases c
          · exact h
          · exact h
        rw [decide_eq_true this] at j0 ⊢
        exact j0
      · rw [if_neg c]
        exact j0
  exact ⟨K + 10 * n2 + 500001, main _ (by omega)⟩
theorem FnBasinsRest : laws_FnBasinsRest.Pure := by
  intro l0 l1 _ h0 w0 _ h1 w1
  exact law_b l0 l1 (bytes_of l0 h0 w0) (bytes_of l1 h1 w1)
end Go.Proofs.Ytflbcikfphfkdaa.PuB
