/- Functions of the specification over all that is reached: as plain functions, and that the calls come to them. -/
import Derived.Test.YtieioddimkafbaaTaVplQ
import Derived.Test.YtieioddimkafbaaTaVsW
namespace Go.Proofs.Ytieioddimkafbaa.V
open Go.RowKit Go.Proofs.YtieioddimkafbaaW.PrintWords Go.Proofs.YtieioddimkafbaaW.PrintLast Go.Proofs.YtieioddimkafbaaW.PrintMore Go.Proofs.Ytieioddimkafbaa.Sq Go.Proofs.Ytieioddimkafbaa.Sep
attribute [local go_sem] max2_int min2_int max_two min_two max_three min_three max_four min_four
set_option linter.unusedVariables false
set_option linter.unusedSimpArgs false
mutual
def spec_PlanToAmount.j0 : Nat → Int → Bool → List (S35) → List Int → List (S55) → List Int → List Int → Option ((List (S55)) × Bool)
 | 0, _, _, _, _, _, _, _ => none
 | k + 1, x1, x24, x444000, x444001, x444002, x444003, x444004 => if x24 = true then (some (([] : List (S55)), false)) else (spec_PlanToAmount.l0 k x1 x444000 (x444000.length : Int) 0 x444000 x444001 x444002 x444003 x444004)
def spec_PlanToAmount.l0 : Nat → Int → List (S35) → Int → Int → List (S35) → List Int → List (S55) → List Int → List Int → Option ((List (S55)) × Bool)
 | 0, _, _, _, _, _, _, _, _, _ => none
 | k + 1, x1, x28, x29, x30, x444000, x444001, x444002, x444003, x444004 => if x30 < x29 then (if 0 ≤ x30 then (if x30 < (x28.length : Int) then ((spec_l1Has.f k ((rd_T35 x28 x30).f1) x1).bind fun t447 => (if t447 = true then ((spec_plWay.f k x444000 x444001 x444002 x444003 x444004 x30).bind fun t448 => (some (t448, true))) else (spec_PlanToAmount.l0 k x1 x28 x29 (wrap64 (x30 + 1)) x444000 x444001 x444002 x444003 x444004))) else (none)) else (none)) else (some (([] : List (S55)), false))
end
def spec_PlanToAmount.f (k : Nat) (l0_0 : List Int) (l0_1 : List Int) (a1 : Int) (a2 : Bool) : Option ((List (S55)) × Bool) := (spec_plAsked.f k l0_0 l0_1 a2).bind fun bt427 => (if bt427.2.2.2.2.2 = true then ((spec_plAmount.f a1).bind fun t444 => (spec_PlanToAmount.j0 k a1 (!t444) bt427.1 bt427.2.1 bt427.2.2.1 bt427.2.2.2.1 bt427.2.2.2.2.1)) else (spec_PlanToAmount.j0 k a1 true bt427.1 bt427.2.1 bt427.2.2.1 bt427.2.2.2.1 bt427.2.2.2.2.1))
set_option maxHeartbeats 8000000 in
set_option maxRecDepth 100000 in
theorem spec_PlanToAmount.calls (k : Nat) (A0_0 : Option Addr) (c0_0 : Nat) (l0_0 : List Int) (A0_1 : Option Addr) (c0_1 : Nat) (l0_1 : List Int) (a1 : Int) (a2 : Bool) (r1 : List (S55)) (r2 : Bool) (w : World) (hr0_0 : Kd.C (Kd.int .i64) w A0_0 l0_0.length l0_0) (hc0_0 : l0_0.length ≤ c0_0) (hr0_1 : Kd.C (Kd.int .i64) w A0_1 l0_1.length l0_1) (hc0_1 : l0_1.length ≤ c0_1) (h : spec_PlanToAmount.f k l0_0 l0_1 a1 a2 = some (r1, r2)) :
  Calls Try.prog 19 #[.agg #[.slice A0_0 l0_0.length c0_0, .slice A0_1 l0_1.length c0_1], .int .i64 a1, .bool a2] w fun e w' => ∃ v0_ : Value, e = .returned (.tuple #[v0_, .bool r2]) ∧ Kd.R k55 55 w' w.heap.size (fun _ => True) v0_ r1 ∧ Below w.heap.size w w' := by
 have hu35 := Try.underlying35
 have hu62 := Try.underlying62
 have HR0_0 := Aside0.mk hr0_0
 have HC0_0 := Aside0.mk hc0_0
 clear hr0_0 hc0_0
 have HR0_1 := Aside0.mk hr0_1
 have HC0_1 := Aside0.mk hc0_1
 clear hr0_1 hc0_1
 have HB := Aside0.mk (Below.refl w.heap.size w)
 have H : ((spec_plAsked.f k l0_0 l0_1 a2).bind fun bt427 => (if bt427.2.2.2.2.2 = true then ((spec_plAmount.f a1).bind fun t444 => (spec_PlanToAmount.j0 k a1 (!t444) bt427.1 bt427.2.1 bt427.2.2.1 bt427.2.2.2.1 bt427.2.2.2.2.1)) else (spec_PlanToAmount.j0 k a1 true bt427.1 bt427.2.1 bt427.2.2.1 bt427.2.2.2.1 bt427.2.2.2.2.1))) = some (r1, r2) := h
 clear h
 replace H := Option.bind_eq_some_iff.mp H
 obtain ⟨⟨t427, t430, t433, t436, t439, t442⟩, A40, H⟩ := H
 replace H : (if t442 = true then ((spec_plAmount.f a1).bind fun t444 => (spec_PlanToAmount.j0 k a1 (!t444) t427 t430 t433 t436 t439)) else (spec_PlanToAmount.j0 k a1 true t427 t430 t433 t436 t439)) = some (r1, r2) := H
 have A4 := Aside0.mk A40
 clear A40
 by_cases cok : t442 = true
 rotate_left
 ·replace cok := Bool.eq_false_iff.mpr cok
  subst cok
  have H1 : (spec_PlanToAmount.j0 k a1 true t427 t430 t433 t436 t439) = some (r1, r2) := by rw [if_neg (show ¬ (false = true) by decide)] at H; exact H
  clear H
  have H2 : ([] : List S55) = r1 ∧ false = r2 := by
   cases k with
   | zero => exact absurd H1 (by simp [spec_PlanToAmount.j0])
   | succ k1 =>
    simp only [spec_PlanToAmount.j0, if_true, Option.some.injEq, Prod.mk.injEq] at H1
    exact ⟨H1.1.symm.symm, H1.2.symm.symm⟩
  obtain ⟨rfl, rfl⟩ := H2
  clear H1
  go_enter Try.func19, Try.ntmps19
  go_wp2_with (first | ((with_reducible refine gate_dst (N := 3) rfl ?_); refine bx 3 #[.slice A0_0 l0_0.length c0_0, .slice A0_1 l0_1.length c0_1] 35 ?_; intro gb426 hg w6 hbox hb; have BK426 := Aside0.mk (hbox); have GW426 := ge HB hg; have GE426 := ge HB hg; replace HB := bs HB hb; clear hb hbox hg; have hcz7_0 := bc0 BK426; have hcz7_1 := bc1 BK426; have hfz7_0 := blk_frozen BK426.out 0; have hfz7_1 := blk_frozen BK426.out 1) | ((with_reducible refine gate_callee (f := 40) rfl ?_); refine gl 15 Try.func40 #[.agg #[.slice A0_0 l0_0.length c0_0, .slice A0_1 l0_1.length c0_1], .bool a2] ?_; (with_reducible refine (spec_plAsked.calls k (fun k_ => k_ < w.heap.size) _ _ l0_0 _ _ l0_1 a2 t427 t430 t433 t436 t439 false _ ?side1 ?side2 ?side3 A4.out).mono ?_); (case side1 => exact foot_and (Kd.F_below (Kd.C_F (Kd.heap_int .i64) HR0_0.out) (bw HB)) (Kd.F_below (Kd.C_F (Kd.heap_int .i64) HR0_1.out) (bw HB))); (case side2 => exact HC0_0.out); (case side3 => exact HC0_1.out); rintro e w14 ⟨p_, rfl, hq_, hb⟩; refine ⟨_, rfl, ?_⟩; replace BK426 := bb BK426 hb; replace HB := bs HB hb; (try clear hb); clear hq_))
  go_ret2
  exact ⟨_, by first | rfl | (simp [errW_none, errW_some] <;> rfl) | (simp [*, errW_none, errW_some] <;> rfl), by first | exact Kd.R_nil _ _ _ _ _ | exact Kd.N_nil _ _ _ _ _ | exact Kd.V_nil _ _ _ _ _ | exact Kd.Q_nil _ _ _ _ _ | exact Kd.S_nil _ _ _ _ _, bw HB⟩
 subst cok
 have HC5 := Aside0.mk H
 clear H
 go_enter Try.func19, Try.ntmps19
 go_upto_region 2 with (first | ((with_reducible refine gate_dst (N := 3) rfl ?_); refine bx 3 #[.slice A0_0 l0_0.length c0_0, .slice A0_1 l0_1.length c0_1] 35 ?_; intro gb426 hg w6 hbox hb; have BK426 := Aside0.mk (hbox); have GW426 := ge HB hg; have GE426 := ge HB hg; replace HB := bs HB hb; clear hb hbox hg; have hcz7_0 := bc0 BK426; have hcz7_1 := bc1 BK426; have hfz7_0 := blk_frozen BK426.out 0; have hfz7_1 := blk_frozen BK426.out 1) | ((with_reducible refine gate_callee (f := 40) rfl ?_); refine gl 15 Try.func40 #[.agg #[.slice A0_0 l0_0.length c0_0, .slice A0_1 l0_1.length c0_1], .bool a2] ?_; (with_reducible refine (spec_plAsked.calls k (fun k_ => k_ < w.heap.size) _ _ l0_0 _ _ l0_1 a2 t427 t430 t433 t436 t439 true _ ?side1 ?side2 ?side3 A4.out).mono ?_); (case side1 => exact foot_and (Kd.F_below (Kd.C_F (Kd.heap_int .i64) HR0_0.out) (bw HB)) (Kd.F_below (Kd.C_F (Kd.heap_int .i64) HR0_1.out) (bw HB))); (case side2 => exact HC0_0.out); (case side3 => exact HC0_1.out); rintro e w14 ⟨p_, rfl, hq_, hb⟩; obtain ⟨gb443, v428, v431, v434, v437, v440, rfl, hge_, hbox_, ho0, ho1, ho2, ho3, ho4⟩ := hq_ rfl; refine ⟨_, rfl, ?_⟩; have HO429 := Aside0.mk (Kd.N_lower (Kd.N_mono (ok' := fun k_ => (some k_ ≠ (v431 : Value).ownBlock ∧ some k_ ≠ (v434 : Value).ownBlock ∧ some k_ ≠ (v437 : Value).ownBlock ∧ some k_ ≠ (v440 : Value).ownBlock ∧ k_ ≠ gb426) ∧ k_ ≠ gb443) ho0 (fun k_ hk_ => ⟨⟨hk_.2.1, hk_.2.2.1, hk_.2.2.2.1, hk_.2.2.2.2.1, Or.elim hk_.1 (fun hs_ => fun e_ => Nat.not_le.2 hs_ (by rw [e_]; exact GW426.out)) (fun hn_ => (Kd.freshB (g := gb426) (o := .cells #[.slice A0_0 l0_0.length c0_0, .slice A0_1 l0_1.length c0_1] 35 (0, 0)) (bk BK426) k_ hn_))⟩, hk_.2.2.2.2.2⟩)) (below_size (bw HB))); have HO432 := Aside0.mk (Kd.R_lower (Kd.R_mono (ok' := fun k_ => some k_ ≠ (v437 : Value).ownBlock ∧ some k_ ≠ (v440 : Value).ownBlock) ho1 (fun _ hk_ => hk_.2)) (below_size (bw HB))); have HO435 := Aside0.mk (Kd.R_lower (Kd.R_mono (ok' := fun k_ => True) ho2 (fun _ hk_ => trivial)) (below_size (bw HB))); have HO438 := Aside0.mk (Kd.R_lower (Kd.R_mono (ok' := fun k_ => some k_ ≠ (v431 : Value).ownBlock ∧ some k_ ≠ (v440 : Value).ownBlock) ho3 (fun _ hk_ => hk_.2)) (below_size (bw HB))); have HO441 := Aside0.mk (Kd.R_lower (Kd.R_mono (ok' := fun k_ => some k_ ≠ (v431 : Value).ownBlock ∧ some k_ ≠ (v437 : Value).ownBlock) ho4 (fun _ hk_ => hk_.2)) (below_size (bw HB))); have GW443 := ge' HB hge_; have GE443 := ge' HB hge_; have NB426_443 := nl' BK426 hge_; have NB443_426 := nr' BK426 hge_; replace BK426 := bb BK426 hb; replace HB := bs HB hb; (try clear hb); (try clear ho0); (try clear ho1); (try clear ho2); (try clear ho3); (try clear ho4); have BK443 := Aside0.mk hbox_; clear hbox_ hge_ hq_; obtain ⟨Ao9, co9, eo9⟩ := Kd.N_slice HO429.out; subst eo9; obtain ⟨Ao10, co10, eo10⟩ := Kd.R_slice HO432.out; subst eo10; obtain ⟨Ao11, co11, eo11⟩ := Kd.R_slice HO435.out; subst eo11; obtain ⟨Ao12, co12, eo12⟩ := Kd.R_slice HO438.out; subst eo12; obtain ⟨Ao13, co13, eo13⟩ := Kd.R_slice HO441.out; subst eo13))
 (try simp only [Act.put, List.setIfInBounds_toArray, List.set_cons_zero, List.set_cons_succ])
 go_cut [24] (fun v24 wc => ∃ (kq : Nat) (x24_4 : Bool), v24 = .bool x24_4 ∧ Aside0 (spec_PlanToAmount.j0 kq a1 x24_4 t427 t430 t433 t436 t439 = some (r1, r2)) ∧ Aside0 (kq ≤ k) ∧ Aside0 (Kd.N k35 35 wc w.heap.size (fun k_ => some k_ ≠ ((.slice Ao10 t430.length co10) : Value).ownBlock ∧ some k_ ≠ ((.slice Ao11 t433.length co11) : Value).ownBlock ∧ some k_ ≠ ((.slice Ao12 t436.length co12) : Value).ownBlock ∧ some k_ ≠ ((.slice Ao13 t439.length co13) : Value).ownBlock ∧ k_ ≠ gb426 ∧ k_ ≠ gb443) (.slice Ao9 t427.length co9) t427) ∧ Aside0 (Kd.R (Kd.int .i64) 3 wc w.heap.size (fun k_ => some k_ ≠ ((.slice Ao12 t436.length co12) : Value).ownBlock ∧ some k_ ≠ ((.slice Ao13 t439.length co13) : Value).ownBlock) (.slice Ao10 t430.length co10) t430) ∧ Aside0 (Kd.R k55 55 wc w.heap.size (fun _ => True) (.slice Ao11 t433.length co11) t433) ∧ Aside0 (Kd.R (Kd.int .i64) 3 wc w.heap.size (fun k_ => some k_ ≠ ((.slice Ao10 t430.length co10) : Value).ownBlock ∧ some k_ ≠ ((.slice Ao13 t439.length co13) : Value).ownBlock) (.slice Ao12 t436.length co12) t436) ∧ Aside0 (Kd.R (Kd.int .i64) 3 wc w.heap.size (fun k_ => some k_ ≠ ((.slice Ao10 t430.length co10) : Value).ownBlock ∧ some k_ ≠ ((.slice Ao12 t436.length co12) : Value).ownBlock) (.slice Ao13 t439.length co13) t439) ∧ Aside0 (wc.heap[gb426]? = some (.cells #[(.slice A0_0 l0_0.length c0_0), (.slice A0_1 l0_1.length c0_1)] 35 (0, 0))) ∧ Aside0 (wc.heap[gb443]? = some (.cells #[(.slice Ao9 t427.length co9), (.slice Ao10 t430.length co10), (.slice Ao11 t433.length co11), (.slice Ao12 t436.length co12), (.slice Ao13 t439.length co13)] 62 (0, 0))) ∧ Aside0 (Below w.heap.size w wc))
 case first =>
  have H := HC5.out
  clear HC5
  have H1 : ((spec_plAmount.f a1).bind fun t444 => (spec_PlanToAmount.j0 k a1 (!t444) t427 t430 t433 t436 t439)) = some (r1, r2) := by rw [if_pos rfl] at H; exact H
  clear H
  have H := H1
  clear H1
  replace H := Option.bind_eq_some_iff.mp H
  obtain ⟨t444, A160, H⟩ := H
  replace H : (spec_PlanToAmount.j0 k a1 (!t444) t427 t430 t433 t436 t439) = some (r1, r2) := H
  have A16 := Aside0.mk A160
  clear A160
  have H' := Aside0.mk H
  clear H
  go_wp2_with (first | (go_at_call 41; (with_reducible refine (spec_plAmount.calls a1 t444 _ A16.out).mono ?_); rintro e w' ⟨rfl, ⟨nd, rfl⟩⟩))
  go_meet
  case rel => exact ⟨_, (!t444), (by first | rfl | (simp; done) | (simp [*]; done)), H', ⟨by first | omega | exact Nat.le_refl _⟩, ⟨by (with_reducible repeat (first | apply Kd.N_alloc | apply Kd.N_drewN | apply Kd.N_drew)); exact Kd.N_mono HO429.out (fun _ hk => ⟨hk.1.1, ⟨hk.1.2.1, ⟨hk.1.2.2.1, ⟨hk.1.2.2.2.1, ⟨hk.1.2.2.2.2, hk.2⟩⟩⟩⟩⟩)⟩, ⟨rk HO432⟩, ⟨rk HO435⟩, ⟨rk HO438⟩, ⟨rk HO441⟩, ⟨bk BK426⟩, ⟨bk BK443⟩, ⟨bw HB⟩⟩
 case rest =>
  clear HC5
  try clear c1
  try clear p2
  try clear c4
  try clear c15
  try clear hcz7_0
  try clear hcz7_1
  try clear hfz7_0
  try clear hfz7_1
  obtain ⟨kq, x24_4, rfl, HA, HJ4, HO_444000, HO_444001, HO_444002, HO_444003, HO_444004, BK426, BK443, HB⟩ := hcut
  cases kq with
  | zero => exact absurd HA.out (by simp [spec_PlanToAmount.j0])
  | succ kj4 =>
   have H := HA.out
   clear HA
   simp only [spec_PlanToAmount.j0] at H
   by_cases c17 : x24_4 = true
   ·subst c17
    have H1 : (some (([] : List (S55)), false)) = some (r1, r2) := by rw [if_pos rfl] at H; exact H
    clear H
    have H := H1
    clear H1
    simp only [Option.some.injEq, Prod.mk.injEq] at H
    obtain ⟨rfl, rfl⟩ := H
    go_wp2
    go_ret2
    exact ⟨_, by first | rfl | (simp [errW_none, errW_some] <;> rfl) | (simp [*, errW_none, errW_some] <;> rfl), by first | exact Kd.R_nil _ _ _ _ _ | exact Kd.N_nil _ _ _ _ _ | exact Kd.V_nil _ _ _ _ _ | exact Kd.Q_nil _ _ _ _ _ | exact Kd.S_nil _ _ _ _ _, bw HB⟩
   replace c17 := Bool.eq_false_iff.mpr c17
   subst c17
   have H1 : (spec_PlanToAmount.l0 kj4 a1 t427 (t427.length : Int) 0 t427 t430 t433 t436 t439) = some (r1, r2) := by rw [if_neg (show ¬ (false = true) by decide)] at H; exact H
   clear H
   have H := H1
   clear H1
   have H' := Aside0.mk H
   clear H
   have hnb18 := NB443_426.out
   have hnc18 := NB426_443.out
   have hcz19_0 := bc0 BK443
   have hcz19_1 := bc1 BK443
   have hcz19_2 := bc2 BK443
   have hcz19_3 := bc3 BK443
   have hcz19_4 := bc4 BK443
   have hfz19_0 := blk_frozen BK443.out 0
   have hfz19_1 := blk_frozen BK443.out 1
   have hfz19_2 := blk_frozen BK443.out 2
   have hfz19_3 := blk_frozen BK443.out 3
   have hfz19_4 := blk_frozen BK443.out 4
   go_wp2
   try simp only [Act.put, List.setIfInBounds_toArray, List.set_cons_zero, List.set_cons_succ]
   go_loopg [30] kj4 (fun kq v30 w' => ∃ (x30_2 : Int), v30 = .int .i64 x30_2 ∧ Aside0 (spec_PlanToAmount.l0 kq a1 t427 (t427.length : Int) x30_2 t427 t430 t433 t436 t439 = some (r1, r2)) ∧ Aside0 (kq ≤ kj4) ∧ Aside0 (Kd.N k35 35 w' w.heap.size (fun k_ => some k_ ≠ ((.slice Ao10 t430.length co10) : Value).ownBlock ∧ some k_ ≠ ((.slice Ao11 t433.length co11) : Value).ownBlock ∧ some k_ ≠ ((.slice Ao12 t436.length co12) : Value).ownBlock ∧ some k_ ≠ ((.slice Ao13 t439.length co13) : Value).ownBlock ∧ k_ ≠ gb426 ∧ k_ ≠ gb443) (.slice Ao9 t427.length co9) t427) ∧ Aside0 (Kd.N k35 35 w' w.heap.size (fun k_ => some k_ ≠ ((.slice Ao10 t430.length co10) : Value).ownBlock ∧ some k_ ≠ ((.slice Ao11 t433.length co11) : Value).ownBlock ∧ some k_ ≠ ((.slice Ao12 t436.length co12) : Value).ownBlock ∧ some k_ ≠ ((.slice Ao13 t439.length co13) : Value).ownBlock ∧ k_ ≠ gb426 ∧ k_ ≠ gb443) (.slice Ao9 t427.length co9) t427) ∧ Aside0 (Kd.R (Kd.int .i64) 3 w' w.heap.size (fun k_ => some k_ ≠ ((.slice Ao12 t436.length co12) : Value).ownBlock ∧ some k_ ≠ ((.slice Ao13 t439.length co13) : Value).ownBlock) (.slice Ao10 t430.length co10) t430) ∧ Aside0 (Kd.R k55 55 w' w.heap.size (fun _ => True) (.slice Ao11 t433.length co11) t433) ∧ Aside0 (Kd.R (Kd.int .i64) 3 w' w.heap.size (fun k_ => some k_ ≠ ((.slice Ao10 t430.length co10) : Value).ownBlock ∧ some k_ ≠ ((.slice Ao13 t439.length co13) : Value).ownBlock) (.slice Ao12 t436.length co12) t436) ∧ Aside0 (Kd.R (Kd.int .i64) 3 w' w.heap.size (fun k_ => some k_ ≠ ((.slice Ao10 t430.length co10) : Value).ownBlock ∧ some k_ ≠ ((.slice Ao12 t436.length co12) : Value).ownBlock) (.slice Ao13 t439.length co13) t439) ∧ Aside0 (w'.heap[gb426]? = some (.cells #[(.slice A0_0 l0_0.length c0_0), (.slice A0_1 l0_1.length c0_1)] 35 (0, 0))) ∧ Aside0 (w'.heap[gb443]? = some (.cells #[(.slice Ao9 t427.length co9), (.slice Ao10 t430.length co10), (.slice Ao11 t433.length co11), (.slice Ao12 t436.length co12), (.slice Ao13 t439.length co13)] 62 (0, 0))) ∧ Aside0 (Below w.heap.size w w'))
   case atStart => exact ⟨(0), (by first | rfl | (simp; done) | (simp [*]; done)), H', ⟨Nat.le_refl _⟩, ⟨by (with_reducible repeat (first | apply Kd.N_alloc | apply Kd.N_drewN | apply Kd.N_drew)); exact HO_444000.out⟩, ⟨by (with_reducible repeat (first | apply Kd.N_alloc | apply Kd.N_drewN | apply Kd.N_drew)); exact HO_444000.out⟩, ⟨rk HO_444001⟩, ⟨rk HO_444002⟩, ⟨rk HO_444003⟩, ⟨rk HO_444004⟩, ⟨bk BK426⟩, ⟨bk BK443⟩, ⟨bw HB⟩⟩
   case round =>
    clear H'
    try clear c1
    try clear p2
    try clear c4
    try clear c15
    try clear c17
    try clear c18
    try clear c19
    try clear hcz19_0
    try clear hcz19_1
    try clear hcz19_2
    try clear hcz19_3
    try clear hcz19_4
    try clear hcz7_0
    try clear hcz7_1
    try clear hfz19_0
    try clear hfz19_1
    try clear hfz19_2
    try clear hfz19_3
    try clear hfz19_4
    try clear hfz7_0
    try clear hfz7_1
    try clear p2
    obtain ⟨x30_2, rfl, HA, HK2, HO_28, HO_444000, HO_444001, HO_444002, HO_444003, HO_444004, BK426, BK443, HB⟩ := hrel
    cases gk with
    | zero => exact absurd HA.out (by simp [spec_PlanToAmount.l0])
    | succ k2 =>
     have H := HA.out
     clear HA
     simp only [spec_PlanToAmount.l0] at H
     by_cases c20 : x30_2 < (t427.length : Int)
     rotate_left
     ·rw [if_neg c20] at H
      have c20b0 : decide (x30_2 < (t427.length : Int)) = false := decide_eq_false c20
      clear c20
      simp only [Option.some.injEq, Prod.mk.injEq] at H
      obtain ⟨rfl, rfl⟩ := H
      go_wp2
      go_ret2
      exact ⟨_, by first | rfl | (simp [errW_none, errW_some] <;> rfl) | (simp [*, errW_none, errW_some] <;> rfl), by first | exact Kd.R_nil _ _ _ _ _ | exact Kd.N_nil _ _ _ _ _ | exact Kd.V_nil _ _ _ _ _ | exact Kd.Q_nil _ _ _ _ _ | exact Kd.S_nil _ _ _ _ _, bw HB⟩
     rw [if_pos c20] at H
     have c20b0 : decide (x30_2 < (t427.length : Int)) = true := decide_eq_true c20
     clear c20
     by_cases c21 : 0 ≤ x30_2
     rotate_left
     ·rw [if_neg c21] at H
      exact absurd H (by simp)
     rw [if_pos c21] at H
     have c21b0 : decide (0 ≤ x30_2) = true := decide_eq_true c21
     clear c21
     by_cases c22 : x30_2 < (t427.length : Int)
     rotate_left
     ·rw [if_neg c22] at H
      exact absurd H (by simp)
     rw [if_pos c22] at H
     have c22b0 : decide (x30_2 < (t427.length : Int)) = true := decide_eq_true c22
     clear c22
     replace H := Option.bind_eq_some_iff.mp H
     obtain ⟨t447, A230, H⟩ := H
     replace H : (if t447 = true then ((spec_plWay.f k2 t427 t430 t433 t436 t439 x30_2).bind fun t448 => (some (t448, true))) else (spec_PlanToAmount.l0 k2 a1 t427 (t427.length : Int) (wrap64 (x30_2 + 1)) t427 t430 t433 t436 t439)) = some (r1, r2) := H
     have A23 := Aside0.mk A230
     clear A230
     by_cases c24 : t447 = true
     rotate_left
     ·replace c24 := Bool.eq_false_iff.mpr c24
      subst c24
      have H1 : (spec_PlanToAmount.l0 k2 a1 t427 (t427.length : Int) (wrap64 (x30_2 + 1)) t427 t430 t433 t436 t439) = some (r1, r2) := by rw [if_neg (show ¬ (false = true) by decide)] at H; exact H
      clear H
      have H := H1
      clear H1
      have H' := Aside0.mk H
      clear H
      have p445 : 0 ≤ (x30_2 : Int) := of_decide_eq_true ‹_›
      have q445 : x30_2 < (t427.length : Int) := of_decide_eq_true ‹_›
      obtain ⟨ad445, A445_0, c445_0, A445_1, c445_1, e445, hx445_0, hx445_1, hl445_0, hi445_0, hl445_1, hi445_1⟩ := at_T35 (Kd.N_reads' HO_28.out).2.2 x30_2 p445 q445
      cases e445
      obtain ⟨ce445, hce445, hMe445, hcc445⟩ := Kd.N_get HO_28.out z35 x30_2 p445 (by first | exact q445 | exact of_decide_eq_true ‹_› | (have e_ := (Kd.N_reads' HO_28.out).1; omega))
      obtain ⟨ua445_0, uc445_0, ua445_1, uc445_1, rfl, ul445_0, ge445_0, ul445_1, ge445_1⟩ := k35_openF hMe445
      have hv445_0 := hcc445 0 _ rfl
      rw [Nat.add_zero] at hv445_0
      replace hv445_0 := Option.some.inj (hv445_0.symm.trans hx445_0)
      injection hv445_0 with hva_ hvn_ hvc_
      rw [hva_] at ge445_0
      rw [hvc_] at ul445_0
      have HL445_0 := Aside0.mk (show Kd.V (Kd.int .i64) 3 _ w.heap.size _ _ ((rd_T35 t427 x30_2).f0) from Kd.V_mk ul445_0 ge445_0)
      clear hva_ hvn_ hvc_ ge445_0 ul445_0
      have hv445_1 := hcc445 1 _ rfl
      rw [add_field _ _ 1 (by omega)] at hv445_1
      replace hv445_1 := Option.some.inj (hv445_1.symm.trans hx445_1)
      injection hv445_1 with hva_ hvn_ hvc_
      rw [hva_] at ge445_1
      rw [hvc_] at ul445_1
      have HL445_1 := Aside0.mk (show Kd.V (Kd.int .i64) 3 _ w.heap.size _ _ ((rd_T35 t427 x30_2).f1) from Kd.V_mk ul445_1 ge445_1)
      clear hva_ hvn_ hvc_ ge445_1 ul445_1
      clear hcc445 hce445
      have HR445_0 := Aside0.mk hi445_0
      have HC445_0 := Aside0.mk hl445_0
      clear hi445_0 hl445_0
      have HR445_1 := Aside0.mk hi445_1
      have HC445_1 := Aside0.mk hl445_1
      clear hi445_1 hl445_1
      replace p445 := eq_true p445
      replace q445 := eq_true q445
      go_wp2_with (first | ((with_reducible refine gate_dst (N := 11) rfl ?_); refine bx 11 #[.slice none 0 0, .slice none 0 0] 35 ?_; intro gb446 hg w33 hbox hb; replace HO_28 := Aside0.mk (Kd.N_below (Kd.N_elderB (by (with_reducible repeat (first | apply Kd.N_alloc | apply Kd.N_drewN | apply Kd.N_drew)); exact HO_28.out) gb446 (Nat.le_of_eq hg.symm)) hb); replace HO_444000 := Aside0.mk (Kd.N_below (Kd.N_elderB (by (with_reducible repeat (first | apply Kd.N_alloc | apply Kd.N_drewN | apply Kd.N_drew)); exact HO_444000.out) gb446 (Nat.le_of_eq hg.symm)) hb); replace HO_444001 := rb HO_444001 hb; replace HO_444002 := rb HO_444002 hb; replace HO_444003 := rb HO_444003 hb; replace HO_444004 := rb HO_444004 hb; replace HL445_0 := Aside0.mk (Kd.V_below (Kd.V_elderB (by (with_reducible repeat (first | apply Kd.V_alloc | apply Kd.V_drewN | apply Kd.V_drew)); exact HL445_0.out) gb446 (Nat.le_of_eq hg.symm)) hb); replace HL445_1 := Aside0.mk (Kd.V_below (Kd.V_elderB (by (with_reducible repeat (first | apply Kd.V_alloc | apply Kd.V_drewN | apply Kd.V_drew)); exact HL445_1.out) gb446 (Nat.le_of_eq hg.symm)) hb); replace HR445_0 := Aside0.mk (Kd.C_below (by repeat (first | (with_reducible exact HR445_0.out) | (with_reducible refine Kd.C_alloc ?_ _) | (with_reducible refine Kd.C_drewN ?_ _) | (with_reducible refine Kd.C_drew ?_) | exact HR445_0.out)) hb); replace HR445_1 := Aside0.mk (Kd.C_below (by repeat (first | (with_reducible exact HR445_1.out) | (with_reducible refine Kd.C_alloc ?_ _) | (with_reducible refine Kd.C_drewN ?_ _) | (with_reducible refine Kd.C_drew ?_) | exact HR445_1.out)) hb); have BK446 := Aside0.mk (hbox); have GW446 := ge HB hg; have GE446 := ge HB hg; replace HB := bs HB hb; have NB426_446 := nl BK426 hg; have NB446_426 := nr BK426 hg; replace BK426 := bb BK426 hb; have NB443_446 := nl BK443 hg; have NB446_443 := nr BK443 hg; replace BK443 := bb BK443 hb; clear hb hbox hg; have hnb34 := NB446_426.out; have hnc34 := NB426_446.out; have hnb35 := NB446_443.out; have hnc35 := NB443_446.out; have hcz36_0 := bc0 BK446; have hcz36_1 := bc1 BK446; have hfz36_0 := blk_frozen BK446.out 0; have hfz36_1 := blk_frozen BK446.out 1) | ((with_reducible refine gate_callee (f := 42) rfl ?_); refine gl 38 Try.func42 #[.slice A445_1 ((rd_T35 t427 x30_2).f1).length c445_1, .int .i64 a1] ?_; (with_reducible refine (spec_l1Has.calls k2 _ _ ((rd_T35 t427 x30_2).f1) a1 false _ ?side1 ?side2 A23.out).mono ?_); (case side1 => repeat (first | exact ((Kd.V_reads' (by (with_reducible repeat (first | apply Kd.V_alloc | apply Kd.V_drewN | apply Kd.V_drew)); exact (Kd.V_mono (Kd.V_far (p := ⟨gb446, 1, none⟩) (Kd.V_far (p := ⟨gb446, 0, none⟩) (Kd.V_mono HL445_1.out (fun k_ hk => (⟨hk, hk.2⟩ : _ ∧ k_ ≠ gb446))) (fun _ hk => hk.2) (.slice A445_0 ((rd_T35 t427 x30_2).f0).length c445_0)) (fun _ hk => hk.2) (.slice A445_1 ((rd_T35 t427 x30_2).f1).length c445_1)) (fun _ h_ => h_.1)))).2.2) | (with_reducible refine Kd.C_alloc ?_ _) | (with_reducible refine Kd.C_drewN ?_ _) | (with_reducible refine Kd.C_drew ?_))); (case side2 => exact HC445_1.out); rintro e w' ⟨rfl, ⟨nd, rfl⟩⟩; refine ⟨_, rfl, ?_⟩))
      go_roundg k2
      case measure => have := HJ4.out; have := HK2.out; omega
      case rel => exact ⟨(wrap64 (x30_2 + 1)), (by first | rfl | (simp; done) | (simp [*]; done)), H', ⟨by have := HJ4.out; have := HK2.out; omega⟩, ⟨by (with_reducible repeat (first | apply Kd.N_alloc | apply Kd.N_drewN | apply Kd.N_drew)); exact Kd.N_mono (Kd.N_far (p := ⟨gb446, 1, none⟩) (Kd.N_far (p := ⟨gb446, 0, none⟩) (Kd.N_mono HO_28.out (fun k_ hk => (⟨hk, hk.2⟩ : _ ∧ k_ ≠ gb446))) (fun _ hk => hk.2) (.slice A445_0 ((rd_T35 t427 x30_2).f0).length c445_0)) (fun _ hk => hk.2) (.slice A445_1 ((rd_T35 t427 x30_2).f1).length c445_1)) (fun _ hk => ⟨hk.1.1.1, ⟨hk.1.1.2.1, ⟨hk.1.1.2.2.1, ⟨hk.1.1.2.2.2.1, ⟨hk.1.1.2.2.2.2.1, hk.1.1.2.2.2.2.2⟩⟩⟩⟩⟩)⟩, ⟨by (with_reducible repeat (first | apply Kd.N_alloc | apply Kd.N_drewN | apply Kd.N_drew)); exact Kd.N_mono (Kd.N_far (p := ⟨gb446, 1, none⟩) (Kd.N_far (p := ⟨gb446, 0, none⟩) (Kd.N_mono HO_444000.out (fun k_ hk => (⟨hk, hk.2⟩ : _ ∧ k_ ≠ gb446))) (fun _ hk => hk.2) (.slice A445_0 ((rd_T35 t427 x30_2).f0).length c445_0)) (fun _ hk => hk.2) (.slice A445_1 ((rd_T35 t427 x30_2).f1).length c445_1)) (fun _ hk => ⟨hk.1.1.1, ⟨hk.1.1.2.1, ⟨hk.1.1.2.2.1, ⟨hk.1.1.2.2.2.1, ⟨hk.1.1.2.2.2.2.1, hk.1.1.2.2.2.2.2⟩⟩⟩⟩⟩)⟩, ⟨by (with_reducible repeat (first | apply Kd.R_alloc | apply Kd.R_drewN | apply Kd.R_drew)); exact Kd.R_mono (Kd.R_far (p := ⟨gb446, 1, none⟩) (Kd.R_far (p := ⟨gb446, 0, none⟩) (Kd.R_types HO_444001.out BK446.out (by decide)) (fun _ hk => hk.2) (.slice A445_0 ((rd_T35 t427 x30_2).f0).length c445_0)) (fun _ hk => hk.2) (.slice A445_1 ((rd_T35 t427 x30_2).f1).length c445_1)) (fun _ hk => ⟨hk.1.1, hk.1.2⟩)⟩, ⟨by (with_reducible repeat (first | apply Kd.R_alloc | apply Kd.R_drewN | apply Kd.R_drew)); exact Kd.R_mono (Kd.R_far (p := ⟨gb446, 1, none⟩) (Kd.R_far (p := ⟨gb446, 0, none⟩) (Kd.R_types HO_444002.out BK446.out (by decide)) (fun _ hk => hk.2) (.slice A445_0 ((rd_T35 t427 x30_2).f0).length c445_0)) (fun _ hk => hk.2) (.slice A445_1 ((rd_T35 t427 x30_2).f1).length c445_1)) (fun _ hk => trivial)⟩, ⟨by (with_reducible repeat (first | apply Kd.R_alloc | apply Kd.R_drewN | apply Kd.R_drew)); exact Kd.R_mono (Kd.R_far (p := ⟨gb446, 1, none⟩) (Kd.R_far (p := ⟨gb446, 0, none⟩) (Kd.R_types HO_444003.out BK446.out (by decide)) (fun _ hk => hk.2) (.slice A445_0 ((rd_T35 t427 x30_2).f0).length c445_0)) (fun _ hk => hk.2) (.slice A445_1 ((rd_T35 t427 x30_2).f1).length c445_1)) (fun _ hk => ⟨hk.1.1, hk.1.2⟩)⟩, ⟨by (with_reducible repeat (first | apply Kd.R_alloc | apply Kd.R_drewN | apply Kd.R_drew)); exact Kd.R_mono (Kd.R_far (p := ⟨gb446, 1, none⟩) (Kd.R_far (p := ⟨gb446, 0, none⟩) (Kd.R_types HO_444004.out BK446.out (by decide)) (fun _ hk => hk.2) (.slice A445_0 ((rd_T35 t427 x30_2).f0).length c445_0)) (fun _ hk => hk.2) (.slice A445_1 ((rd_T35 t427 x30_2).f1).length c445_1)) (fun _ hk => ⟨hk.1.1, hk.1.2⟩)⟩, ⟨bk BK426⟩, ⟨bk BK443⟩, ⟨bw HB⟩⟩
     subst c24
     have H1 : ((spec_plWay.f k2 t427 t430 t433 t436 t439 x30_2).bind fun t448 => (some (t448, true))) = some (r1, r2) := by rw [if_pos rfl] at H; exact H
     clear H
     have H := H1
     clear H1
     replace H := Option.bind_eq_some_iff.mp H
     obtain ⟨t448, A250, H⟩ := H
     replace H : (some (t448, true)) = some (r1, r2) := H
     have A25 := Aside0.mk A250
     clear A250
     simp only [Option.some.injEq, Prod.mk.injEq] at H
     obtain ⟨rfl, rfl⟩ := H
     have p445 : 0 ≤ (x30_2 : Int) := of_decide_eq_true ‹_›
     have q445 : x30_2 < (t427.length : Int) := of_decide_eq_true ‹_›
     obtain ⟨ad445, A445_0, c445_0, A445_1, c445_1, e445, hx445_0, hx445_1, hl445_0, hi445_0, hl445_1, hi445_1⟩ := at_T35 (Kd.N_reads' HO_28.out).2.2 x30_2 p445 q445
     cases e445
     obtain ⟨ce445, hce445, hMe445, hcc445⟩ := Kd.N_get HO_28.out z35 x30_2 p445 (by first | exact q445 | exact of_decide_eq_true ‹_› | (have e_ := (Kd.N_reads' HO_28.out).1; omega))
     obtain ⟨ua445_0, uc445_0, ua445_1, uc445_1, rfl, ul445_0, ge445_0, ul445_1, ge445_1⟩ := k35_openF hMe445
     have hv445_0 := hcc445 0 _ rfl
     rw [Nat.add_zero] at hv445_0
     replace hv445_0 := Option.some.inj (hv445_0.symm.trans hx445_0)
     injection hv445_0 with hva_ hvn_ hvc_
     rw [hva_] at ge445_0
     rw [hvc_] at ul445_0
     have HL445_0 := Aside0.mk (show Kd.V (Kd.int .i64) 3 _ w.heap.size _ _ ((rd_T35 t427 x30_2).f0) from Kd.V_mk ul445_0 ge445_0)
     clear hva_ hvn_ hvc_ ge445_0 ul445_0
     have hv445_1 := hcc445 1 _ rfl
     rw [add_field _ _ 1 (by omega)] at hv445_1
     replace hv445_1 := Option.some.inj (hv445_1.symm.trans hx445_1)
     injection hv445_1 with hva_ hvn_ hvc_
     rw [hva_] at ge445_1
     rw [hvc_] at ul445_1
     have HL445_1 := Aside0.mk (show Kd.V (Kd.int .i64) 3 _ w.heap.size _ _ ((rd_T35 t427 x30_2).f1) from Kd.V_mk ul445_1 ge445_1)
     clear hva_ hvn_ hvc_ ge445_1 ul445_1
     clear hcc445 hce445
     have HR445_0 := Aside0.mk hi445_0
     have HC445_0 := Aside0.mk hl445_0
     clear hi445_0 hl445_0
     have HR445_1 := Aside0.mk hi445_1
     have HC445_1 := Aside0.mk hl445_1
     clear hi445_1 hl445_1
     replace p445 := eq_true p445
     replace q445 := eq_true q445
     go_wp2_with (first | ((with_reducible refine gate_dst (N := 11) rfl ?_); refine bx 11 #[.slice none 0 0, .slice none 0 0] 35 ?_; intro gb446 hg w26 hbox hb; replace HO_28 := Aside0.mk (Kd.N_below (Kd.N_elderB (by (with_reducible repeat (first | apply Kd.N_alloc | apply Kd.N_drewN | apply Kd.N_drew)); exact HO_28.out) gb446 (Nat.le_of_eq hg.symm)) hb); replace HO_444000 := Aside0.mk (Kd.N_below (Kd.N_elderB (by (with_reducible repeat (first | apply Kd.N_alloc | apply Kd.N_drewN | apply Kd.N_drew)); exact HO_444000.out) gb446 (Nat.le_of_eq hg.symm)) hb); replace HO_444001 := rb HO_444001 hb; replace HO_444002 := rb HO_444002 hb; replace HO_444003 := rb HO_444003 hb; replace HO_444004 := rb HO_444004 hb; replace HL445_0 := Aside0.mk (Kd.V_below (Kd.V_elderB (by (with_reducible repeat (first | apply Kd.V_alloc | apply Kd.V_drewN | apply Kd.V_drew)); exact HL445_0.out) gb446 (Nat.le_of_eq hg.symm)) hb); replace HL445_1 := Aside0.mk (Kd.V_below (Kd.V_elderB (by (with_reducible repeat (first | apply Kd.V_alloc | apply Kd.V_drewN | apply Kd.V_drew)); exact HL445_1.out) gb446 (Nat.le_of_eq hg.symm)) hb); replace HR445_0 := Aside0.mk (Kd.C_below (by repeat (first | (with_reducible exact HR445_0.out) | (with_reducible refine Kd.C_alloc ?_ _) | (with_reducible refine Kd.C_drewN ?_ _) | (with_reducible refine Kd.C_drew ?_) | exact HR445_0.out)) hb); replace HR445_1 := Aside0.mk (Kd.C_below (by repeat (first | (with_reducible exact HR445_1.out) | (with_reducible refine Kd.C_alloc ?_ _) | (with_reducible refine Kd.C_drewN ?_ _) | (with_reducible refine Kd.C_drew ?_) | exact HR445_1.out)) hb); have BK446 := Aside0.mk (hbox); have GW446 := ge HB hg; have GE446 := ge HB hg; replace HB := bs HB hb; have NB426_446 := nl BK426 hg; have NB446_426 := nr BK426 hg; replace BK426 := bb BK426 hb; have NB443_446 := nl BK443 hg; have NB446_443 := nr BK443 hg; replace BK443 := bb BK443 hb; clear hb hbox hg; have hnb27 := NB446_426.out; have hnc27 := NB426_446.out; have hnb28 := NB446_443.out; have hnc28 := NB443_446.out; have hcz29_0 := bc0 BK446; have hcz29_1 := bc1 BK446; have hfz29_0 := blk_frozen BK446.out 0; have hfz29_1 := blk_frozen BK446.out 1) | ((with_reducible refine gate_callee (f := 42) rfl ?_); refine gl 38 Try.func42 #[.slice A445_1 ((rd_T35 t427 x30_2).f1).length c445_1, .int .i64 a1] ?_; (with_reducible refine (spec_l1Has.calls k2 _ _ ((rd_T35 t427 x30_2).f1) a1 true _ ?side1 ?side2 A23.out).mono ?_); (case side1 => repeat (first | exact ((Kd.V_reads' (by (with_reducible repeat (first | apply Kd.V_alloc | apply Kd.V_drewN | apply Kd.V_drew)); exact (Kd.V_mono (Kd.V_far (p := ⟨gb446, 1, none⟩) (Kd.V_far (p := ⟨gb446, 0, none⟩) (Kd.V_mono HL445_1.out (fun k_ hk => (⟨hk, hk.2⟩ : _ ∧ k_ ≠ gb446))) (fun _ hk => hk.2) (.slice A445_0 ((rd_T35 t427 x30_2).f0).length c445_0)) (fun _ hk => hk.2) (.slice A445_1 ((rd_T35 t427 x30_2).f1).length c445_1)) (fun _ h_ => h_.1)))).2.2) | (with_reducible refine Kd.C_alloc ?_ _) | (with_reducible refine Kd.C_drewN ?_ _) | (with_reducible refine Kd.C_drew ?_))); (case side2 => exact HC445_1.out); rintro e w' ⟨rfl, ⟨nd, rfl⟩⟩; refine ⟨_, rfl, ?_⟩; have hnb30 := NB443_426.out; have hnc30 := NB426_443.out; have hcz31_0 := bc0 BK443; have hcz31_1 := bc1 BK443; have hcz31_2 := bc2 BK443; have hcz31_3 := bc3 BK443; have hcz31_4 := bc4 BK443; have hfz31_0 := blk_frozen BK443.out 0; have hfz31_1 := blk_frozen BK443.out 1; have hfz31_2 := blk_frozen BK443.out 2; have hfz31_3 := blk_frozen BK443.out 3; have hfz31_4 := blk_frozen BK443.out 4) | ((with_reducible refine gate_callee (f := 43) rfl ?_); refine gl 41 Try.func43 #[.pointer (some ⟨gb443, 0, none⟩), .int .i64 x30_2] ?_; (with_reducible refine (spec_plWay.calls k2 (some ad445) co9 t427 Ao10 co10 t430 Ao11 co11 t433 Ao12 co12 t436 Ao13 co13 t439 x30_2 t448 _ gb443 ?side0 ?side1 ?side2 ?side3 ?side4 ?side5 ?side6 ?side7 ?side8 ?side9 ?side10 A25.out).mono ?_); (case side0 => exact bk BK443); (case side1 => refine (Kd.N_reads' (e := 35) (base := w.heap.size) (ok := fun k_ => ((some k_ ≠ (.slice Ao10 t430.length co10 : Value).ownBlock ∧ (some k_ ≠ (.slice Ao11 t433.length co11 : Value).ownBlock ∧ (some k_ ≠ (.slice Ao12 t436.length co12 : Value).ownBlock ∧ (some k_ ≠ (.slice Ao13 t439.length co13 : Value).ownBlock ∧ (k_ ≠ gb426 ∧ k_ ≠ gb443))))) ∧ k_ ≠ gb446)) (n := t427.length) (c := co9) ?_).2.2; exact (by (with_reducible repeat (first | apply Kd.N_alloc | apply Kd.N_drewN | apply Kd.N_drew)); exact (Kd.N_mono (Kd.N_far (p := ⟨gb446, 1, none⟩) (Kd.N_far (p := ⟨gb446, 0, none⟩) (Kd.N_mono HO_444000.out (fun k_ hk => (⟨hk, hk.2⟩ : _ ∧ k_ ≠ gb446))) (fun _ hk => hk.2) (.slice A445_0 ((rd_T35 t427 x30_2).f0).length c445_0)) (fun _ hk => hk.2) (.slice A445_1 ((rd_T35 t427 x30_2).f1).length c445_1)) (fun _ h_ => h_.1)))); (case side2 => exact (Kd.N_reads' HO_444000.out).2.1); (case side3 => refine (Kd.R_reads' (e := 3) (base := w.heap.size) (ok := fun k_ => (some k_ ≠ (.slice Ao12 t436.length co12 : Value).ownBlock ∧ some k_ ≠ (.slice Ao13 t439.length co13 : Value).ownBlock)) (n := t430.length) (c := co10) ?_).2.2; exact (by (with_reducible repeat (first | apply Kd.R_alloc | apply Kd.R_drewN | apply Kd.R_drew)); exact (Kd.R_mono (Kd.R_far (p := ⟨gb446, 1, none⟩) (Kd.R_far (p := ⟨gb446, 0, none⟩) (Kd.R_types HO_444001.out BK446.out (by decide)) (fun _ hk => hk.2) (.slice A445_0 ((rd_T35 t427 x30_2).f0).length c445_0)) (fun _ hk => hk.2) (.slice A445_1 ((rd_T35 t427 x30_2).f1).length c445_1)) (fun _ h_ => h_.1)))); (case side4 => exact (Kd.R_reads' HO_444001.out).2.1); (case side5 => refine (Kd.R_reads' (e := 55) (base := w.heap.size) (ok := fun k_ => True) (n := t433.length) (c := co11) ?_).2.2; exact (by (with_reducible repeat (first | apply Kd.R_alloc | apply Kd.R_drewN | apply Kd.R_drew)); exact (Kd.R_mono (Kd.R_far (p := ⟨gb446, 1, none⟩) (Kd.R_far (p := ⟨gb446, 0, none⟩) (Kd.R_types HO_444002.out BK446.out (by decide)) (fun _ hk => hk.2) (.slice A445_0 ((rd_T35 t427 x30_2).f0).length c445_0)) (fun _ hk => hk.2) (.slice A445_1 ((rd_T35 t427 x30_2).f1).length c445_1)) (fun _ h_ => h_.1)))); (case side6 => exact (Kd.R_reads' HO_444002.out).2.1); (case side7 => refine (Kd.R_reads' (e := 3) (base := w.heap.size) (ok := fun k_ => (some k_ ≠ (.slice Ao10 t430.length co10 : Value).ownBlock ∧ some k_ ≠ (.slice Ao13 t439.length co13 : Value).ownBlock)) (n := t436.length) (c := co12) ?_).2.2; exact (by (with_reducible repeat (first | apply Kd.R_alloc | apply Kd.R_drewN | apply Kd.R_drew)); exact (Kd.R_mono (Kd.R_far (p := ⟨gb446, 1, none⟩) (Kd.R_far (p := ⟨gb446, 0, none⟩) (Kd.R_types HO_444003.out BK446.out (by decide)) (fun _ hk => hk.2) (.slice A445_0 ((rd_T35 t427 x30_2).f0).length c445_0)) (fun _ hk => hk.2) (.slice A445_1 ((rd_T35 t427 x30_2).f1).length c445_1)) (fun _ h_ => h_.1)))); (case side8 => exact (Kd.R_reads' HO_444003.out).2.1); (case side9 => refine (Kd.R_reads' (e := 3) (base := w.heap.size) (ok := fun k_ => (some k_ ≠ (.slice Ao10 t430.length co10 : Value).ownBlock ∧ some k_ ≠ (.slice Ao12 t436.length co12 : Value).ownBlock)) (n := t439.length) (c := co13) ?_).2.2; exact (by (with_reducible repeat (first | apply Kd.R_alloc | apply Kd.R_drewN | apply Kd.R_drew)); exact (Kd.R_mono (Kd.R_far (p := ⟨gb446, 1, none⟩) (Kd.R_far (p := ⟨gb446, 0, none⟩) (Kd.R_types HO_444004.out BK446.out (by decide)) (fun _ hk => hk.2) (.slice A445_0 ((rd_T35 t427 x30_2).f0).length c445_0)) (fun _ hk => hk.2) (.slice A445_1 ((rd_T35 t427 x30_2).f1).length c445_1)) (fun _ h_ => h_.1)))); (case side10 => exact (Kd.R_reads' HO_444004.out).2.1); rintro e w32 ⟨v449, rfl, ho0, hb⟩; refine ⟨_, rfl, ?_⟩; replace HO_28 := Aside0.mk (Kd.N_elder' (by (with_reducible repeat (first | apply Kd.N_alloc | apply Kd.N_drewN | apply Kd.N_drew)); exact (Kd.N_mono (Kd.N_far (p := ⟨gb446, 1, none⟩) (Kd.N_far (p := ⟨gb446, 0, none⟩) (Kd.N_mono HO_28.out (fun k_ hk => (⟨hk, hk.2⟩ : _ ∧ k_ ≠ gb446))) (fun _ hk => hk.2) (.slice A445_0 ((rd_T35 t427 x30_2).f0).length c445_0)) (fun _ hk => hk.2) (.slice A445_1 ((rd_T35 t427 x30_2).f1).length c445_1)) (fun _ h_ => h_.1))) (Kd.R_base ho0) hb); replace HO_444000 := Aside0.mk (Kd.N_elder' (by (with_reducible repeat (first | apply Kd.N_alloc | apply Kd.N_drewN | apply Kd.N_drew)); exact (Kd.N_mono (Kd.N_far (p := ⟨gb446, 1, none⟩) (Kd.N_far (p := ⟨gb446, 0, none⟩) (Kd.N_mono HO_444000.out (fun k_ hk => (⟨hk, hk.2⟩ : _ ∧ k_ ≠ gb446))) (fun _ hk => hk.2) (.slice A445_0 ((rd_T35 t427 x30_2).f0).length c445_0)) (fun _ hk => hk.2) (.slice A445_1 ((rd_T35 t427 x30_2).f1).length c445_1)) (fun _ h_ => h_.1))) (Kd.R_base ho0) hb); replace HO_444001 := Aside0.mk (Kd.R_below (by (with_reducible repeat (first | apply Kd.R_alloc | apply Kd.R_drewN | apply Kd.R_drew)); exact (Kd.R_mono (Kd.R_far (p := ⟨gb446, 1, none⟩) (Kd.R_far (p := ⟨gb446, 0, none⟩) (Kd.R_types HO_444001.out BK446.out (by decide)) (fun _ hk => hk.2) (.slice A445_0 ((rd_T35 t427 x30_2).f0).length c445_0)) (fun _ hk => hk.2) (.slice A445_1 ((rd_T35 t427 x30_2).f1).length c445_1)) (fun _ h_ => h_.1))) hb); replace HO_444003 := Aside0.mk (Kd.R_below (by (with_reducible repeat (first | apply Kd.R_alloc | apply Kd.R_drewN | apply Kd.R_drew)); exact (Kd.R_mono (Kd.R_far (p := ⟨gb446, 1, none⟩) (Kd.R_far (p := ⟨gb446, 0, none⟩) (Kd.R_types HO_444003.out BK446.out (by decide)) (fun _ hk => hk.2) (.slice A445_0 ((rd_T35 t427 x30_2).f0).length c445_0)) (fun _ hk => hk.2) (.slice A445_1 ((rd_T35 t427 x30_2).f1).length c445_1)) (fun _ h_ => h_.1))) hb); replace HO_444004 := Aside0.mk (Kd.R_below (by (with_reducible repeat (first | apply Kd.R_alloc | apply Kd.R_drewN | apply Kd.R_drew)); exact (Kd.R_mono (Kd.R_far (p := ⟨gb446, 1, none⟩) (Kd.R_far (p := ⟨gb446, 0, none⟩) (Kd.R_types HO_444004.out BK446.out (by decide)) (fun _ hk => hk.2) (.slice A445_0 ((rd_T35 t427 x30_2).f0).length c445_0)) (fun _ hk => hk.2) (.slice A445_1 ((rd_T35 t427 x30_2).f1).length c445_1)) (fun _ h_ => h_.1))) hb); have HO450 := Aside0.mk (Kd.R_lower (Kd.R_new' ho0 (Kd.R_lt (by (with_reducible repeat (first | apply Kd.R_alloc | apply Kd.R_drewN | apply Kd.R_drew)); exact (Kd.R_mono (Kd.R_far (p := ⟨gb446, 1, none⟩) (Kd.R_far (p := ⟨gb446, 0, none⟩) (Kd.R_types HO_444002.out BK446.out (by decide)) (fun _ hk => hk.2) (.slice A445_0 ((rd_T35 t427 x30_2).f0).length c445_0)) (fun _ hk => hk.2) (.slice A445_1 ((rd_T35 t427 x30_2).f1).length c445_1)) (fun _ h_ => h_.1))))) (below_size (bw HB))); replace HO_444002 := Aside0.mk (Kd.R_elder' (by (with_reducible repeat (first | apply Kd.R_alloc | apply Kd.R_drewN | apply Kd.R_drew)); exact (Kd.R_mono (Kd.R_far (p := ⟨gb446, 1, none⟩) (Kd.R_far (p := ⟨gb446, 0, none⟩) (Kd.R_types HO_444002.out BK446.out (by decide)) (fun _ hk => hk.2) (.slice A445_0 ((rd_T35 t427 x30_2).f0).length c445_0)) (fun _ hk => hk.2) (.slice A445_1 ((rd_T35 t427 x30_2).f1).length c445_1)) (fun _ h_ => h_.1))) (Kd.R_base ho0) hb); replace BK426 := bb BK426 hb; replace BK443 := bb BK443 hb; replace HR445_0 := Aside0.mk (Kd.C_below ((Kd.V_reads' (by (with_reducible repeat (first | apply Kd.V_alloc | apply Kd.V_drewN | apply Kd.V_drew)); exact (Kd.V_mono (Kd.V_far (p := ⟨gb446, 1, none⟩) (Kd.V_far (p := ⟨gb446, 0, none⟩) (Kd.V_mono HL445_0.out (fun k_ hk => (⟨hk, hk.2⟩ : _ ∧ k_ ≠ gb446))) (fun _ hk => hk.2) (.slice A445_0 ((rd_T35 t427 x30_2).f0).length c445_0)) (fun _ hk => hk.2) (.slice A445_1 ((rd_T35 t427 x30_2).f1).length c445_1)) (fun _ h_ => h_.1)))).2.2) hb); replace HL445_0 := Aside0.mk (Kd.V_elder' (by (with_reducible repeat (first | apply Kd.V_alloc | apply Kd.V_drewN | apply Kd.V_drew)); exact (Kd.V_mono (Kd.V_far (p := ⟨gb446, 1, none⟩) (Kd.V_far (p := ⟨gb446, 0, none⟩) (Kd.V_mono HL445_0.out (fun k_ hk => (⟨hk, hk.2⟩ : _ ∧ k_ ≠ gb446))) (fun _ hk => hk.2) (.slice A445_0 ((rd_T35 t427 x30_2).f0).length c445_0)) (fun _ hk => hk.2) (.slice A445_1 ((rd_T35 t427 x30_2).f1).length c445_1)) (fun _ h_ => h_.1))) (Kd.R_base ho0) hb); replace HR445_1 := Aside0.mk (Kd.C_below ((Kd.V_reads' (by (with_reducible repeat (first | apply Kd.V_alloc | apply Kd.V_drewN | apply Kd.V_drew)); exact (Kd.V_mono (Kd.V_far (p := ⟨gb446, 1, none⟩) (Kd.V_far (p := ⟨gb446, 0, none⟩) (Kd.V_mono HL445_1.out (fun k_ hk => (⟨hk, hk.2⟩ : _ ∧ k_ ≠ gb446))) (fun _ hk => hk.2) (.slice A445_0 ((rd_T35 t427 x30_2).f0).length c445_0)) (fun _ hk => hk.2) (.slice A445_1 ((rd_T35 t427 x30_2).f1).length c445_1)) (fun _ h_ => h_.1)))).2.2) hb); replace HL445_1 := Aside0.mk (Kd.V_elder' (by (with_reducible repeat (first | apply Kd.V_alloc | apply Kd.V_drewN | apply Kd.V_drew)); exact (Kd.V_mono (Kd.V_far (p := ⟨gb446, 1, none⟩) (Kd.V_far (p := ⟨gb446, 0, none⟩) (Kd.V_mono HL445_1.out (fun k_ hk => (⟨hk, hk.2⟩ : _ ∧ k_ ≠ gb446))) (fun _ hk => hk.2) (.slice A445_0 ((rd_T35 t427 x30_2).f0).length c445_0)) (fun _ hk => hk.2) (.slice A445_1 ((rd_T35 t427 x30_2).f1).length c445_1)) (fun _ h_ => h_.1))) (Kd.R_base ho0) hb); replace BK446 := Aside0.mk (blk_below (g := gb446) (o := .cells #[.slice A445_0 ((rd_T35 t427 x30_2).f0).length c445_0, .slice A445_1 ((rd_T35 t427 x30_2).f1).length c445_1] 35 (0, 0)) (by (with_reducible repeat (first | refine blk_drewN ?_ _ | refine blk_drew ?_ | refine blk_alloc ?_ _)); refine blk_put (cs := #[.slice A445_0 ((rd_T35 t427 x30_2).f0).length c445_0, .slice none 0 0]) ?_ 1 _ rfl; (with_reducible repeat (first | refine blk_drewN ?_ _ | refine blk_drew ?_ | refine blk_alloc ?_ _)); refine blk_put (cs := #[.slice none 0 0, .slice none 0 0]) ?_ 0 _ rfl; exact bk BK446) hb); replace HB := bs HB hb; (try clear hb); (try clear ho0)))
     go_ret2
     exact ⟨_, by first | rfl | (simp [errW_none, errW_some] <;> rfl) | (simp [*, errW_none, errW_some] <;> rfl), by (with_reducible repeat (first | apply Kd.R_alloc | apply Kd.R_drewN | apply Kd.R_drew)); exact Kd.R_mono HO450.out (fun _ hk => trivial), bw HB⟩
end Go.Proofs.Ytieioddimkafbaa.V
