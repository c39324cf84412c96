/- Functions of the specification over all that is reached: as plain functions, and that the calls come to them. -/
import Derived.Test.YtigpkicbigpilaaTbVplQ
import Derived.Test.YtigpkicbigpilaaTbVx4
namespace Go.Proofs.Ytigpkicbigpilaa.V
open Go.RowKit Go.Proofs.YtigpkicbigpilaaW.PrintWords Go.Proofs.YtigpkicbigpilaaW.PrintLast Go.Proofs.YtigpkicbigpilaaW.PrintMore Go.Proofs.Ytigpkicbigpilaa.Sq Go.Proofs.Ytigpkicbigpilaa.Sep
attribute [local go_sem] max2_int min2_int max_two min_two max_three min_three max_four min_four
set_option linter.unusedVariables false
set_option linter.unusedSimpArgs false
def spec_LayersOf.l0 : Nat → List Int → List Int → Int → Int → Option (List Int × Bool)
 | 0, _, _, _, _ => none
 | k + 1, x8, x36, x37, x38 => if x38 < x37 then (if 0 ≤ x38 then (if x38 < (x36.length : Int) then (if 0 ≤ (rd x36 x38) then (if (rd x36 x38) < (x8.length : Int) then (spec_LayersOf.l0 k (x8.set ((rd x36 x38) : Int).toNat (wrap64 ((rd x8 (rd x36 x38)) + 1))) x36 x37 (wrap64 (x38 + 1))) else (none)) else (none)) else (none)) else (none)) else (some (x8, true))
def spec_LayersOf.f (k : Nat) (l0_0 : List Int) (l0_1 : List Int) (a1 : Bool) : Option (List Int × Bool) := (spec_plAsked.f k l0_0 l0_1 a1).bind fun bt479 => (if bt479.2.2.2.2.2 = true then (if 0 ≤ (wrap64 ((bt479.2.2.2.1.length : Int) - 1)) then (if (wrap64 ((bt479.2.2.2.1.length : Int) - 1)) < (bt479.2.2.2.1.length : Int) then (if 0 ≤ (wrap64 ((rd bt479.2.2.2.1 (wrap64 ((bt479.2.2.2.1.length : Int) - 1))) + 1)) then (if (wrap64 ((rd bt479.2.2.2.1 (wrap64 ((bt479.2.2.2.1.length : Int) - 1))) + 1) : Int).toNat ≤ 35184372088832 then (spec_LayersOf.l0 k (List.replicate (wrap64 ((rd bt479.2.2.2.1 (wrap64 ((bt479.2.2.2.1.length : Int) - 1))) + 1) : Int).toNat 0) bt479.2.2.2.1 (bt479.2.2.2.1.length : Int) 0) else (none)) else (none)) else (none)) else (none)) else (some (([] : List Int), false)))
def spec_LayersOf.T4 : Bool × List (List Nat × List Nat) := (true, [([], []), ([0], [0]), ([1], [1]), ([2], [2]), ([], []), ([4], [4]), ([5], [5]), ([6], [6]), ([7], [7]), ([8], [8]), ([3, 9], [3, 9]), ([10], [10]), ([11], [11]), ([12, 12], [12]), ([13, 0, 1, 2, 3, 4, 5, 6, 7, 8, 9, 10, 11, 12, 13], [13])])
def spec_LayersOf.B4 : List Nat := [0, 1, 3, 7, 0, 16, 48, 112, 240, 496, 1023, 2047, 4095, 8191, 16383]
theorem spec_LayersOf.tab4 : rtab .any (opsOf Try.f35 4) = spec_LayersOf.T4 := by kernel_rfl
theorem spec_LayersOf.bits4 : waitsOk spec_LayersOf.T4.2 spec_LayersOf.B4 = true := by kernel_rfl
set_option maxHeartbeats 8000000 in
set_option maxRecDepth 100000 in
theorem spec_LayersOf.calls (k : Nat) (A0_0 : Option Addr) (c0_0 : Nat) (l0_0 : List Int) (A0_1 : Option Addr) (c0_1 : Nat) (l0_1 : List Int) (a1 : Bool) (r1 : List Int) (r2 : Bool) (w : World) (hr0_0 : Kd.C (Kd.int .i64) w A0_0 l0_0.length l0_0) (hc0_0 : l0_0.length ≤ c0_0) (hr0_1 : Kd.C (Kd.int .i64) w A0_1 l0_1.length l0_1) (hc0_1 : l0_1.length ≤ c0_1) (h : spec_LayersOf.f k l0_0 l0_1 a1 = some (r1, r2)) :
  Calls Try.prog 35 #[.agg #[.slice A0_0 l0_0.length c0_0, .slice A0_1 l0_1.length c0_1], .bool a1] w fun e w' => ∃ v0_ : Value, e = .returned (.tuple #[v0_, .bool r2]) ∧ Kd.R (Kd.int .i64) 3 w' w.heap.size (fun _ => True) v0_ r1 ∧ Below w.heap.size w w' := by
 have hu29 := Try.underlying29
 have hu80 := Try.underlying80
 have HR0_0 := Aside0.mk hr0_0
 have HC0_0 := Aside0.mk hc0_0
 clear hr0_0 hc0_0
 have HR0_1 := Aside0.mk hr0_1
 have HC0_1 := Aside0.mk hc0_1
 clear hr0_1 hc0_1
 have HB := Aside0.mk (Below.refl w.heap.size w)
 have H : ((spec_plAsked.f k l0_0 l0_1 a1).bind fun bt479 => (if bt479.2.2.2.2.2 = true then (if 0 ≤ (wrap64 ((bt479.2.2.2.1.length : Int) - 1)) then (if (wrap64 ((bt479.2.2.2.1.length : Int) - 1)) < (bt479.2.2.2.1.length : Int) then (if 0 ≤ (wrap64 ((rd bt479.2.2.2.1 (wrap64 ((bt479.2.2.2.1.length : Int) - 1))) + 1)) then (if (wrap64 ((rd bt479.2.2.2.1 (wrap64 ((bt479.2.2.2.1.length : Int) - 1))) + 1) : Int).toNat ≤ 35184372088832 then (spec_LayersOf.l0 k (List.replicate (wrap64 ((rd bt479.2.2.2.1 (wrap64 ((bt479.2.2.2.1.length : Int) - 1))) + 1) : Int).toNat 0) bt479.2.2.2.1 (bt479.2.2.2.1.length : Int) 0) else (none)) else (none)) else (none)) else (none)) else (some (([] : List Int), false)))) = some (r1, r2) := h
 clear h
 replace H := Option.bind_eq_some_iff.mp H
 obtain ⟨⟨t479, t482, t485, t488, t491, t494⟩, A30, H⟩ := H
 replace H : (if t494 = true then (if 0 ≤ (wrap64 ((t488.length : Int) - 1)) then (if (wrap64 ((t488.length : Int) - 1)) < (t488.length : Int) then (if 0 ≤ (wrap64 ((rd t488 (wrap64 ((t488.length : Int) - 1))) + 1)) then (if (wrap64 ((rd t488 (wrap64 ((t488.length : Int) - 1))) + 1) : Int).toNat ≤ 35184372088832 then (spec_LayersOf.l0 k (List.replicate (wrap64 ((rd t488 (wrap64 ((t488.length : Int) - 1))) + 1) : Int).toNat 0) t488 (t488.length : Int) 0) else (none)) else (none)) else (none)) else (none)) else (some (([] : List Int), false))) = some (r1, r2) := H
 have A3 := Aside0.mk A30
 clear A30
 by_cases c4 : t494 = true
 rotate_left
 ·replace c4 := Bool.eq_false_iff.mpr c4
  subst c4
  have H1 : (some (([] : List Int), false)) = some (r1, r2) := by rw [if_neg (show ¬ (false = true) by decide)] at H; exact H
  clear H
  have H := H1
  clear H1
  simp only [Option.some.injEq, Prod.mk.injEq] at H
  obtain ⟨rfl, rfl⟩ := H
  go_enter Try.func35, Try.ntmps35
  go_wp2_with (first | ((with_reducible refine gate_dst (N := 2) rfl ?_); refine bx 2 #[.slice A0_0 l0_0.length c0_0, .slice A0_1 l0_1.length c0_1] 29 ?_; intro gb478 hg w34 hbox hb; have BK478 := Aside0.mk (hbox); have GW478 := ge HB hg; have GE478 := ge HB hg; replace HB := bs HB hb; clear hb hbox hg; have hcz35_0 := bc0 BK478; have hcz35_1 := bc1 BK478; have hfz35_0 := blk_frozen BK478.out 0; have hfz35_1 := blk_frozen BK478.out 1) | ((with_reducible refine gate_callee (f := 63) rfl ?_); refine gl 14 Try.func63 #[.agg #[.slice A0_0 l0_0.length c0_0, .slice A0_1 l0_1.length c0_1], .bool a1] ?_; (with_reducible refine (spec_plAsked.calls k (fun k_ => k_ < w.heap.size) _ _ l0_0 _ _ l0_1 a1 t479 t482 t485 t488 t491 false _ ?side1 ?side2 ?side3 A3.out).mono ?_); (case side1 => exact foot_and (Kd.F_below (Kd.C_F (Kd.heap_int .i64) HR0_0.out) (bw HB)) (Kd.F_below (Kd.C_F (Kd.heap_int .i64) HR0_1.out) (bw HB))); (case side2 => exact HC0_0.out); (case side3 => exact HC0_1.out); rintro e w42 ⟨p_, rfl, hq_, hb⟩; refine ⟨_, rfl, ?_⟩; replace BK478 := bb BK478 hb; replace HB := bs HB hb; (try clear hb); clear hq_))
  go_ret2
  exact ⟨_, by first | rfl | (simp [errW_none, errW_some] <;> rfl) | (simp [*, errW_none, errW_some] <;> rfl), by first | exact Kd.R_nil _ _ _ _ _ | exact Kd.N_nil _ _ _ _ _ | exact Kd.V_nil _ _ _ _ _ | exact Kd.Q_nil _ _ _ _ _ | exact Kd.S_nil _ _ _ _ _, bw HB⟩
 subst c4
 have H1 : (if 0 ≤ (wrap64 ((t488.length : Int) - 1)) then (if (wrap64 ((t488.length : Int) - 1)) < (t488.length : Int) then (if 0 ≤ (wrap64 ((rd t488 (wrap64 ((t488.length : Int) - 1))) + 1)) then (if (wrap64 ((rd t488 (wrap64 ((t488.length : Int) - 1))) + 1) : Int).toNat ≤ 35184372088832 then (spec_LayersOf.l0 k (List.replicate (wrap64 ((rd t488 (wrap64 ((t488.length : Int) - 1))) + 1) : Int).toNat 0) t488 (t488.length : Int) 0) else (none)) else (none)) else (none)) else (none)) = some (r1, r2) := by rw [if_pos rfl] at H; exact H
 clear H
 have H := H1
 clear H1
 obtain ⟨ji5, hji5⟩ : ∃ j_ : Int, (wrap64 ((t488.length : Int) - 1)) = j_ := ⟨_, rfl⟩
 replace H : (if 0 ≤ (ji5) then (if (ji5) < (t488.length : Int) then (if 0 ≤ (wrap64 ((rd t488 (ji5)) + 1)) then (if (wrap64 ((rd t488 (ji5)) + 1) : Int).toNat ≤ 35184372088832 then (spec_LayersOf.l0 k (List.replicate (wrap64 ((rd t488 (ji5)) + 1) : Int).toNat 0) t488 (t488.length : Int) 0) else (none)) else (none)) else (none)) else (none)) = some (r1, r2) := by first | (rw [hji5] at H; exact H) | (simp only [hji5] at H ⊢; exact H)
 (try rw [hji5] at A3)
 have hji5w : (IntKind.i64.wrap ((t488.length : Int) - 1)) = ji5 := (i64_w _).trans hji5
 by_cases c6 : 0 ≤ (ji5)
 rotate_left
 ·rw [if_neg c6] at H
  exact absurd H (by simp)
 rw [if_pos c6] at H
 have c6b0 : decide (0 ≤ (ji5)) = true := decide_eq_true c6
 clear c6
 by_cases c7 : (ji5) < (t488.length : Int)
 rotate_left
 ·rw [if_neg c7] at H
  exact absurd H (by simp)
 rw [if_pos c7] at H
 have c7b0 : decide ((ji5) < (t488.length : Int)) = true := decide_eq_true c7
 clear c7
 obtain ⟨ji8, hji8⟩ : ∃ j_ : Int, (wrap64 ((rd t488 (ji5)) + 1)) = j_ := ⟨_, rfl⟩
 replace H : (if 0 ≤ (ji8) then (if (ji8 : Int).toNat ≤ 35184372088832 then (spec_LayersOf.l0 k (List.replicate (ji8 : Int).toNat 0) t488 (t488.length : Int) 0) else (none)) else (none)) = some (r1, r2) := by first | (rw [hji8] at H; exact H) | (simp only [hji8] at H ⊢; exact H)
 (try rw [hji8] at A3)
 have hji8w : (IntKind.i64.wrap ((rd t488 (ji5)) + 1)) = ji8 := (i64_w _).trans hji8
 by_cases c9 : 0 ≤ (ji8)
 rotate_left
 ·rw [if_neg c9] at H
  exact absurd H (by simp)
 rw [if_pos c9] at H
 have c9b0 := eq_true c9
 have c9b1 : decide (0 ≤ (ji8)) = true := decide_eq_true c9
 clear c9
 by_cases c10 : (ji8 : Int).toNat ≤ 35184372088832
 rotate_left
 ·rw [if_neg c10] at H
  exact absurd H (by simp)
 rw [if_pos c10] at H
 have c10b0 := eq_true c10
 have c10b1 : decide ((ji8 : Int).toNat ≤ 35184372088832) = true := decide_eq_true c10
 clear c10
 obtain ⟨y497, hy497⟩ : ∃ y_ : List Int, y_ = (List.replicate (ji8 : Int).toNat 0) := ⟨_, rfl⟩
 replace H : (spec_LayersOf.l0 k y497 t488 (t488.length : Int) 0) = some (r1, r2) := by first | (rw [hy497]; with_reducible exact H) | (have H2_ := (Option.bind_some _ _).symm.trans H; rw [hy497]; with_reducible exact H2_) | (have H2_ := (Option.bind_some _ _).symm.trans H; with_reducible exact H2_) | with_reducible exact H | (rw [hy497]; exact H) | exact H
 have Ny497 := Aside0.mk hy497
 clear hy497
 have H' := Aside0.mk H
 clear H
 go_enter Try.func35, Try.ntmps35
 try go_wp2_with (first | ((with_reducible refine gate_dst (N := 2) rfl ?_); refine bx 2 #[.slice A0_0 l0_0.length c0_0, .slice A0_1 l0_1.length c0_1] 29 ?_; intro gb478 hg w11 hbox hb; have BK478 := Aside0.mk (hbox); have GW478 := ge HB hg; have GE478 := ge HB hg; replace HB := bs HB hb; clear hb hbox hg; have hcz12_0 := bc0 BK478; have hcz12_1 := bc1 BK478; have hfz12_0 := blk_frozen BK478.out 0; have hfz12_1 := blk_frozen BK478.out 1) | ((with_reducible refine gate_callee (f := 63) rfl ?_); refine gl 14 Try.func63 #[.agg #[.slice A0_0 l0_0.length c0_0, .slice A0_1 l0_1.length c0_1], .bool a1] ?_; (with_reducible refine (spec_plAsked.calls k (fun k_ => k_ < w.heap.size) _ _ l0_0 _ _ l0_1 a1 t479 t482 t485 t488 t491 true _ ?side1 ?side2 ?side3 A3.out).mono ?_); (case side1 => exact foot_and (Kd.F_below (Kd.C_F (Kd.heap_int .i64) HR0_0.out) (bw HB)) (Kd.F_below (Kd.C_F (Kd.heap_int .i64) HR0_1.out) (bw HB))); (case side2 => exact HC0_0.out); (case side3 => exact HC0_1.out); rintro e w19 ⟨p_, rfl, hq_, hb⟩; obtain ⟨gb495, v480, v483, v486, v489, v492, rfl, hge_, hbox_, ho0, ho1, ho2, ho3, ho4⟩ := hq_ rfl; refine ⟨_, rfl, ?_⟩; have HO481 := Aside0.mk (Kd.N_lower (Kd.N_mono (ok' := fun k_ => (some k_ ≠ (v483 : Value).ownBlock ∧ some k_ ≠ (v486 : Value).ownBlock ∧ some k_ ≠ (v489 : Value).ownBlock ∧ some k_ ≠ (v492 : Value).ownBlock ∧ k_ ≠ gb478) ∧ k_ ≠ gb495) ho0 (fun k_ hk_ => ⟨⟨hk_.2.1, hk_.2.2.1, hk_.2.2.2.1, hk_.2.2.2.2.1, Or.elim hk_.1 (fun hs_ => fun e_ => Nat.not_le.2 hs_ (by rw [e_]; exact GW478.out)) (fun hn_ => (Kd.freshB (g := gb478) (o := .cells #[.slice A0_0 l0_0.length c0_0, .slice A0_1 l0_1.length c0_1] 29 (0, 0)) (bk BK478) k_ hn_))⟩, hk_.2.2.2.2.2⟩)) (below_size (bw HB))); have HO484 := Aside0.mk (Kd.R_lower (Kd.R_mono (ok' := fun k_ => some k_ ≠ (v489 : Value).ownBlock ∧ some k_ ≠ (v492 : Value).ownBlock) ho1 (fun _ hk_ => hk_.2)) (below_size (bw HB))); have HO487 := Aside0.mk (Kd.R_lower (Kd.R_mono (ok' := fun k_ => True) ho2 (fun _ hk_ => trivial)) (below_size (bw HB))); have HO490 := Aside0.mk (Kd.R_lower (Kd.R_mono (ok' := fun k_ => some k_ ≠ (v483 : Value).ownBlock ∧ some k_ ≠ (v492 : Value).ownBlock) ho3 (fun _ hk_ => hk_.2)) (below_size (bw HB))); have HO493 := Aside0.mk (Kd.R_lower (Kd.R_mono (ok' := fun k_ => some k_ ≠ (v483 : Value).ownBlock ∧ some k_ ≠ (v489 : Value).ownBlock) ho4 (fun _ hk_ => hk_.2)) (below_size (bw HB))); have GW495 := ge' HB hge_; have GE495 := ge' HB hge_; have NB478_495 := nl' BK478 hge_; have NB495_478 := nr' BK478 hge_; replace BK478 := bb BK478 hb; replace HB := bs HB hb; (try clear hb); (try clear ho0); (try clear ho1); (try clear ho2); (try clear ho3); (try clear ho4); have BK495 := Aside0.mk hbox_; clear hbox_ hge_ hq_; obtain ⟨Ao14, co14, eo14⟩ := Kd.N_slice HO481.out; subst eo14; obtain ⟨Ao15, co15, eo15⟩ := Kd.R_slice HO484.out; subst eo15; obtain ⟨Ao16, co16, eo16⟩ := Kd.R_slice HO487.out; subst eo16; obtain ⟨Ao17, co17, eo17⟩ := Kd.R_slice HO490.out; subst eo17; obtain ⟨Ao18, co18, eo18⟩ := Kd.R_slice HO493.out; subst eo18))
 replace HO481 := Aside0.mk (Kd.N_drew HO481.out)
 replace HO484 := Aside0.mk (Kd.R_drew HO484.out)
 replace HO487 := Aside0.mk (Kd.R_drew HO487.out)
 replace HO490 := Aside0.mk (Kd.R_drew HO490.out)
 replace HO493 := Aside0.mk (Kd.R_drew HO493.out)
 replace BK478 := Aside0.mk (blk_drew BK478.out)
 replace BK495 := Aside0.mk (blk_drew BK495.out)
 replace HB := Aside0.mk (below_drew1 HB.out)
 have p496 : 0 ≤ ((ji5) : Int) := of_decide_eq_true (by first | (with_reducible assumption) | assumption)
 have q496 : (ji5) < (t488.length : Int) := of_decide_eq_true (by first | (with_reducible assumption) | assumption)
 obtain ⟨ad496, e496, hx496_0⟩ := Kd.at_int (Kd.R_reads' HO490.out).2.2 (ji5) p496 q496
 cases e496
 replace p496 := eq_true p496
 replace q496 := eq_true q496
 refine start_ (n := 15) (S := fun w' => w'.cell? ⟨gb495, 0, none⟩ = some (.slice Ao14 t479.length co14) ∧ w'.cell? ⟨gb495, 1, none⟩ = some (.slice Ao15 t482.length co15) ∧ w'.cell? ⟨gb495, 2, none⟩ = some (.slice Ao16 t485.length co16) ∧ w'.cell? ⟨gb495, 3, none⟩ = some (.slice (some ad496) t488.length co17) ∧ w'.cell? ⟨gb495, 4, none⟩ = some (.slice Ao18 t491.length co18) ∧ w'.cell? (ad496.add ((ji5)).toNat) = some (.int .i64 (rd t488 (ji5)))) (ds := []) (bl 15 0) (by kernel_rfl) rfl rfl ⟨bc0 BK495, bc1 BK495, bc2 BK495, bc3 BK495, bc4 BK495, hx496_0⟩ (fun hHeld => ?_); refine with_tabW spec_LayersOf.tab4 spec_LayersOf.bits4 (fun HT_ HW_ => ?_)
 generalize w19.drew = w20 at HO481 HO484 HO487 HO490 HO493 BK478 BK495 HB hx496_0 hHeld ⊢
 refine pu 0 19 (bl 15 1) HT_.out (v := ?_) (a' := ?_) ?_ ?_ ?_
 rotate_left
 ·intro w'
  go_simp
  with_reducible rfl
 rotate_left
 ·simp only [Act.put, List.setIfInBounds_toArray, List.set_cons_zero, List.set_cons_succ, i64_w, i32_w]
  rfl
 refine pu 1 20 (bl 15 3) HT_.out (v := ?_) (a' := ?_) ?_ ?_ ?_
 rotate_left
 ·intro w'
  go_simp
  with_reducible rfl
 rotate_left
 ·simp only [Act.put, List.setIfInBounds_toArray, List.set_cons_zero, List.set_cons_succ, i64_w, i32_w]
  rfl
 refine pu 2 21 (bl 15 7) HT_.out (v := ?_) (a' := ?_) ?_ ?_ ?_
 rotate_left
 ·intro w'
  go_simp
  with_reducible rfl
 rotate_left
 ·simp only [Act.put, List.setIfInBounds_toArray, List.set_cons_zero, List.set_cons_succ, i64_w, i32_w]
  rfl
 refine pu 4 23 (bl 15 23) HT_.out (v := ?_) (a' := ?_) ?_ ?_ ?_
 rotate_left
 ·intro w'
  go_simp
  with_reducible rfl
 rotate_left
 ·simp only [Act.put, List.setIfInBounds_toArray, List.set_cons_zero, List.set_cons_succ, i64_w, i32_w]
  rfl
 refine pu 5 24 (bl 15 55) HT_.out (v := ?_) (a' := ?_) ?_ ?_ ?_
 rotate_left
 ·intro w'
  go_simp
  with_reducible rfl
 rotate_left
 ·simp only [Act.put, List.setIfInBounds_toArray, List.set_cons_zero, List.set_cons_succ, i64_w, i32_w]
  rfl
 refine pu 6 25 (bl 15 119) HT_.out (v := ?_) (a' := ?_) ?_ ?_ ?_
 rotate_left
 ·intro w'
  go_simp
  with_reducible rfl
 rotate_left
 ·simp only [Act.put, List.setIfInBounds_toArray, List.set_cons_zero, List.set_cons_succ, i64_w, i32_w]
  rfl
 refine tk 3 22 (bl 15 127) HT_.out HW_.out hHeld (v := ?_) (a' := ?_) ?_ ?_ ?_
 rotate_left
 ·rintro w' ⟨s0, s1, s2, s3, s4, s5⟩
  go_simp
  with_reducible rfl
 rotate_left
 ·simp only [Act.put, List.setIfInBounds_toArray, List.set_cons_zero, List.set_cons_succ, i64_w, i32_w]
  rfl
 refine tk 7 26 (bl 15 255) HT_.out HW_.out hHeld (v := ?_) (a' := ?_) ?_ ?_ ?_
 rotate_left
 ·rintro w' ⟨s0, s1, s2, s3, s4, s5⟩
  go_simp
  with_reducible rfl
 rotate_left
 ·simp only [Act.put, List.setIfInBounds_toArray, List.set_cons_zero, List.set_cons_succ, i64_w, i32_w]
  rfl
 refine pu 8 27 (bl 15 511) HT_.out (v := ?_) (a' := ?_) ?_ ?_ ?_
 rotate_left
 ·intro w'
  go_simp
  with_reducible rfl
 rotate_left
 ·simp only [Act.put, List.setIfInBounds_toArray, List.set_cons_zero, List.set_cons_succ, i64_w, i32_w]
  rfl
 refine pu 9 28 (bl 15 1023) HT_.out (v := ?_) (a' := ?_) ?_ ?_ ?_
 rotate_left
 ·intro w'
  go_simp
  with_reducible rfl
 rotate_left
 ·simp only [Act.put, List.setIfInBounds_toArray, List.set_cons_zero, List.set_cons_succ, i64_w, i32_w]
  rfl
 refine pu 10 29 (bl 15 2047) HT_.out (v := ?_) (a' := ?_) ?_ ?_ ?_
 rotate_left
 ·intro w'
  go_simp
  with_reducible rfl
 rotate_left
 ·simp only [Act.put, List.setIfInBounds_toArray, List.set_cons_zero, List.set_cons_succ, i64_w, i32_w]
  rfl
 refine tk 11 30 (bl 15 4095) HT_.out HW_.out hHeld (v := ?_) (a' := ?_) ?_ ?_ ?_
 rotate_left
 ·rintro w' ⟨s0, s1, s2, s3, s4, s5⟩
  go_simp
  with_reducible rfl
 rotate_left
 ·simp only [Act.put, List.setIfInBounds_toArray, List.set_cons_zero, List.set_cons_succ, i64_w, i32_w]
  rfl
 refine pu 12 31 (bl 15 8191) HT_.out (v := ?_) (a' := ?_) ?_ ?_ ?_
 rotate_left
 ·intro w'
  go_simp
  with_reducible rfl
 rotate_left
 ·simp only [Act.put, List.setIfInBounds_toArray, List.set_cons_zero, List.set_cons_succ, i64_w, i32_w]
  rfl
 refine on 13 32 (bl 15 16383) HT_.out (fun K hK => ?_)
 refine Kd.R_make_step (Kd.int .i64) _ 3 (by rfl) (N := 32) rfl 22 _ _ rfl ji8 rfl rfl Try.underlying22 (.int .i64 0) 8 info3 rfl (by decide) (by omega) 0 (ok := fun _ => True) (okp := fun _ => True) rfl (fun _ hk => hk) trivial (of_decide_eq_true (by first | (with_reducible assumption) | assumption)) (Nat.le_trans (Nat.mul_le_mul_right _ (of_decide_eq_true (by first | (with_reducible assumption) | assumption) : ji8.toNat ≤ 35184372088832)) (by omega)) (Below.refl _ _) (Nat.le_refl _) ?_
 intro v498 w21 ho22 hb hg_ hnew_
 have HS5_ := (hb.cell (World.block_lt_of_cell? _ _ (hHeld.2.2.2.2.2))).trans (hHeld.2.2.2.2.2)
 clear hg_ hnew_
 (first | rw [← Ny497.out] at ho22 | (simp only [Int.reduceToNat] at ho22; rw [← Ny497.out] at ho22))
 replace HO481 := Aside0.mk (Kd.N_elder' (by (with_reducible repeat (first | apply Kd.N_alloc | apply Kd.N_drewN | apply Kd.N_drew)); exact HO481.out) (Kd.R_base ho22) hb)
 replace HO487 := rb HO487 hb
 have HO499 := Aside0.mk (Kd.R_lower (Kd.R_new' (Kd.R_new' (Kd.R_new' ho22 (Kd.R_lt (rk HO484))) (Kd.R_lt (rk HO490))) (Kd.R_lt (rk HO493))) (below_size (bw HB)))
 replace HO484 := Aside0.mk (Kd.R_elder' (rk HO484) (Kd.R_base ho22) hb)
 replace HO490 := Aside0.mk (Kd.R_elder' (rk HO490) (Kd.R_base ho22) hb)
 replace HO493 := Aside0.mk (Kd.R_elder' (rk HO493) (Kd.R_base ho22) hb)
 replace BK478 := bb BK478 hb
 replace BK495 := bb BK495 hb
 replace HB := bs HB hb
 clear hb ho22
 refine hK.out _ _ ⟨bc0 BK495, bc1 BK495, bc2 BK495, bc3 BK495, bc4 BK495, HS5_⟩ (fun hHeld => ?_)
 clear hK K
 refine norm_ (a' := ?_) ?_ ?_
 rotate_left
 ·show Act.put _ (some 32) _ = _
  simp only [Act.put, List.setIfInBounds_toArray, List.set_cons_zero, List.set_cons_succ, i64_w, i32_w]
  rfl
 refine pu 14 8 (bl 15 32767) HT_.out (v := ?_) (a' := ?_) ?_ ?_ ?_
 rotate_left
 ·intro w'
  go_simp
  with_reducible rfl
 rotate_left
 ·simp only [Act.put, List.setIfInBounds_toArray, List.set_cons_zero, List.set_cons_succ, i64_w, i32_w]
  rfl
 refine done_ (done_of HT_.out (by kernel_rfl)) ?_
 have hnb23 := NB495_478.out
 have hnc23 := NB478_495.out
 have hcz24_0 := bc0 BK495
 have hcz24_1 := bc1 BK495
 have hcz24_2 := bc2 BK495
 have hcz24_3 := bc3 BK495
 have hcz24_4 := bc4 BK495
 have hfz24_0 := blk_frozen BK495.out 0
 have hfz24_1 := blk_frozen BK495.out 1
 have hfz24_2 := blk_frozen BK495.out 2
 have hfz24_3 := blk_frozen BK495.out 3
 have hfz24_4 := blk_frozen BK495.out 4
 try go_wp2
 try simp only [Act.put, List.setIfInBounds_toArray, List.set_cons_zero, List.set_cons_succ]
 go_loopg [38] k (fun kq v38 w' => ∃ (x8_1 : List Int) (x38_1 : Int), v38 = .int .i64 x38_1 ∧ Aside0 (spec_LayersOf.l0 kq x8_1 t488 (t488.length : Int) x38_1 = some (r1, r2)) ∧ Aside0 (kq ≤ k) ∧ Aside0 (Kd.R (Kd.int .i64) 3 w' w.heap.size (fun k_ => some k_ ≠ ((.slice (some ad496) t488.length co17) : Value).ownBlock ∧ some k_ ≠ ((.slice Ao15 t482.length co15) : Value).ownBlock ∧ some k_ ≠ ((.slice (some ad496) t488.length co17) : Value).ownBlock ∧ some k_ ≠ ((.slice Ao18 t491.length co18) : Value).ownBlock) v498 x8_1) ∧ Aside0 (Kd.R (Kd.int .i64) 3 w' w.heap.size (fun k_ => some k_ ≠ (v498 : Value).ownBlock ∧ some k_ ≠ ((.slice Ao15 t482.length co15) : Value).ownBlock ∧ some k_ ≠ ((.slice Ao18 t491.length co18) : Value).ownBlock) (.slice (some ad496) t488.length co17) t488) ∧ Aside0 (Kd.N k29 29 w' w.heap.size (fun k_ => some k_ ≠ (v498 : Value).ownBlock ∧ some k_ ≠ ((.slice (some ad496) t488.length co17) : Value).ownBlock ∧ some k_ ≠ ((.slice Ao15 t482.length co15) : Value).ownBlock ∧ some k_ ≠ ((.slice Ao16 t485.length co16) : Value).ownBlock ∧ some k_ ≠ ((.slice (some ad496) t488.length co17) : Value).ownBlock ∧ some k_ ≠ ((.slice Ao18 t491.length co18) : Value).ownBlock ∧ k_ ≠ gb478 ∧ k_ ≠ gb495) (.slice Ao14 t479.length co14) t479) ∧ Aside0 (Kd.R (Kd.int .i64) 3 w' w.heap.size (fun k_ => some k_ ≠ (v498 : Value).ownBlock ∧ some k_ ≠ ((.slice (some ad496) t488.length co17) : Value).ownBlock ∧ some k_ ≠ ((.slice (some ad496) t488.length co17) : Value).ownBlock ∧ some k_ ≠ ((.slice Ao18 t491.length co18) : Value).ownBlock) (.slice Ao15 t482.length co15) t482) ∧ Aside0 (Kd.R k49 49 w' w.heap.size (fun _ => True) (.slice Ao16 t485.length co16) t485) ∧ Aside0 (Kd.R (Kd.int .i64) 3 w' w.heap.size (fun k_ => some k_ ≠ (v498 : Value).ownBlock ∧ some k_ ≠ ((.slice Ao15 t482.length co15) : Value).ownBlock ∧ some k_ ≠ ((.slice Ao18 t491.length co18) : Value).ownBlock) (.slice (some ad496) t488.length co17) t488) ∧ Aside0 (Kd.R (Kd.int .i64) 3 w' w.heap.size (fun k_ => some k_ ≠ (v498 : Value).ownBlock ∧ some k_ ≠ ((.slice (some ad496) t488.length co17) : Value).ownBlock ∧ some k_ ≠ ((.slice Ao15 t482.length co15) : Value).ownBlock ∧ some k_ ≠ ((.slice (some ad496) t488.length co17) : Value).ownBlock) (.slice Ao18 t491.length co18) t491) ∧ Aside0 (w'.heap[gb478]? = some (.cells #[(.slice A0_0 l0_0.length c0_0), (.slice A0_1 l0_1.length c0_1)] 29 (0, 0))) ∧ Aside0 (w'.heap[gb495]? = some (.cells #[(.slice Ao14 t479.length co14), (.slice Ao15 t482.length co15), (.slice Ao16 t485.length co16), (.slice (some ad496) t488.length co17), (.slice Ao18 t491.length co18)] 80 (0, 0))) ∧ Aside0 (Below w.heap.size w w'))
 case atStart => exact ⟨(y497), (0), (by first | rfl | (simp; done) | (simp [*]; done)), H', ⟨Nat.le_refl _⟩, ⟨by (with_reducible repeat (first | apply Kd.R_alloc | apply Kd.R_drewN | apply Kd.R_drew)); exact Kd.R_mono HO499.out (fun _ hk => ⟨hk.1.2, ⟨hk.1.1.2, ⟨hk.1.2, hk.2⟩⟩⟩)⟩, ⟨by (with_reducible repeat (first | apply Kd.R_alloc | apply Kd.R_drewN | apply Kd.R_drew)); exact Kd.R_mono HO490.out (fun _ hk => ⟨hk.2, ⟨hk.1.1, hk.1.2⟩⟩)⟩, ⟨by (with_reducible repeat (first | apply Kd.N_alloc | apply Kd.N_drewN | apply Kd.N_drew)); exact Kd.N_mono HO481.out (fun _ hk => ⟨hk.2, ⟨hk.1.1.2.2.1, ⟨hk.1.1.1, ⟨hk.1.1.2.1, ⟨hk.1.1.2.2.1, ⟨hk.1.1.2.2.2.1, ⟨hk.1.1.2.2.2.2, hk.1.2⟩⟩⟩⟩⟩⟩⟩)⟩, ⟨by (with_reducible repeat (first | apply Kd.R_alloc | apply Kd.R_drewN | apply Kd.R_drew)); exact Kd.R_mono HO484.out (fun _ hk => ⟨hk.2, ⟨hk.1.1, ⟨hk.1.1, hk.1.2⟩⟩⟩)⟩, ⟨rk HO487⟩, ⟨by (with_reducible repeat (first | apply Kd.R_alloc | apply Kd.R_drewN | apply Kd.R_drew)); exact Kd.R_mono HO490.out (fun _ hk => ⟨hk.2, ⟨hk.1.1, hk.1.2⟩⟩)⟩, ⟨by (with_reducible repeat (first | apply Kd.R_alloc | apply Kd.R_drewN | apply Kd.R_drew)); exact Kd.R_mono HO493.out (fun _ hk => ⟨hk.2, ⟨hk.1.2, ⟨hk.1.1, hk.1.2⟩⟩⟩)⟩, ⟨bk BK478⟩, ⟨bk BK495⟩, ⟨bw HB⟩⟩
 case round =>
  clear H'
  try clear c1
  try clear c2
  try clear p2
  try clear c3
  try clear c4
  try clear p4
  try clear q4
  try clear hx4
  try clear c6
  try clear c6b0
  try clear p6
  try clear c7
  try clear c7b0
  try clear c9
  try clear c9b0
  try clear c9b1
  try clear c10
  try clear c10b0
  try clear c10b1
  try clear c23
  try clear hcz12_0
  try clear hcz12_1
  try clear hcz24_0
  try clear hcz24_1
  try clear hcz24_2
  try clear hcz24_3
  try clear hcz24_4
  try clear hfz12_0
  try clear hfz12_1
  try clear hfz24_0
  try clear hfz24_1
  try clear hfz24_2
  try clear hfz24_3
  try clear hfz24_4
  try clear hx496_0
  try clear p496
  try clear q496
  obtain ⟨x8_1, x38_1, rfl, HA, HK1, HO_8, HO_36, HO_496000, HO_496001, HO_496002, HO_496003, HO_496004, BK478, BK495, HB⟩ := hrel
  cases gk with
  | zero => exact absurd HA.out (by simp [spec_LayersOf.l0])
  | succ k1 =>
   have H := HA.out
   clear HA
   simp only [spec_LayersOf.l0] at H
   by_cases c25 : x38_1 < (t488.length : Int)
   rotate_left
   ·rw [if_neg c25] at H
    have c25b0 : decide (x38_1 < (t488.length : Int)) = false := decide_eq_false c25
    clear c25
    simp only [Option.some.injEq, Prod.mk.injEq] at H
    obtain ⟨rfl, rfl⟩ := H
    go_wp2
    go_ret2
    exact ⟨_, by first | rfl | (simp [errW_none, errW_some] <;> rfl) | (simp only [← hji5, ← hji8]; first | rfl | (simp [errW_none, errW_some] <;> rfl)) | (simp [*, errW_none, errW_some] <;> rfl), by (with_reducible repeat (first | apply Kd.R_alloc | apply Kd.R_drewN | apply Kd.R_drew)); exact Kd.R_mono HO_8.out (fun _ hk => trivial), bw HB⟩
   rw [if_pos c25] at H
   have c25b0 : decide (x38_1 < (t488.length : Int)) = true := decide_eq_true c25
   clear c25
   by_cases c26 : 0 ≤ x38_1
   rotate_left
   ·rw [if_neg c26] at H
    exact absurd H (by simp)
   rw [if_pos c26] at H
   have c26b0 : decide (0 ≤ x38_1) = true := decide_eq_true c26
   clear c26
   by_cases c27 : x38_1 < (t488.length : Int)
   rotate_left
   ·rw [if_neg c27] at H
    exact absurd H (by simp)
   rw [if_pos c27] at H
   have c27b0 : decide (x38_1 < (t488.length : Int)) = true := decide_eq_true c27
   clear c27
   by_cases c28 : 0 ≤ (rd t488 x38_1)
   rotate_left
   ·rw [if_neg c28] at H
    exact absurd H (by simp)
   rw [if_pos c28] at H
   have c28b0 : decide (0 ≤ (rd t488 x38_1)) = true := decide_eq_true c28
   clear c28
   by_cases c29 : (rd t488 x38_1) < (x8_1.length : Int)
   rotate_left
   ·rw [if_neg c29] at H
    exact absurd H (by simp)
   rw [if_pos c29] at H
   have c29b0 : decide ((rd t488 x38_1) < (x8_1.length : Int)) = true := decide_eq_true c29
   clear c29
   obtain ⟨y502, hy502⟩ : ∃ y_ : List Int, y_ = (x8_1.set ((rd t488 x38_1) : Int).toNat (wrap64 ((rd x8_1 (rd t488 x38_1)) + 1))) := ⟨_, rfl⟩
   replace H : (spec_LayersOf.l0 k1 y502 t488 (t488.length : Int) (wrap64 (x38_1 + 1))) = some (r1, r2) := by first | (rw [hy502]; with_reducible exact H) | (have H2_ := (Option.bind_some _ _).symm.trans H; rw [hy502]; with_reducible exact H2_) | (have H2_ := (Option.bind_some _ _).symm.trans H; with_reducible exact H2_) | with_reducible exact H | (rw [hy502]; exact H) | exact H
   have Ny502 := Aside0.mk hy502
   clear hy502
   have H' := Aside0.mk H
   clear H
   have p500 : 0 ≤ (x38_1 : Int) := of_decide_eq_true (by first | (with_reducible assumption) | assumption)
   have q500 : x38_1 < (t488.length : Int) := of_decide_eq_true (by first | (with_reducible assumption) | assumption)
   obtain ⟨ad500, e500, hx500_0⟩ := Kd.at_int (Kd.R_reads' HO_36.out).2.2 x38_1 p500 q500
   obtain rfl : ad496 = ad500 := (by injection e500)
   replace p500 := eq_true p500
   replace q500 := eq_true q500
   obtain ⟨Ao31, co31, eo31⟩ := Kd.R_slice HO_8.out
   subst eo31
   have p501 : 0 ≤ ((rd t488 x38_1) : Int) := of_decide_eq_true (by first | (with_reducible assumption) | assumption)
   have q501 : (rd t488 x38_1) < (x8_1.length : Int) := of_decide_eq_true (by first | (with_reducible assumption) | assumption)
   obtain ⟨ad501, e501, hx501_0⟩ := Kd.at_int (Kd.R_reads' HO_8.out).2.2 (rd t488 x38_1) p501 q501
   cases e501
   replace p501 := eq_true p501
   replace q501 := eq_true q501
   have p30 : 0 ≤ ((rd t488 x38_1) : Int) := of_decide_eq_true (by first | (with_reducible assumption) | assumption)
   have q30 : ((rd t488 x38_1) : Int) < ((x8_1.length : Int) : Int) := of_decide_eq_true (by first | (with_reducible assumption) | assumption)
   obtain ⟨go30, co30, eo30, gb30, gl30, cl30, HG30⟩ := Kd.R_form HO_8.out (by omega)
   (first | cases eo30 | (injection eo30 with ea_ en_ ec_; (first | subst ea_ | (injection ea_ with ea_; subst ea_)); subst ec_; clear en_))
   have GB30 := Aside0.mk gb30
   have GG30 := Aside0.mk HG30
   clear gb30 gl30 HG30
   (first | simp only [add_plain] at hx501_0 | skip)
   obtain ⟨hx30_0, hf30_0⟩ := Kd.R_celln 0 HO_8.out ((rd t488 x38_1) : Int) p30 q30
   replace p30 := eq_true p30
   replace q30 := eq_true q30
   have HP32 := Kd.R_putg HO_8.out ((rd t488 x38_1) : Int) (wrap64 ((rd x8_1 (rd t488 x38_1)) + 1))
   go_wp2_with (first | ((with_reducible refine gate_store (t := 3) (p := 47) rfl ?_); refine store_event (t := 3) (p := 47) (v := ?vo_w33) (w1 := (wr.setCell ⟨go30, ((rd t488 x38_1) : Int).toNat, none⟩ (.int .i64 (wrap64 ((rd x8_1 (rd t488 x38_1)) + 1))))) ?hg ?ho ?hn ?hr ?_; (case ho => rfl); (case hg => rfl); (case hn => rfl); (case hr => first | (go_simp; done) | (go_simp; rfl)); intro w33 hw; have hg : wr.grownBy w33 (some go30) := (by rw [hw]; exact HP32.2); have hp_ : Kd.R (Kd.int .i64) 3 w33 w.heap.size (fun k_ => some k_ ≠ (.slice (some ad496) t488.length co17 : Value).ownBlock ∧ some k_ ≠ (.slice Ao15 t482.length co15 : Value).ownBlock ∧ some k_ ≠ (.slice (some ad496) t488.length co17 : Value).ownBlock ∧ some k_ ≠ (.slice Ao18 t491.length co18 : Value).ownBlock) (.slice (some ⟨go30, 0, none⟩) x8_1.length co31) y502 := (by rw [hw, Ny502.out]; exact HP32.1); clear HP32; replace HO_36 := Aside0.mk (Kd.R_after (v := (.slice (some ⟨go30, 0, none⟩) x8_1.length co31)) (v1 := (.slice (some ⟨go30, 0, none⟩) x8_1.length co31)) (ok := (fun k_ => some k_ ≠ (.slice Ao15 t482.length co15 : Value).ownBlock ∧ some k_ ≠ (.slice Ao18 t491.length co18 : Value).ownBlock)) (by (with_reducible repeat (first | apply Kd.R_alloc | apply Kd.R_drewN | apply Kd.R_drew)); exact Kd.R_mono HO_36.out (fun _ hk => ⟨⟨hk.2.1, hk.2.2⟩, hk.1⟩)) hg (.inl rfl)); replace HO_496000 := Aside0.mk (Kd.N_afterv (v := (.slice (some ⟨go30, 0, none⟩) x8_1.length co31)) (v1 := (.slice (some ⟨go30, 0, none⟩) x8_1.length co31)) (ok := (fun k_ => some k_ ≠ (.slice (some ad496) t488.length co17 : Value).ownBlock ∧ some k_ ≠ (.slice Ao15 t482.length co15 : Value).ownBlock ∧ some k_ ≠ (.slice Ao16 t485.length co16 : Value).ownBlock ∧ some k_ ≠ (.slice (some ad496) t488.length co17 : Value).ownBlock ∧ some k_ ≠ (.slice Ao18 t491.length co18 : Value).ownBlock ∧ k_ ≠ gb478 ∧ k_ ≠ gb495)) (by (with_reducible repeat (first | apply Kd.N_alloc | apply Kd.N_drewN | apply Kd.N_drew)); exact Kd.N_mono HO_496000.out (fun _ hk => ⟨⟨hk.2.1, ⟨hk.2.2.1, ⟨hk.2.2.2.1, ⟨hk.2.2.2.2.1, ⟨hk.2.2.2.2.2.1, ⟨hk.2.2.2.2.2.2.1, hk.2.2.2.2.2.2.2⟩⟩⟩⟩⟩⟩, hk.1⟩)) hg (.inl rfl)); replace HO_496001 := Aside0.mk (Kd.R_after (v := (.slice (some ⟨go30, 0, none⟩) x8_1.length co31)) (v1 := (.slice (some ⟨go30, 0, none⟩) x8_1.length co31)) (ok := (fun k_ => some k_ ≠ (.slice (some ad496) t488.length co17 : Value).ownBlock ∧ some k_ ≠ (.slice (some ad496) t488.length co17 : Value).ownBlock ∧ some k_ ≠ (.slice Ao18 t491.length co18 : Value).ownBlock)) (by (with_reducible repeat (first | apply Kd.R_alloc | apply Kd.R_drewN | apply Kd.R_drew)); exact Kd.R_mono HO_496001.out (fun _ hk => ⟨⟨hk.2.1, ⟨hk.2.2.1, hk.2.2.2⟩⟩, hk.1⟩)) hg (.inl rfl)); replace HO_496002 := Aside0.mk (Kd.R_over' (v := (.slice (some ⟨go30, 0, none⟩) x8_1.length co31)) (rk HO_496002) (Kd.R_typed HO_8.out) (by decide) hg); replace HO_496003 := Aside0.mk (Kd.R_after (v := (.slice (some ⟨go30, 0, none⟩) x8_1.length co31)) (v1 := (.slice (some ⟨go30, 0, none⟩) x8_1.length co31)) (ok := (fun k_ => some k_ ≠ (.slice Ao15 t482.length co15 : Value).ownBlock ∧ some k_ ≠ (.slice Ao18 t491.length co18 : Value).ownBlock)) (by (with_reducible repeat (first | apply Kd.R_alloc | apply Kd.R_drewN | apply Kd.R_drew)); exact Kd.R_mono HO_496003.out (fun _ hk => ⟨⟨hk.2.1, hk.2.2⟩, hk.1⟩)) hg (.inl rfl)); replace HO_496004 := Aside0.mk (Kd.R_after (v := (.slice (some ⟨go30, 0, none⟩) x8_1.length co31)) (v1 := (.slice (some ⟨go30, 0, none⟩) x8_1.length co31)) (ok := (fun k_ => some k_ ≠ (.slice (some ad496) t488.length co17 : Value).ownBlock ∧ some k_ ≠ (.slice Ao15 t482.length co15 : Value).ownBlock ∧ some k_ ≠ (.slice (some ad496) t488.length co17 : Value).ownBlock)) (by (with_reducible repeat (first | apply Kd.R_alloc | apply Kd.R_drewN | apply Kd.R_drew)); exact Kd.R_mono HO_496004.out (fun _ hk => ⟨⟨hk.2.1, ⟨hk.2.2.1, hk.2.2.2⟩⟩, hk.1⟩)) hg (.inl rfl)); replace BK478 := Aside0.mk (blk_grown (g := gb478) (o := .cells #[.slice A0_0 l0_0.length c0_0, .slice A0_1 l0_1.length c0_1] 29 (0, 0)) (bk BK478) hg (Kd.R_ne HO_8.out BK478.out (by decide))); replace BK495 := Aside0.mk (blk_grown (g := gb495) (o := .cells #[.slice Ao14 t479.length co14, .slice Ao15 t482.length co15, .slice Ao16 t485.length co16, .slice (some ad496) t488.length co17, .slice Ao18 t491.length co18] 80 (0, 0)) (bk BK495) hg (Kd.R_ne HO_8.out BK495.out (by decide))); replace HO_8 := Aside0.mk (hp_); replace HB := Aside0.mk ((by rw [hw]; exact below_set (HB.out) GB30.out : Below w.heap.size w w33)); clear hg hw hp_))
   go_roundg k1
   case measure => have := HK1.out; omega
   case rel => exact ⟨(y502), (wrap64 (x38_1 + 1)), (by first | rfl | (simp; done) | (simp [*]; done)), H', ⟨by have := HK1.out; omega⟩, ⟨rk HO_8⟩, ⟨by (with_reducible repeat (first | apply Kd.R_alloc | apply Kd.R_drewN | apply Kd.R_drew)); exact Kd.R_mono HO_36.out (fun _ hk => ⟨hk.2, ⟨hk.1.1, hk.1.2⟩⟩)⟩, ⟨by (with_reducible repeat (first | apply Kd.N_alloc | apply Kd.N_drewN | apply Kd.N_drew)); exact Kd.N_mono HO_496000.out (fun _ hk => ⟨hk.2, ⟨hk.1.1, ⟨hk.1.2.1, ⟨hk.1.2.2.1, ⟨hk.1.2.2.2.1, ⟨hk.1.2.2.2.2.1, ⟨hk.1.2.2.2.2.2.1, hk.1.2.2.2.2.2.2⟩⟩⟩⟩⟩⟩⟩)⟩, ⟨by (with_reducible repeat (first | apply Kd.R_alloc | apply Kd.R_drewN | apply Kd.R_drew)); exact Kd.R_mono HO_496001.out (fun _ hk => ⟨hk.2, ⟨hk.1.1, ⟨hk.1.2.1, hk.1.2.2⟩⟩⟩)⟩, ⟨rk HO_496002⟩, ⟨by (with_reducible repeat (first | apply Kd.R_alloc | apply Kd.R_drewN | apply Kd.R_drew)); exact Kd.R_mono HO_496003.out (fun _ hk => ⟨hk.2, ⟨hk.1.1, hk.1.2⟩⟩)⟩, ⟨by (with_reducible repeat (first | apply Kd.R_alloc | apply Kd.R_drewN | apply Kd.R_drew)); exact Kd.R_mono HO_496004.out (fun _ hk => ⟨hk.2, ⟨hk.1.1, ⟨hk.1.2.1, hk.1.2.2⟩⟩⟩)⟩, ⟨bk BK478⟩, ⟨bk BK495⟩, ⟨bw HB⟩⟩
end Go.Proofs.Ytigpkicbigpilaa.V
