/- Functions of the specification over all that is reached: as plain functions, and that the calls come to them. -/
import Derived.Test.YtigpkicbigpilaaTdVplQ
import Derived.Test.YtigpkicbigpilaaTdVx4
namespace Go.Proofs.Ytigpkicbigpilaa.V
open Go.RowKit Go.Proofs.YtigpkicbigpilaaW.PrintWords Go.Proofs.YtigpkicbigpilaaW.PrintLast Go.Proofs.YtigpkicbigpilaaW.PrintMore Go.Proofs.Ytigpkicbigpilaa.Sq Go.Proofs.Ytigpkicbigpilaa.Sep
attribute [local go_sem] max2_int min2_int max_two min_two max_three min_three max_four min_four
set_option linter.unusedVariables false
set_option linter.unusedSimpArgs false
def spec_FarthestState.l0 : Nat → Int → List Int → Int → Int → List Int → List Int → List (S29) → List Int → List (S49) → List Int → List Int → Option (List Int × List Int × Int × Bool)
 | 0, _, _, _, _, _, _, _, _, _, _, _ => none
 | k + 1, x9, x30, x31, x32, x608000, x608001, x626000, x626001, x626002, x626003, x626004 => if x32 < x31 then (if 0 ≤ x32 then (if x32 < (x30.length : Int) then (if 0 ≤ (rd x30 x32) then (if (rd x30 x32) < (x626003.length : Int) then (if 0 ≤ x9 then (if x9 < (x626003.length : Int) then (if (rd x626003 (rd x30 x32)) > (rd x626003 x9) then (spec_FarthestState.l0 k (rd x30 x32) x30 x31 (wrap64 (x32 + 1)) x608000 x608001 x626000 x626001 x626002 x626003 x626004) else (spec_FarthestState.l0 k x9 x30 x31 (wrap64 (x32 + 1)) x608000 x608001 x626000 x626001 x626002 x626003 x626004)) else (none)) else (none)) else (none)) else (none)) else (none)) else (none)) else ((spec_l1Own.f x608000).bind fun t630 => (if 0 ≤ x9 then (if x9 < (x626000.length : Int) then ((spec_l1Own.f ((rd_T29 x626000 x9).f1)).bind fun t634 => (if x9 < (x626003.length : Int) then (some (t630, t634, rd x626003 x9, true)) else (none))) else (none)) else (none)))
def spec_FarthestState.f (k : Nat) (l0_0 : List Int) (l0_1 : List Int) (a1 : Bool) : Option (List Int × List Int × Int × Bool) := (spec_plAsked.f k l0_0 l0_1 a1).bind fun bt609 => (if bt609.2.2.2.2.2 = true then (if 0 < (bt609.2.2.2.2.1.length : Int) then (spec_FarthestState.l0 k (rd bt609.2.2.2.2.1 0) bt609.2.2.2.2.1 (bt609.2.2.2.2.1.length : Int) 0 l0_0 l0_1 bt609.1 bt609.2.1 bt609.2.2.1 bt609.2.2.2.1 bt609.2.2.2.2.1) else (none)) else (some (([] : List Int), ([] : List Int), 0, false)))
def spec_FarthestState.T8 : Bool × List (List Nat × List Nat) := (true, [([], []), ([0], [0]), ([1], [1]), ([2], [2]), ([], []), ([3, 4], [3, 4]), ([5], [5]), ([], []), ([7], [7]), ([8], [8]), ([9], [9]), ([], []), ([10, 11], [10, 11]), ([12], [12]), ([6, 13], [6, 13])])
def spec_FarthestState.B8 : List Nat := [0, 1, 3, 7, 0, 31, 63, 0, 128, 384, 896, 0, 3968, 8064, 16383]
theorem spec_FarthestState.tab8 : rtab .any (opsOf Try.f42 8) = spec_FarthestState.T8 := by kernel_rfl
theorem spec_FarthestState.bits8 : waitsOk spec_FarthestState.T8.2 spec_FarthestState.B8 = true := by kernel_rfl
def spec_FarthestState.T11 : Bool × List (List Nat × List Nat) := (true, [([], []), ([0], [0]), ([1], [1]), ([], []), ([3], [3]), ([4], [4]), ([5], [5]), ([], []), ([6, 7], [6, 7]), ([8], [8]), ([9], [9]), ([10, 2], [10]), ([2, 11], [2, 11]), ([], []), ([13], [13]), ([14], [14]), ([15], [15]), ([], []), ([16, 17], [16, 17]), ([18], [18]), ([12, 11, 0, 1, 2, 3, 4, 5, 6, 7, 8, 9, 10, 11, 12], [12]), ([19, 20, 0, 1, 2, 3, 4, 5, 6, 7, 8, 9, 10, 11, 12, 13, 14, 15, 16, 17, 18, 19, 20], [19]), ([21, 0, 1, 2, 3, 4, 5, 6, 7, 8, 9, 10, 11, 12, 13, 14, 15, 16, 17, 18, 19, 20, 21], [])])
def spec_FarthestState.B11 : List Nat := [0, 1, 3, 0, 8, 24, 56, 0, 248, 504, 1016, 2047, 4095, 0, 8192, 24576, 57344, 0, 253952, 516096, 8191, 2097151, 4194303]
theorem spec_FarthestState.tab11 : rtab .any (opsOf Try.f42 11) = spec_FarthestState.T11 := by kernel_rfl
theorem spec_FarthestState.bits11 : waitsOk spec_FarthestState.T11.2 spec_FarthestState.B11 = true := by kernel_rfl
set_option maxHeartbeats 8000000 in
set_option maxRecDepth 100000 in
theorem spec_FarthestState.calls (k : Nat) (A0_0 : Option Addr) (c0_0 : Nat) (l0_0 : List Int) (A0_1 : Option Addr) (c0_1 : Nat) (l0_1 : List Int) (a1 : Bool) (r1 : List Int) (r2 : List Int) (r3 : Int) (r4 : Bool) (w : World) (hr0_0 : Kd.C (Kd.int .i64) w A0_0 l0_0.length l0_0) (hc0_0 : l0_0.length ≤ c0_0) (hr0_1 : Kd.C (Kd.int .i64) w A0_1 l0_1.length l0_1) (hc0_1 : l0_1.length ≤ c0_1) (h : spec_FarthestState.f k l0_0 l0_1 a1 = some (r1, r2, r3, r4)) :
  Calls Try.prog 42 #[.agg #[.slice A0_0 l0_0.length c0_0, .slice A0_1 l0_1.length c0_1], .bool a1] w fun e w' => ∃ v0_ v1_ : Value, e = .returned (.tuple #[.agg #[v0_, v1_], .int .i64 r3, .bool r4]) ∧ Kd.R (Kd.int .i64) 3 w' w.heap.size (fun k_ => some k_ ≠ (v1_ : Value).ownBlock) v0_ r1 ∧ Kd.R (Kd.int .i64) 3 w' w.heap.size (fun k_ => some k_ ≠ (v0_ : Value).ownBlock) v1_ r2 ∧ Below w.heap.size w w' := by
 have hu29 := Try.underlying29
 have hu80 := Try.underlying80
 have HR0_0 := Aside0.mk hr0_0
 have HC0_0 := Aside0.mk hc0_0
 clear hr0_0 hc0_0
 have HR0_1 := Aside0.mk hr0_1
 have HC0_1 := Aside0.mk hc0_1
 clear hr0_1 hc0_1
 have HB := Aside0.mk (Below.refl w.heap.size w)
 have H : ((spec_plAsked.f k l0_0 l0_1 a1).bind fun bt609 => (if bt609.2.2.2.2.2 = true then (if 0 < (bt609.2.2.2.2.1.length : Int) then (spec_FarthestState.l0 k (rd bt609.2.2.2.2.1 0) bt609.2.2.2.2.1 (bt609.2.2.2.2.1.length : Int) 0 l0_0 l0_1 bt609.1 bt609.2.1 bt609.2.2.1 bt609.2.2.2.1 bt609.2.2.2.2.1) else (none)) else (some (([] : List Int), ([] : List Int), 0, false)))) = some (r1, r2, r3, r4) := h
 clear h
 replace H := Option.bind_eq_some_iff.mp H
 obtain ⟨⟨t609, t612, t615, t618, t621, t624⟩, A30, H⟩ := H
 replace H : (if t624 = true then (if 0 < (t621.length : Int) then (spec_FarthestState.l0 k (rd t621 0) t621 (t621.length : Int) 0 l0_0 l0_1 t609 t612 t615 t618 t621) else (none)) else (some (([] : List Int), ([] : List Int), 0, false))) = some (r1, r2, r3, r4) := H
 have A3 := Aside0.mk A30
 clear A30
 by_cases c4 : t624 = true
 rotate_left
 ·replace c4 := Bool.eq_false_iff.mpr c4
  subst c4
  have H1 : (some (([] : List Int), ([] : List Int), 0, false)) = some (r1, r2, r3, r4) := by rw [if_neg (show ¬ (false = true) by decide)] at H; exact H
  clear H
  have H := H1
  clear H1
  simp only [Option.some.injEq, Prod.mk.injEq] at H
  obtain ⟨rfl, rfl, rfl, rfl⟩ := H
  go_enter Try.func42, Try.ntmps42
  go_wp2_with (first | ((with_reducible refine gate_dst (N := 2) rfl ?_); refine bx 2 #[.slice A0_0 l0_0.length c0_0, .slice A0_1 l0_1.length c0_1] 29 ?_; intro gb607 hg w42 hbox hb; have BK607 := Aside0.mk (hbox); have GW607 := ge HB hg; have GE607 := ge HB hg; replace HB := bs HB hb; clear hb hbox hg) | ((with_reducible refine gate_dst (N := 4) rfl ?_); refine bx 4 #[.slice none 0 0, .slice none 0 0] 29 ?_; intro gb608 hg w43 hbox hb; have BK608 := Aside0.mk (hbox); have GW608 := ge HB hg; have GE608 := ge HB hg; replace HB := bs HB hb; have NB607_608 := nl BK607 hg; have NB608_607 := nr BK607 hg; replace BK607 := bb BK607 hb; clear hb hbox hg; have hnb44 := NB607_608.out; have hnc44 := NB608_607.out; have hcz45_0 := bc0 BK607; have hcz45_1 := bc1 BK607; have hfz45_0 := blk_frozen BK607.out 0; have hfz45_1 := blk_frozen BK607.out 1) | ((with_reducible refine gate_callee (f := 63) rfl ?_); refine gl 15 Try.func63 #[.agg #[.slice A0_0 l0_0.length c0_0, .slice A0_1 l0_1.length c0_1], .bool a1] ?_; (with_reducible refine (spec_plAsked.calls k (fun k_ => k_ < w.heap.size) _ _ l0_0 _ _ l0_1 a1 t609 t612 t615 t618 t621 false _ ?side1 ?side2 ?side3 A3.out).mono ?_); (case side1 => exact foot_and (Kd.F_below (Kd.C_F (Kd.heap_int .i64) HR0_0.out) (bw HB)) (Kd.F_below (Kd.C_F (Kd.heap_int .i64) HR0_1.out) (bw HB))); (case side2 => exact HC0_0.out); (case side3 => exact HC0_1.out); rintro e w52 ⟨p_, rfl, hq_, hb⟩; refine ⟨_, rfl, ?_⟩; replace BK607 := bb BK607 hb; replace BK608 := bb BK608 hb; replace HB := bs HB hb; (try clear hb); clear hq_; have hcz54_0 := bc0 BK608; have hcz54_1 := bc1 BK608; have hfz54_0 := blk_frozen BK608.out 0; have hfz54_1 := blk_frozen BK608.out 1))
  refine bodyPost_ret (Go.Proofs.YtigpkicbigpilaaW.PrintWords.results_ctt rfl _ _ gb608 29 #[.slice none 0 0, .slice none 0 0] (0, 0) _ rfl (by (with_reducible repeat (first | refine blk_drewN ?_ _ | refine blk_drew ?_ | refine blk_alloc ?_ _)); refine blk_put (cs := #[.slice none 0 0, .slice none 0 0]) ?_ 1 _ rfl; (with_reducible repeat (first | refine blk_drewN ?_ _ | refine blk_drew ?_ | refine blk_alloc ?_ _)); refine blk_put (cs := #[.slice none 0 0, .slice none 0 0]) ?_ 0 _ rfl; exact bk BK608) Try.underlying29 rfl (by kernel_rfl)) rfl ?_
  exact ⟨_, _, by first | rfl | (simp [errW_none, errW_some] <;> rfl) | (simp [*, errW_none, errW_some] <;> rfl), by first | exact Kd.R_nil _ _ _ _ _ | exact Kd.N_nil _ _ _ _ _ | exact Kd.V_nil _ _ _ _ _ | exact Kd.Q_nil _ _ _ _ _ | exact Kd.S_nil _ _ _ _ _, by first | exact Kd.R_nil _ _ _ _ _ | exact Kd.N_nil _ _ _ _ _ | exact Kd.V_nil _ _ _ _ _ | exact Kd.Q_nil _ _ _ _ _ | exact Kd.S_nil _ _ _ _ _, bw HB⟩
 subst c4
 have H1 : (if 0 < (t621.length : Int) then (spec_FarthestState.l0 k (rd t621 0) t621 (t621.length : Int) 0 l0_0 l0_1 t609 t612 t615 t618 t621) else (none)) = some (r1, r2, r3, r4) := by rw [if_pos rfl] at H; exact H
 clear H
 have H := H1
 clear H1
 by_cases c5 : 0 < (t621.length : Int)
 rotate_left
 ·rw [if_neg c5] at H
  exact absurd H (by simp)
 rw [if_pos c5] at H
 have c5b0 : decide (0 < (t621.length : Int)) = true := decide_eq_true c5
 have c5b1 : decide (0 < t621.length) = true := decide_eq_true (by omega)
 clear c5
 have H' := Aside0.mk H
 clear H
 go_enter Try.func42, Try.ntmps42
 go_wp2_with (first | ((with_reducible refine gate_dst (N := 2) rfl ?_); refine bx 2 #[.slice A0_0 l0_0.length c0_0, .slice A0_1 l0_1.length c0_1] 29 ?_; intro gb607 hg w6 hbox hb; have BK607 := Aside0.mk (hbox); have GW607 := ge HB hg; have GE607 := ge HB hg; replace HB := bs HB hb; clear hb hbox hg) | ((with_reducible refine gate_dst (N := 4) rfl ?_); refine bx 4 #[.slice none 0 0, .slice none 0 0] 29 ?_; intro gb608 hg w7 hbox hb; have BK608 := Aside0.mk (hbox); have GW608 := ge HB hg; have GE608 := ge HB hg; replace HB := bs HB hb; have NB607_608 := nl BK607 hg; have NB608_607 := nr BK607 hg; replace BK607 := bb BK607 hb; clear hb hbox hg; have hnb8 := NB607_608.out; have hnc8 := NB608_607.out; have hcz9_0 := bc0 BK607; have hcz9_1 := bc1 BK607; have hfz9_0 := blk_frozen BK607.out 0; have hfz9_1 := blk_frozen BK607.out 1) | ((with_reducible refine gate_callee (f := 63) rfl ?_); refine gl 15 Try.func63 #[.agg #[.slice A0_0 l0_0.length c0_0, .slice A0_1 l0_1.length c0_1], .bool a1] ?_; (with_reducible refine (spec_plAsked.calls k (fun k_ => k_ < w.heap.size) _ _ l0_0 _ _ l0_1 a1 t609 t612 t615 t618 t621 true _ ?side1 ?side2 ?side3 A3.out).mono ?_); (case side1 => exact foot_and (Kd.F_below (Kd.C_F (Kd.heap_int .i64) HR0_0.out) (bw HB)) (Kd.F_below (Kd.C_F (Kd.heap_int .i64) HR0_1.out) (bw HB))); (case side2 => exact HC0_0.out); (case side3 => exact HC0_1.out); rintro e w16 ⟨p_, rfl, hq_, hb⟩; obtain ⟨gb625, v610, v613, v616, v619, v622, rfl, hge_, hbox_, ho0, ho1, ho2, ho3, ho4⟩ := hq_ rfl; refine ⟨_, rfl, ?_⟩; have HO611 := Aside0.mk (Kd.N_lower (Kd.N_mono (ok' := fun k_ => (some k_ ≠ (v613 : Value).ownBlock ∧ some k_ ≠ (v616 : Value).ownBlock ∧ some k_ ≠ (v619 : Value).ownBlock ∧ some k_ ≠ (v622 : Value).ownBlock ∧ k_ ≠ gb607 ∧ k_ ≠ gb608) ∧ k_ ≠ gb625) ho0 (fun k_ hk_ => ⟨⟨hk_.2.1, hk_.2.2.1, hk_.2.2.2.1, hk_.2.2.2.2.1, Or.elim hk_.1 (fun hs_ => fun e_ => Nat.not_le.2 hs_ (by rw [e_]; exact GW607.out)) (fun hn_ => (Kd.freshB (g := gb607) (o := .cells #[.slice A0_0 l0_0.length c0_0, .slice A0_1 l0_1.length c0_1] 29 (0, 0)) (bk BK607) k_ hn_)), Or.elim hk_.1 (fun hs_ => fun e_ => Nat.not_le.2 hs_ (by rw [e_]; exact GW608.out)) (fun hn_ => (Kd.freshB (g := gb608) (o := .cells #[.slice none 0 0, .slice none 0 0] 29 (0, 0)) (bk BK608) k_ hn_))⟩, hk_.2.2.2.2.2⟩)) (below_size (bw HB))); have HO614 := Aside0.mk (Kd.R_lower (Kd.R_mono (ok' := fun k_ => some k_ ≠ (v619 : Value).ownBlock ∧ some k_ ≠ (v622 : Value).ownBlock) ho1 (fun _ hk_ => hk_.2)) (below_size (bw HB))); have HO617 := Aside0.mk (Kd.R_lower (Kd.R_mono (ok' := fun k_ => True) ho2 (fun _ hk_ => trivial)) (below_size (bw HB))); have HO620 := Aside0.mk (Kd.R_lower (Kd.R_mono (ok' := fun k_ => some k_ ≠ (v613 : Value).ownBlock ∧ some k_ ≠ (v622 : Value).ownBlock) ho3 (fun _ hk_ => hk_.2)) (below_size (bw HB))); have HO623 := Aside0.mk (Kd.R_lower (Kd.R_mono (ok' := fun k_ => some k_ ≠ (v613 : Value).ownBlock ∧ some k_ ≠ (v619 : Value).ownBlock) ho4 (fun _ hk_ => hk_.2)) (below_size (bw HB))); have GW625 := ge' HB hge_; have GE625 := ge' HB hge_; have NB607_625 := nl' BK607 hge_; have NB625_607 := nr' BK607 hge_; have NB608_625 := nl' BK608 hge_; have NB625_608 := nr' BK608 hge_; replace BK607 := bb BK607 hb; replace BK608 := bb BK608 hb; replace HB := bs HB hb; (try clear hb); (try clear ho0); (try clear ho1); (try clear ho2); (try clear ho3); (try clear ho4); have BK625 := Aside0.mk hbox_; clear hbox_ hge_ hq_; obtain ⟨Ao11, co11, eo11⟩ := Kd.N_slice HO611.out; subst eo11; obtain ⟨Ao12, co12, eo12⟩ := Kd.R_slice HO614.out; subst eo12; obtain ⟨Ao13, co13, eo13⟩ := Kd.R_slice HO617.out; subst eo13; obtain ⟨Ao14, co14, eo14⟩ := Kd.R_slice HO620.out; subst eo14; obtain ⟨Ao15, co15, eo15⟩ := Kd.R_slice HO623.out; subst eo15; have hnb17 := NB625_607.out; have hnc17 := NB607_625.out; have hnb18 := NB625_608.out; have hnc18 := NB608_625.out; have hcz19_0 := bc0 BK625; have hcz19_1 := bc1 BK625; have hcz19_2 := bc2 BK625; have hcz19_3 := bc3 BK625; have hcz19_4 := bc4 BK625; have hfz19_0 := blk_frozen BK625.out 0; have hfz19_1 := blk_frozen BK625.out 1; have hfz19_2 := blk_frozen BK625.out 2; have hfz19_3 := blk_frozen BK625.out 3; have hfz19_4 := blk_frozen BK625.out 4; have p626 : 0 ≤ (0 : Int) := (by omega); have q626 : 0 < (t621.length : Int) := of_decide_eq_true (by first | (with_reducible assumption) | assumption); obtain ⟨ad626, e626, hx626_0⟩ := Kd.at_int (Kd.R_reads' HO623.out).2.2 0 p626 q626; cases e626; have qi626 : (0 < t621.length) = True := eq_true (by omega); (try rw [show ((0 : Int)).toNat = 0 from rfl] at hx626_0); (try rw [Addr.add_zero'] at hx626_0); replace p626 := eq_true p626; replace q626 := eq_true q626))
 try simp only [Act.put, List.setIfInBounds_toArray, List.set_cons_zero, List.set_cons_succ]
 go_loopg [9, 32] k (fun kq v9 v32 w' => ∃ (x9_1 : Int) (x32_1 : Int), v9 = .int .i64 x9_1 ∧ v32 = .int .i64 x32_1 ∧ Aside0 (spec_FarthestState.l0 kq x9_1 t621 (t621.length : Int) x32_1 l0_0 l0_1 t609 t612 t615 t618 t621 = some (r1, r2, r3, r4)) ∧ Aside0 (kq ≤ k) ∧ Aside0 (Kd.R (Kd.int .i64) 3 w' w.heap.size (fun k_ => some k_ ≠ ((.slice Ao12 t612.length co12) : Value).ownBlock ∧ some k_ ≠ ((.slice Ao14 t618.length co14) : Value).ownBlock) (.slice (some ad626) t621.length co15) t621) ∧ Aside0 (Kd.N k29 29 w' w.heap.size (fun k_ => some k_ ≠ ((.slice (some ad626) t621.length co15) : Value).ownBlock ∧ some k_ ≠ ((.slice Ao12 t612.length co12) : Value).ownBlock ∧ some k_ ≠ ((.slice Ao13 t615.length co13) : Value).ownBlock ∧ some k_ ≠ ((.slice Ao14 t618.length co14) : Value).ownBlock ∧ some k_ ≠ ((.slice (some ad626) t621.length co15) : Value).ownBlock ∧ k_ ≠ gb607 ∧ k_ ≠ gb608 ∧ k_ ≠ gb625) (.slice Ao11 t609.length co11) t609) ∧ Aside0 (Kd.R (Kd.int .i64) 3 w' w.heap.size (fun k_ => some k_ ≠ ((.slice (some ad626) t621.length co15) : Value).ownBlock ∧ some k_ ≠ ((.slice Ao14 t618.length co14) : Value).ownBlock ∧ some k_ ≠ ((.slice (some ad626) t621.length co15) : Value).ownBlock) (.slice Ao12 t612.length co12) t612) ∧ Aside0 (Kd.R k49 49 w' w.heap.size (fun _ => True) (.slice Ao13 t615.length co13) t615) ∧ Aside0 (Kd.R (Kd.int .i64) 3 w' w.heap.size (fun k_ => some k_ ≠ ((.slice (some ad626) t621.length co15) : Value).ownBlock ∧ some k_ ≠ ((.slice Ao12 t612.length co12) : Value).ownBlock ∧ some k_ ≠ ((.slice (some ad626) t621.length co15) : Value).ownBlock) (.slice Ao14 t618.length co14) t618) ∧ Aside0 (Kd.R (Kd.int .i64) 3 w' w.heap.size (fun k_ => some k_ ≠ ((.slice Ao12 t612.length co12) : Value).ownBlock ∧ some k_ ≠ ((.slice Ao14 t618.length co14) : Value).ownBlock) (.slice (some ad626) t621.length co15) t621) ∧ Aside0 (w'.heap[gb607]? = some (.cells #[(.slice A0_0 l0_0.length c0_0), (.slice A0_1 l0_1.length c0_1)] 29 (0, 0))) ∧ Aside0 (w'.heap[gb608]? = some (.cells #[(.slice none 0 0), (.slice none 0 0)] 29 (0, 0))) ∧ Aside0 (w'.heap[gb625]? = some (.cells #[(.slice Ao11 t609.length co11), (.slice Ao12 t612.length co12), (.slice Ao13 t615.length co13), (.slice Ao14 t618.length co14), (.slice (some ad626) t621.length co15)] 80 (0, 0))) ∧ Aside0 (Below w.heap.size w w'))
 case atStart => exact ⟨(rd t621 0), (0), (by first | rfl | (simp; done) | (simp [*]; done)), (by first | rfl | (simp; done) | (simp [*]; done)), H', ⟨Nat.le_refl _⟩, ⟨rk HO623⟩, ⟨by (with_reducible repeat (first | apply Kd.N_alloc | apply Kd.N_drewN | apply Kd.N_drew)); exact Kd.N_mono HO611.out (fun _ hk => ⟨hk.1.2.2.2.1, ⟨hk.1.1, ⟨hk.1.2.1, ⟨hk.1.2.2.1, ⟨hk.1.2.2.2.1, ⟨hk.1.2.2.2.2.1, ⟨hk.1.2.2.2.2.2, hk.2⟩⟩⟩⟩⟩⟩⟩)⟩, ⟨by (with_reducible repeat (first | apply Kd.R_alloc | apply Kd.R_drewN | apply Kd.R_drew)); exact Kd.R_mono HO614.out (fun _ hk => ⟨hk.2, ⟨hk.1, hk.2⟩⟩)⟩, ⟨rk HO617⟩, ⟨by (with_reducible repeat (first | apply Kd.R_alloc | apply Kd.R_drewN | apply Kd.R_drew)); exact Kd.R_mono HO620.out (fun _ hk => ⟨hk.2, ⟨hk.1, hk.2⟩⟩)⟩, ⟨rk HO623⟩, ⟨bk BK607⟩, ⟨bk BK608⟩, ⟨bk BK625⟩, ⟨bw HB⟩⟩
 case round =>
  clear H'
  try clear c1
  try clear p2
  try clear c4
  try clear c5
  try clear c5b0
  try clear c5b1
  try clear c6
  try clear p6
  try clear q6
  try clear hx6
  try clear qi6
  try clear c8
  try clear c17
  try clear c18
  try clear hcz19_0
  try clear hcz19_1
  try clear hcz19_2
  try clear hcz19_3
  try clear hcz19_4
  try clear hcz9_0
  try clear hcz9_1
  try clear hfz19_0
  try clear hfz19_1
  try clear hfz19_2
  try clear hfz19_3
  try clear hfz19_4
  try clear hfz9_0
  try clear hfz9_1
  try clear hx626_0
  try clear p626
  try clear q626
  obtain ⟨x9_1, x32_1, rfl, rfl, HA, HK1, HO_30, HO_626000, HO_626001, HO_626002, HO_626003, HO_626004, BK607, BK608, BK625, HB⟩ := hrel
  cases gk with
  | zero => exact absurd HA.out (by simp [spec_FarthestState.l0])
  | succ k1 =>
   have H := HA.out
   clear HA
   simp only [spec_FarthestState.l0] at H
   by_cases c20 : x32_1 < (t621.length : Int)
   rotate_left
   ·rw [if_neg c20] at H
    have c20b0 : decide (x32_1 < (t621.length : Int)) = false := decide_eq_false c20
    clear c20
    replace H := Option.bind_eq_some_iff.mp H
    obtain ⟨t630, A300, H⟩ := H
    replace H : (if 0 ≤ x9_1 then (if x9_1 < (t609.length : Int) then ((spec_l1Own.f ((rd_T29 t609 x9_1).f1)).bind fun t634 => (if x9_1 < (t618.length : Int) then (some (t630, t634, rd t618 x9_1, true)) else (none))) else (none)) else (none)) = some (r1, r2, r3, r4) := H
    have A30 := Aside0.mk A300
    clear A300
    by_cases c31 : 0 ≤ x9_1
    rotate_left
    ·rw [if_neg c31] at H
     exact absurd H (by simp)
    rw [if_pos c31] at H
    have c31b0 : decide (0 ≤ x9_1) = true := decide_eq_true c31
    clear c31
    by_cases c32 : x9_1 < (t609.length : Int)
    rotate_left
    ·rw [if_neg c32] at H
     exact absurd H (by simp)
    rw [if_pos c32] at H
    have c32b0 : decide (x9_1 < (t609.length : Int)) = true := decide_eq_true c32
    clear c32
    replace H := Option.bind_eq_some_iff.mp H
    obtain ⟨t634, A330, H⟩ := H
    replace H : (if x9_1 < (t618.length : Int) then (some (t630, t634, rd t618 x9_1, true)) else (none)) = some (r1, r2, r3, r4) := H
    have A33 := Aside0.mk A330
    clear A330
    by_cases c34 : x9_1 < (t618.length : Int)
    rotate_left
    ·rw [if_neg c34] at H
     exact absurd H (by simp)
    rw [if_pos c34] at H
    have c34b0 : decide (x9_1 < (t618.length : Int)) = true := decide_eq_true c34
    clear c34
    simp only [Option.some.injEq, Prod.mk.injEq] at H
    obtain ⟨rfl, rfl, rfl, rfl⟩ := H
    try go_wp2
    replace HO_30 := Aside0.mk (Kd.R_drew HO_30.out)
    replace HO_626000 := Aside0.mk (Kd.N_drew HO_626000.out)
    replace HO_626001 := Aside0.mk (Kd.R_drew HO_626001.out)
    replace HO_626002 := Aside0.mk (Kd.R_drew HO_626002.out)
    replace HO_626003 := Aside0.mk (Kd.R_drew HO_626003.out)
    replace HO_626004 := Aside0.mk (Kd.R_drew HO_626004.out)
    replace BK607 := Aside0.mk (blk_drew BK607.out)
    replace BK608 := Aside0.mk (blk_drew BK608.out)
    replace BK625 := Aside0.mk (blk_drew BK625.out)
    replace HB := Aside0.mk (below_drew1 HB.out)
    have p633 : 0 ≤ (x9_1 : Int) := of_decide_eq_true (by first | (with_reducible assumption) | assumption)
    have q633 : x9_1 < (t609.length : Int) := of_decide_eq_true (by first | (with_reducible assumption) | assumption)
    obtain ⟨ad633, A633_0, c633_0, A633_1, c633_1, e633, hx633_0, hx633_1, hl633_0, hi633_0, hl633_1, hi633_1⟩ := at_T29 (Kd.N_reads' HO_626000.out).2.2 x9_1 p633 q633
    cases e633
    obtain ⟨ce633, hce633, hMe633, hcc633⟩ := Kd.N_get HO_626000.out z29 x9_1 p633 (by first | exact q633 | exact of_decide_eq_true (by first | (with_reducible assumption) | assumption) | (have e_ := (Kd.N_reads' HO_626000.out).1; omega))
    obtain ⟨ua633_0, uc633_0, ua633_1, uc633_1, rfl, ul633_0, ge633_0, ul633_1, ge633_1⟩ := k29_openF hMe633
    have hv633_0 := hcc633 0 _ rfl
    rw [Nat.add_zero] at hv633_0
    replace hv633_0 := Option.some.inj (hv633_0.symm.trans hx633_0)
    injection hv633_0 with hva_ hvn_ hvc_
    rw [hva_] at ge633_0
    rw [hvc_] at ul633_0
    have HL633_0 := Aside0.mk (show Kd.V (Kd.int .i64) 3 _ w.heap.size _ _ ((rd_T29 t609 x9_1).f0) from Kd.V_mk ul633_0 ge633_0)
    clear hva_ hvn_ hvc_ ge633_0 ul633_0
    have hv633_1 := hcc633 1 _ rfl
    rw [add_field _ _ 1 (by omega)] at hv633_1
    replace hv633_1 := Option.some.inj (hv633_1.symm.trans hx633_1)
    injection hv633_1 with hva_ hvn_ hvc_
    rw [hva_] at ge633_1
    rw [hvc_] at ul633_1
    have HL633_1 := Aside0.mk (show Kd.V (Kd.int .i64) 3 _ w.heap.size _ _ ((rd_T29 t609 x9_1).f1) from Kd.V_mk ul633_1 ge633_1)
    clear hva_ hvn_ hvc_ ge633_1 ul633_1
    clear hcc633 hce633
    have HR633_0 := Aside0.mk hi633_0
    have HC633_0 := Aside0.mk hl633_0
    clear hi633_0 hl633_0
    have HR633_1 := Aside0.mk hi633_1
    have HC633_1 := Aside0.mk hl633_1
    clear hi633_1 hl633_1
    replace p633 := eq_true p633
    replace q633 := eq_true q633
    have p637 : 0 ≤ (x9_1 : Int) := of_decide_eq_true (by first | (with_reducible assumption) | assumption)
    have q637 : x9_1 < (t618.length : Int) := of_decide_eq_true (by first | (with_reducible assumption) | assumption)
    obtain ⟨ad637, e637, hx637_0⟩ := Kd.at_int (Kd.R_reads' HO_626003.out).2.2 x9_1 p637 q637
    cases e637
    replace p637 := eq_true p637
    replace q637 := eq_true q637
    refine start_ (n := 23) (S := fun w' => w'.cell? ⟨gb607, 0, none⟩ = some (.slice A0_0 l0_0.length c0_0) ∧ w'.cell? ⟨gb607, 1, none⟩ = some (.slice A0_1 l0_1.length c0_1) ∧ w'.cell? ⟨gb625, 0, none⟩ = some (.slice (some ad633) t609.length co11) ∧ w'.cell? ⟨gb625, 1, none⟩ = some (.slice Ao12 t612.length co12) ∧ w'.cell? ⟨gb625, 2, none⟩ = some (.slice Ao13 t615.length co13) ∧ w'.cell? ⟨gb625, 3, none⟩ = some (.slice (some ad637) t618.length co14) ∧ w'.cell? ⟨gb625, 4, none⟩ = some (.slice (some ad626) t621.length co15) ∧ w'.cell? (ad633.add ((x9_1).toNat * 2)) = some (.slice A633_0 ((rd_T29 t609 x9_1).f0).length c633_0) ∧ w'.cell? ⟨(ad633.add ((x9_1).toNat * 2)).block, (ad633.add ((x9_1).toNat * 2)).off + 1, none⟩ = some (.slice A633_1 ((rd_T29 t609 x9_1).f1).length c633_1) ∧ w'.cell? (ad637.add (x9_1).toNat) = some (.int .i64 (rd t618 x9_1))) (ds := []) (bl 23 0) (by kernel_rfl) rfl rfl ⟨bc0 BK607, bc1 BK607, bc0 BK625, bc1 BK625, bc2 BK625, bc3 BK625, bc4 BK625, hx633_0, hx633_1, hx637_0⟩ (fun hHeld => ?_); refine with_tabW spec_FarthestState.tab11 spec_FarthestState.bits11 (fun HT_ HW_ => ?_)
    generalize wr.drew = w35 at HO_30 HO_626000 HO_626001 HO_626002 HO_626003 HO_626004 BK607 BK608 BK625 HB HL633_0 HL633_1 HR633_0 HR633_1 hx633_0 hx633_1 hx637_0 hHeld ⊢
    refine pu 0 53 (bl 23 1) HT_.out (v := ?_) (a' := ?_) ?_ ?_ ?_
    rotate_left
    ·intro w'
     go_simp
     with_reducible rfl
    rotate_left
    ·simp only [sqa, sqb, sqc, sqd, i64_w, i32_w]
     rfl
    refine pu 3 56 (bl 23 9) HT_.out (v := ?_) (a' := ?_) ?_ ?_ ?_
    rotate_left
    ·intro w'
     go_simp
     with_reducible rfl
    rotate_left
    ·simp only [sqa, sqb, sqc, sqd, i64_w, i32_w]
     rfl
    refine pu 4 57 (bl 23 25) HT_.out (v := ?_) (a' := ?_) ?_ ?_ ?_
    rotate_left
    ·intro w'
     go_simp
     with_reducible rfl
    rotate_left
    ·simp only [sqa, sqb, sqc, sqd, i64_w, i32_w]
     rfl
    refine pu 5 58 (bl 23 57) HT_.out (v := ?_) (a' := ?_) ?_ ?_ ?_
    rotate_left
    ·intro w'
     go_simp
     with_reducible rfl
    rotate_left
    ·simp only [sqa, sqb, sqc, sqd, i64_w, i32_w]
     rfl
    refine pu 7 60 (bl 23 185) HT_.out (v := ?_) (a' := ?_) ?_ ?_ ?_
    rotate_left
    ·intro w'
     go_simp
     with_reducible rfl
    rotate_left
    ·simp only [sqa, sqb, sqc, sqd, i64_w, i32_w]
     rfl
    refine pu 13 66 (bl 23 8377) HT_.out (v := ?_) (a' := ?_) ?_ ?_ ?_
    rotate_left
    ·intro w'
     go_simp
     with_reducible rfl
    rotate_left
    ·simp only [sqa, sqb, sqc, sqd, i64_w, i32_w]
     rfl
    refine pu 14 67 (bl 23 24761) HT_.out (v := ?_) (a' := ?_) ?_ ?_ ?_
    rotate_left
    ·intro w'
     go_simp
     with_reducible rfl
    rotate_left
    ·simp only [sqa, sqb, sqc, sqd, i64_w, i32_w]
     rfl
    refine pu 15 68 (bl 23 57529) HT_.out (v := ?_) (a' := ?_) ?_ ?_ ?_
    rotate_left
    ·intro w'
     go_simp
     with_reducible rfl
    rotate_left
    ·simp only [sqa, sqb, sqc, sqd, i64_w, i32_w]
     rfl
    refine pu 17 70 (bl 23 188601) HT_.out (v := ?_) (a' := ?_) ?_ ?_ ?_
    rotate_left
    ·intro w'
     go_simp
     with_reducible rfl
    rotate_left
    ·simp only [sqa, sqb, sqc, sqd, i64_w, i32_w]
     rfl
    refine tk 1 54 (bl 23 188603) HT_.out HW_.out hHeld (v := ?_) (a' := ?_) ?_ ?_ ?_
    rotate_left
    ·rintro w' ⟨s0, s1, s2, s3, s4, s5, s6, s7, s8, s9⟩
     go_simp
     with_reducible rfl
    rotate_left
    ·simp only [sqa, sqb, sqc, sqd, i64_w, i32_w]
     rfl
    refine tk 6 59 (bl 23 188667) HT_.out HW_.out hHeld (v := ?_) (a' := ?_) ?_ ?_ ?_
    rotate_left
    ·rintro w' ⟨s0, s1, s2, s3, s4, s5, s6, s7, s8, s9⟩
     go_simp
     with_reducible rfl
    rotate_left
    ·simp only [sqa, sqb, sqc, sqd, i64_w, i32_w]
     rfl
    refine pu 8 61 (bl 23 188923) HT_.out (v := ?_) (a' := ?_) ?_ ?_ ?_
    rotate_left
    ·intro w'
     go_simp
     with_reducible rfl
    rotate_left
    ·simp only [sqa, sqb, sqc, sqd, i64_w, i32_w]
     rfl
    refine pu 9 62 (bl 23 189435) HT_.out (v := ?_) (a' := ?_) ?_ ?_ ?_
    rotate_left
    ·intro w'
     go_simp
     with_reducible rfl
    rotate_left
    ·simp only [sqa, sqb, sqc, sqd, i64_w, i32_w]
     rfl
    refine tk 10 63 (bl 23 190459) HT_.out HW_.out hHeld (v := ?_) (a' := ?_) ?_ ?_ ?_
    rotate_left
    ·rintro w' ⟨s0, s1, s2, s3, s4, s5, s6, s7, s8, s9⟩
     go_simp
     with_reducible rfl
    rotate_left
    ·simp only [sqa, sqb, sqc, sqd, i64_w, i32_w]
     rfl
    refine tk 16 69 (bl 23 255995) HT_.out HW_.out hHeld (v := ?_) (a' := ?_) ?_ ?_ ?_
    rotate_left
    ·rintro w' ⟨s0, s1, s2, s3, s4, s5, s6, s7, s8, s9⟩
     go_simp
     with_reducible rfl
    rotate_left
    ·simp only [sqa, sqb, sqc, sqd, i64_w, i32_w]
     rfl
    refine pu 18 71 (bl 23 518139) HT_.out (v := ?_) (a' := ?_) ?_ ?_ ?_
    rotate_left
    ·intro w'
     go_simp
     with_reducible rfl
    rotate_left
    ·simp only [sqa, sqb, sqc, sqd, i64_w, i32_w]
     rfl
    refine tk 19 72 (bl 23 1042427) HT_.out HW_.out hHeld (v := ?_) (a' := ?_) ?_ ?_ ?_
    rotate_left
    ·rintro w' ⟨s0, s1, s2, s3, s4, s5, s6, s7, s8, s9⟩
     go_simp
     with_reducible rfl
    rotate_left
    ·simp only [sqa, sqb, sqc, sqd, i64_w, i32_w]
     rfl
    refine on 2 55 (bl 23 1042431) HT_.out (fun K hK => ?_)
    refine gs Try.func71 #[.slice A0_0 l0_0.length c0_0] ?_
    with_reducible refine (spec_l1Own.calls _ _ l0_0 t630 _ ?side1 ?side2 A30.out).mono ?_
    (case side1 => exact ck HR0_0 HB)
    (case side2 => exact HC0_0.out)
    rintro e w36 ⟨v631, rfl, ho0, hb⟩
    have HS7_ := (hb.cell (World.block_lt_of_cell? _ _ (hHeld.2.2.2.2.2.2.2.1))).trans (hHeld.2.2.2.2.2.2.2.1)
    have HS8_ := (hb.cell (World.block_lt_of_cell? _ _ (hHeld.2.2.2.2.2.2.2.2.1))).trans (hHeld.2.2.2.2.2.2.2.2.1)
    have HS9_ := (hb.cell (World.block_lt_of_cell? _ _ (hHeld.2.2.2.2.2.2.2.2.2))).trans (hHeld.2.2.2.2.2.2.2.2.2)
    refine ⟨_, rfl, ?_⟩
    replace HO_626000 := Aside0.mk (Kd.N_elder' (by (with_reducible repeat (first | apply Kd.N_alloc | apply Kd.N_drewN | apply Kd.N_drew)); exact HO_626000.out) (Kd.R_base ho0) hb)
    replace HO_626002 := rb HO_626002 hb
    replace HL633_0 := Aside0.mk (Kd.V_elder' (by (with_reducible repeat (first | apply Kd.V_alloc | apply Kd.V_drewN | apply Kd.V_drew)); exact HL633_0.out) (Kd.R_base ho0) hb)
    replace HL633_1 := Aside0.mk (Kd.V_elder' (by (with_reducible repeat (first | apply Kd.V_alloc | apply Kd.V_drewN | apply Kd.V_drew)); exact HL633_1.out) (Kd.R_base ho0) hb)
    have HO632 := Aside0.mk (Kd.R_lower (Kd.R_new' (Kd.R_new' (Kd.R_new' (Kd.R_new' ho0 (Kd.R_lt (rk HO_30))) (Kd.R_lt (rk HO_626001))) (Kd.R_lt (rk HO_626003))) (Kd.R_lt (rk HO_626004))) (below_size (bw HB)))
    replace HO_30 := Aside0.mk (Kd.R_elder' (rk HO_30) (Kd.R_base ho0) hb)
    replace HO_626001 := Aside0.mk (Kd.R_elder' (rk HO_626001) (Kd.R_base ho0) hb)
    replace HO_626003 := Aside0.mk (Kd.R_elder' (rk HO_626003) (Kd.R_base ho0) hb)
    replace HO_626004 := Aside0.mk (Kd.R_elder' (rk HO_626004) (Kd.R_base ho0) hb)
    replace BK607 := bb BK607 hb
    replace BK608 := bb BK608 hb
    replace BK625 := bb BK625 hb
    replace HR633_0 := Aside0.mk (Kd.C_below (by repeat (first | (with_reducible exact HR633_0.out) | (with_reducible refine Kd.C_alloc ?_ _) | (with_reducible refine Kd.C_drewN ?_ _) | (with_reducible refine Kd.C_drew ?_) | exact HR633_0.out)) hb)
    replace HR633_1 := Aside0.mk (Kd.C_below (by repeat (first | (with_reducible exact HR633_1.out) | (with_reducible refine Kd.C_alloc ?_ _) | (with_reducible refine Kd.C_drewN ?_ _) | (with_reducible refine Kd.C_drew ?_) | exact HR633_1.out)) hb)
    replace HB := bs HB hb
    (try clear hb)
    (try clear hb2)
    (try clear hk)
    (try clear hi)
    (try clear ho0)
    refine hK.out _ _ ⟨bc0 BK607, bc1 BK607, bc0 BK625, bc1 BK625, bc2 BK625, bc3 BK625, bc4 BK625, HS7_, HS8_, HS9_⟩ (fun hHeld => ?_)
    clear hK K
    refine norm_ (a' := ?_) ?_ ?_
    rotate_left
    ·show Act.put _ (some 55) _ = _
     simp only [sqa, sqb, sqc, sqd, i64_w, i32_w]
     rfl
    refine on 11 64 (bl 23 1044479) HT_.out (fun K hK => ?_)
    refine gs Try.func71 #[.slice A633_1 ((rd_T29 t609 x9_1).f1).length c633_1] ?_
    with_reducible refine (spec_l1Own.calls _ _ ((rd_T29 t609 x9_1).f1) t634 _ ?side1 ?side2 A33.out).mono ?_
    (case side1 => repeat (first | exact (by repeat (first | (with_reducible exact HR633_1.out) | (with_reducible refine Kd.C_alloc ?_ _) | (with_reducible refine Kd.C_drewN ?_ _) | (with_reducible refine Kd.C_drew ?_) | exact HR633_1.out)) | (with_reducible refine Kd.C_alloc ?_ _) | (with_reducible refine Kd.C_drewN ?_ _) | (with_reducible refine Kd.C_drew ?_)))
    (case side2 => exact HC633_1.out)
    rintro e w37 ⟨v635, rfl, ho0, hb⟩
    have HS7_ := (hb.cell (World.block_lt_of_cell? _ _ (hHeld.2.2.2.2.2.2.2.1))).trans (hHeld.2.2.2.2.2.2.2.1)
    have HS8_ := (hb.cell (World.block_lt_of_cell? _ _ (hHeld.2.2.2.2.2.2.2.2.1))).trans (hHeld.2.2.2.2.2.2.2.2.1)
    have HS9_ := (hb.cell (World.block_lt_of_cell? _ _ (hHeld.2.2.2.2.2.2.2.2.2))).trans (hHeld.2.2.2.2.2.2.2.2.2)
    refine ⟨_, rfl, ?_⟩
    replace HO_626000 := Aside0.mk (Kd.N_elder' (by (with_reducible repeat (first | apply Kd.N_alloc | apply Kd.N_drewN | apply Kd.N_drew)); exact HO_626000.out) (Kd.R_base ho0) hb)
    replace HO_626002 := rb HO_626002 hb
    replace HL633_0 := Aside0.mk (Kd.V_elder' (by (with_reducible repeat (first | apply Kd.V_alloc | apply Kd.V_drewN | apply Kd.V_drew)); exact HL633_0.out) (Kd.R_base ho0) hb)
    replace HL633_1 := Aside0.mk (Kd.V_elder' (by (with_reducible repeat (first | apply Kd.V_alloc | apply Kd.V_drewN | apply Kd.V_drew)); exact HL633_1.out) (Kd.R_base ho0) hb)
    have HO636 := Aside0.mk (Kd.R_lower (Kd.R_new' (Kd.R_new' (Kd.R_new' (Kd.R_new' (Kd.R_new' ho0 (Kd.R_lt (rk HO_30))) (Kd.R_lt (rk HO_626001))) (Kd.R_lt (rk HO_626003))) (Kd.R_lt (rk HO_626004))) (Kd.R_lt (rk HO632))) (below_size (bw HB)))
    replace HO_30 := Aside0.mk (Kd.R_elder' (rk HO_30) (Kd.R_base ho0) hb)
    replace HO_626001 := Aside0.mk (Kd.R_elder' (rk HO_626001) (Kd.R_base ho0) hb)
    replace HO_626003 := Aside0.mk (Kd.R_elder' (rk HO_626003) (Kd.R_base ho0) hb)
    replace HO_626004 := Aside0.mk (Kd.R_elder' (rk HO_626004) (Kd.R_base ho0) hb)
    replace HO632 := Aside0.mk (Kd.R_elder' (rk HO632) (Kd.R_base ho0) hb)
    replace BK607 := bb BK607 hb
    replace BK608 := bb BK608 hb
    replace BK625 := bb BK625 hb
    replace HR633_0 := Aside0.mk (Kd.C_below (by repeat (first | (with_reducible exact HR633_0.out) | (with_reducible refine Kd.C_alloc ?_ _) | (with_reducible refine Kd.C_drewN ?_ _) | (with_reducible refine Kd.C_drew ?_) | exact HR633_0.out)) hb)
    replace HR633_1 := Aside0.mk (Kd.C_below (by repeat (first | (with_reducible exact HR633_1.out) | (with_reducible refine Kd.C_alloc ?_ _) | (with_reducible refine Kd.C_drewN ?_ _) | (with_reducible refine Kd.C_drew ?_) | exact HR633_1.out)) hb)
    replace HB := bs HB hb
    (try clear hb)
    (try clear hb2)
    (try clear hk)
    (try clear hi)
    (try clear ho0)
    obtain ⟨Ao38, co38, eo38⟩ := Kd.R_slice HO636.out
    (first | subst eo38 | (injection eo38 with f1_ f2_ f3_; have f4_ := f1_.symm; have f5_ := f3_.symm; clear f1_ f2_ f3_; subst f4_; subst f5_))
    obtain ⟨Ao39, co39, eo39⟩ := Kd.R_slice HO632.out
    (first | subst eo39 | (injection eo39 with f1_ f2_ f3_; have f4_ := f1_.symm; have f5_ := f3_.symm; clear f1_ f2_ f3_; subst f4_; subst f5_))
    refine hK.out _ _ ⟨bc0 BK607, bc1 BK607, bc0 BK625, bc1 BK625, bc2 BK625, bc3 BK625, bc4 BK625, HS7_, HS8_, HS9_⟩ (fun hHeld => ?_)
    clear hK K
    refine norm_ (a' := ?_) ?_ ?_
    rotate_left
    ·show Act.put _ (some 64) _ = _
     simp only [sqa, sqb, sqc, sqd, i64_w, i32_w]
     rfl
    refine pu 12 65 (bl 23 1048575) HT_.out (v := ?_) (a' := ?_) ?_ ?_ ?_
    rotate_left
    ·intro w'
     go_simp
     with_reducible rfl
    rotate_left
    ·simp only [sqa, sqb, sqc, sqd, i64_w, i32_w]
     rfl
    refine one_ (i := 20) (N := none) (bl 23 2097151) rfl rfl (one_of HT_.out (by kernel_rfl)) (by decide) (fun K hK => ?_)
    have hs40 : w37.cell? ⟨gb608, 0, none⟩ = some (.slice none 0 0) := bc0 BK608
    have hfs40 := blk_frozen BK608.out 0
    have hns40_0 := NB607_608.out
    have hns40_2 := NB625_608.out
    have hms40_0 := NB608_607.out
    have hms40_2 := NB608_625.out
    have hs41 : w37.cell? ⟨gb608, 1, none⟩ = some (.slice none 0 0) := bc1 BK608
    have hfs41 := blk_frozen BK608.out 1
    have hns41_0 := NB607_608.out
    have hns41_2 := NB625_608.out
    have hms41_0 := NB608_607.out
    have hms41_2 := NB608_625.out
    refine skip_ (w1 := ?_) (by rfl) rfl ?_ ?_
    rotate_left
    ·go_simp
     rfl
    refine hK.out _ _ ⟨((cell_far (p := ⟨gb608, _, none⟩) NB607_608.out _).trans (((cell_far (p := ⟨gb608, _, none⟩) NB607_608.out _).trans (hHeld.1)))), ((cell_far (p := ⟨gb608, _, none⟩) NB607_608.out _).trans (((cell_far (p := ⟨gb608, _, none⟩) NB607_608.out _).trans (hHeld.2.1)))), ((cell_far (p := ⟨gb608, _, none⟩) NB625_608.out _).trans (((cell_far (p := ⟨gb608, _, none⟩) NB625_608.out _).trans (hHeld.2.2.1)))), ((cell_far (p := ⟨gb608, _, none⟩) NB625_608.out _).trans (((cell_far (p := ⟨gb608, _, none⟩) NB625_608.out _).trans (hHeld.2.2.2.1)))), ((cell_far (p := ⟨gb608, _, none⟩) NB625_608.out _).trans (((cell_far (p := ⟨gb608, _, none⟩) NB625_608.out _).trans (hHeld.2.2.2.2.1)))), ((cell_far (p := ⟨gb608, _, none⟩) NB625_608.out _).trans (((cell_far (p := ⟨gb608, _, none⟩) NB625_608.out _).trans (hHeld.2.2.2.2.2.1)))), ((cell_far (p := ⟨gb608, _, none⟩) NB625_608.out _).trans (((cell_far (p := ⟨gb608, _, none⟩) NB625_608.out _).trans (hHeld.2.2.2.2.2.2.1)))), ((cell_far (p := ⟨gb608, _, none⟩) (by first | exact Kd.own_blk (Kd.N_away HO_626000.out (fun _ hk => hk.1.1.2.2.2.2.2.2.1)) | (rw [add_block]; exact Kd.own_blk (Kd.N_away HO_626000.out (fun _ hk => hk.1.1.2.2.2.2.2.2.1))) | (show (Addr.add _ _).block ≠ _; rw [add_block]; exact Kd.own_blk (Kd.N_away HO_626000.out (fun _ hk => hk.1.1.2.2.2.2.2.2.1))) | (dsimp only; exact Kd.own_blk (Kd.N_away HO_626000.out (fun _ hk => hk.1.1.2.2.2.2.2.2.1)))) _).trans (((cell_far (p := ⟨gb608, _, none⟩) (by first | exact Kd.own_blk (Kd.N_away HO_626000.out (fun _ hk => hk.1.1.2.2.2.2.2.2.1)) | (rw [add_block]; exact Kd.own_blk (Kd.N_away HO_626000.out (fun _ hk => hk.1.1.2.2.2.2.2.2.1))) | (show (Addr.add _ _).block ≠ _; rw [add_block]; exact Kd.own_blk (Kd.N_away HO_626000.out (fun _ hk => hk.1.1.2.2.2.2.2.2.1))) | (dsimp only; exact Kd.own_blk (Kd.N_away HO_626000.out (fun _ hk => hk.1.1.2.2.2.2.2.2.1)))) _).trans (hHeld.2.2.2.2.2.2.2.1)))), ((cell_far (p := ⟨gb608, _, none⟩) (by first | exact Kd.own_blk (Kd.N_away HO_626000.out (fun _ hk => hk.1.1.2.2.2.2.2.2.1)) | (rw [add_block]; exact Kd.own_blk (Kd.N_away HO_626000.out (fun _ hk => hk.1.1.2.2.2.2.2.2.1))) | (show (Addr.add _ _).block ≠ _; rw [add_block]; exact Kd.own_blk (Kd.N_away HO_626000.out (fun _ hk => hk.1.1.2.2.2.2.2.2.1))) | (dsimp only; exact Kd.own_blk (Kd.N_away HO_626000.out (fun _ hk => hk.1.1.2.2.2.2.2.2.1)))) _).trans (((cell_far (p := ⟨gb608, _, none⟩) (by first | exact Kd.own_blk (Kd.N_away HO_626000.out (fun _ hk => hk.1.1.2.2.2.2.2.2.1)) | (rw [add_block]; exact Kd.own_blk (Kd.N_away HO_626000.out (fun _ hk => hk.1.1.2.2.2.2.2.2.1))) | (show (Addr.add _ _).block ≠ _; rw [add_block]; exact Kd.own_blk (Kd.N_away HO_626000.out (fun _ hk => hk.1.1.2.2.2.2.2.2.1))) | (dsimp only; exact Kd.own_blk (Kd.N_away HO_626000.out (fun _ hk => hk.1.1.2.2.2.2.2.2.1)))) _).trans (hHeld.2.2.2.2.2.2.2.2.1)))), ((cell_far (p := ⟨gb608, _, none⟩) (by first | exact Kd.own_blk (Kd.R_ne HO_626003.out BK608.out (by decide)) | (rw [add_block]; exact Kd.own_blk (Kd.R_ne HO_626003.out BK608.out (by decide))) | (show (Addr.add _ _).block ≠ _; rw [add_block]; exact Kd.own_blk (Kd.R_ne HO_626003.out BK608.out (by decide))) | (dsimp only; exact Kd.own_blk (Kd.R_ne HO_626003.out BK608.out (by decide)))) _).trans (((cell_far (p := ⟨gb608, _, none⟩) (by first | exact Kd.own_blk (Kd.R_ne HO_626003.out BK608.out (by decide)) | (rw [add_block]; exact Kd.own_blk (Kd.R_ne HO_626003.out BK608.out (by decide))) | (show (Addr.add _ _).block ≠ _; rw [add_block]; exact Kd.own_blk (Kd.R_ne HO_626003.out BK608.out (by decide))) | (dsimp only; exact Kd.own_blk (Kd.R_ne HO_626003.out BK608.out (by decide)))) _).trans (hHeld.2.2.2.2.2.2.2.2.2))))⟩ (fun hHeld => ?_)
    clear hK K
    refine pu 21 5 (bl 23 4194303) HT_.out (v := ?_) (a' := ?_) ?_ ?_ ?_
    rotate_left
    ·intro w'
     go_simp
     with_reducible rfl
    rotate_left
    ·simp only [sqa, sqb, sqc, sqd, i64_w, i32_w]
     rfl
    refine pu 22 6 (bl 23 8388607) HT_.out (v := ?_) (a' := ?_) ?_ ?_ ?_
    rotate_left
    ·intro w'
     go_simp
     with_reducible rfl
    rotate_left
    ·simp only [sqa, sqb, sqc, sqd, i64_w, i32_w]
     rfl
    refine done_ (done_of HT_.out (by kernel_rfl)) ?_
    try go_wp2
    refine bodyPost_ret (Go.Proofs.YtigpkicbigpilaaW.PrintWords.results_ctt rfl _ _ gb608 29 #[.slice Ao39 t630.length co39, .slice Ao38 t634.length co38] (0, 0) _ rfl (by (with_reducible repeat (first | refine blk_drewN ?_ _ | refine blk_drew ?_ | refine blk_alloc ?_ _)); refine blk_put (cs := #[.slice Ao39 t630.length co39, .slice none 0 0]) ?_ 1 _ rfl; (with_reducible repeat (first | refine blk_drewN ?_ _ | refine blk_drew ?_ | refine blk_alloc ?_ _)); refine blk_put (cs := #[.slice none 0 0, .slice none 0 0]) ?_ 0 _ rfl; exact bk BK608) Try.underlying29 rfl (by kernel_rfl)) rfl ?_
    exact ⟨_, _, by first | rfl | (simp [errW_none, errW_some] <;> rfl) | (simp [*, errW_none, errW_some] <;> rfl), by (with_reducible repeat (first | apply Kd.R_alloc | apply Kd.R_drewN | apply Kd.R_drew)); exact Kd.R_mono (Kd.R_far (p := ⟨gb608, 1, none⟩) (Kd.R_far (p := ⟨gb608, 0, none⟩) (Kd.R_types HO632.out BK608.out (by decide)) (fun _ hk => hk.2) (.slice Ao39 t630.length co39)) (fun _ hk => hk.2) (.slice Ao38 t634.length co38)) (fun _ hk => hk.1.2), by (with_reducible repeat (first | apply Kd.R_alloc | apply Kd.R_drewN | apply Kd.R_drew)); exact Kd.R_mono (Kd.R_far (p := ⟨gb608, 1, none⟩) (Kd.R_far (p := ⟨gb608, 0, none⟩) (Kd.R_types HO636.out BK608.out (by decide)) (fun _ hk => hk.2) (.slice Ao39 t630.length co39)) (fun _ hk => hk.2) (.slice Ao38 t634.length co38)) (fun _ hk => hk.1.2), bw HB⟩
   rw [if_pos c20] at H
   have c20b0 : decide (x32_1 < (t621.length : Int)) = true := decide_eq_true c20
   clear c20
   by_cases c21 : 0 ≤ x32_1
   rotate_left
   ·rw [if_neg c21] at H
    exact absurd H (by simp)
   rw [if_pos c21] at H
   have c21b0 : decide (0 ≤ x32_1) = true := decide_eq_true c21
   clear c21
   by_cases c22 : x32_1 < (t621.length : Int)
   rotate_left
   ·rw [if_neg c22] at H
    exact absurd H (by simp)
   rw [if_pos c22] at H
   have c22b0 : decide (x32_1 < (t621.length : Int)) = true := decide_eq_true c22
   clear c22
   by_cases c23 : 0 ≤ (rd t621 x32_1)
   rotate_left
   ·rw [if_neg c23] at H
    exact absurd H (by simp)
   rw [if_pos c23] at H
   have c23b0 : decide (0 ≤ (rd t621 x32_1)) = true := decide_eq_true c23
   clear c23
   by_cases c24 : (rd t621 x32_1) < (t618.length : Int)
   rotate_left
   ·rw [if_neg c24] at H
    exact absurd H (by simp)
   rw [if_pos c24] at H
   have c24b0 : decide ((rd t621 x32_1) < (t618.length : Int)) = true := decide_eq_true c24
   clear c24
   by_cases c25 : 0 ≤ x9_1
   rotate_left
   ·rw [if_neg c25] at H
    exact absurd H (by simp)
   rw [if_pos c25] at H
   have c25b0 : decide (0 ≤ x9_1) = true := decide_eq_true c25
   clear c25
   by_cases c26 : x9_1 < (t618.length : Int)
   rotate_left
   ·rw [if_neg c26] at H
    exact absurd H (by simp)
   rw [if_pos c26] at H
   have c26b0 : decide (x9_1 < (t618.length : Int)) = true := decide_eq_true c26
   clear c26
   by_cases c27 : (rd t618 (rd t621 x32_1)) > (rd t618 x9_1)
   rotate_left
   ·rw [if_neg c27] at H
    have c27b0 : decide ((rd t618 x9_1) < (rd t618 (rd t621 x32_1))) = false := decide_eq_false c27
    clear c27
    have H' := Aside0.mk H
    clear H
    have p627 : 0 ≤ (x32_1 : Int) := of_decide_eq_true (by first | (with_reducible assumption) | assumption)
    have q627 : x32_1 < (t621.length : Int) := of_decide_eq_true (by first | (with_reducible assumption) | assumption)
    obtain ⟨ad627, e627, hx627_0⟩ := Kd.at_int (Kd.R_reads' HO_30.out).2.2 x32_1 p627 q627
    obtain rfl : ad626 = ad627 := (by injection e627)
    replace p627 := eq_true p627
    replace q627 := eq_true q627
    try go_wp2
    replace HO_30 := Aside0.mk (Kd.R_drew HO_30.out)
    replace HO_626000 := Aside0.mk (Kd.N_drew HO_626000.out)
    replace HO_626001 := Aside0.mk (Kd.R_drew HO_626001.out)
    replace HO_626002 := Aside0.mk (Kd.R_drew HO_626002.out)
    replace HO_626003 := Aside0.mk (Kd.R_drew HO_626003.out)
    replace HO_626004 := Aside0.mk (Kd.R_drew HO_626004.out)
    replace BK607 := Aside0.mk (blk_drew BK607.out)
    replace BK608 := Aside0.mk (blk_drew BK608.out)
    replace BK625 := Aside0.mk (blk_drew BK625.out)
    replace HB := Aside0.mk (below_drew1 HB.out)
    have p628 : 0 ≤ ((rd t621 x32_1) : Int) := of_decide_eq_true (by first | (with_reducible assumption) | assumption)
    have q628 : (rd t621 x32_1) < (t618.length : Int) := of_decide_eq_true (by first | (with_reducible assumption) | assumption)
    obtain ⟨ad628, e628, hx628_0⟩ := Kd.at_int (Kd.R_reads' HO_626003.out).2.2 (rd t621 x32_1) p628 q628
    cases e628
    replace p628 := eq_true p628
    replace q628 := eq_true q628
    have p629 : 0 ≤ (x9_1 : Int) := of_decide_eq_true (by first | (with_reducible assumption) | assumption)
    have q629 : x9_1 < (t618.length : Int) := of_decide_eq_true (by first | (with_reducible assumption) | assumption)
    obtain ⟨ad629, e629, hx629_0⟩ := Kd.at_int (Kd.R_reads' HO_626003.out).2.2 x9_1 p629 q629
    obtain rfl : ad628 = ad629 := (by injection e629)
    replace p629 := eq_true p629
    replace q629 := eq_true q629
    refine start_ (n := 15) (S := fun w' => w'.cell? ⟨gb625, 0, none⟩ = some (.slice Ao11 t609.length co11) ∧ w'.cell? ⟨gb625, 1, none⟩ = some (.slice Ao12 t612.length co12) ∧ w'.cell? ⟨gb625, 2, none⟩ = some (.slice Ao13 t615.length co13) ∧ w'.cell? ⟨gb625, 3, none⟩ = some (.slice (some ad628) t618.length co14) ∧ w'.cell? ⟨gb625, 4, none⟩ = some (.slice (some ad626) t621.length co15) ∧ w'.cell? (ad628.add ((rd t621 x32_1)).toNat) = some (.int .i64 (rd t618 (rd t621 x32_1))) ∧ w'.cell? (ad628.add (x9_1).toNat) = some (.int .i64 (rd t618 x9_1))) (ds := []) (bl 15 0) (by kernel_rfl) rfl rfl ⟨bc0 BK625, bc1 BK625, bc2 BK625, bc3 BK625, bc4 BK625, hx628_0, hx629_0⟩ (fun hHeld => ?_); refine with_tabW spec_FarthestState.tab8 spec_FarthestState.bits8 (fun HT_ HW_ => ?_)
    generalize wr.drew = w29 at HO_30 HO_626000 HO_626001 HO_626002 HO_626003 HO_626004 BK607 BK608 BK625 HB hx628_0 hx629_0 hHeld ⊢
    refine pu 0 36 (bl 15 1) HT_.out (v := ?_) (a' := ?_) ?_ ?_ ?_
    rotate_left
    ·intro w'
     go_simp
     with_reducible rfl
    rotate_left
    ·simp only [sqa, sqb, sqc, sqd, i64_w, i32_w]
     rfl
    refine pu 1 37 (bl 15 3) HT_.out (v := ?_) (a' := ?_) ?_ ?_ ?_
    rotate_left
    ·intro w'
     go_simp
     with_reducible rfl
    rotate_left
    ·simp only [sqa, sqb, sqc, sqd, i64_w, i32_w]
     rfl
    refine pu 2 38 (bl 15 7) HT_.out (v := ?_) (a' := ?_) ?_ ?_ ?_
    rotate_left
    ·intro w'
     go_simp
     with_reducible rfl
    rotate_left
    ·simp only [sqa, sqb, sqc, sqd, i64_w, i32_w]
     rfl
    refine pu 4 40 (bl 15 23) HT_.out (v := ?_) (a' := ?_) ?_ ?_ ?_
    rotate_left
    ·intro w'
     go_simp
     with_reducible rfl
    rotate_left
    ·simp only [sqa, sqb, sqc, sqd, i64_w, i32_w]
     rfl
    refine pu 7 43 (bl 15 151) HT_.out (v := ?_) (a' := ?_) ?_ ?_ ?_
    rotate_left
    ·intro w'
     go_simp
     with_reducible rfl
    rotate_left
    ·simp only [sqa, sqb, sqc, sqd, i64_w, i32_w]
     rfl
    refine pu 8 44 (bl 15 407) HT_.out (v := ?_) (a' := ?_) ?_ ?_ ?_
    rotate_left
    ·intro w'
     go_simp
     with_reducible rfl
    rotate_left
    ·simp only [sqa, sqb, sqc, sqd, i64_w, i32_w]
     rfl
    refine pu 9 45 (bl 15 919) HT_.out (v := ?_) (a' := ?_) ?_ ?_ ?_
    rotate_left
    ·intro w'
     go_simp
     with_reducible rfl
    rotate_left
    ·simp only [sqa, sqb, sqc, sqd, i64_w, i32_w]
     rfl
    refine pu 11 47 (bl 15 2967) HT_.out (v := ?_) (a' := ?_) ?_ ?_ ?_
    rotate_left
    ·intro w'
     go_simp
     with_reducible rfl
    rotate_left
    ·simp only [sqa, sqb, sqc, sqd, i64_w, i32_w]
     rfl
    refine tk 3 39 (bl 15 2975) HT_.out HW_.out hHeld (v := ?_) (a' := ?_) ?_ ?_ ?_
    rotate_left
    ·rintro w' ⟨s0, s1, s2, s3, s4, s5, s6⟩
     go_simp
     with_reducible rfl
    rotate_left
    ·simp only [sqa, sqb, sqc, sqd, i64_w, i32_w]
     rfl
    refine pu 5 41 (bl 15 3007) HT_.out (v := ?_) (a' := ?_) ?_ ?_ ?_
    rotate_left
    ·intro w'
     go_simp
     with_reducible rfl
    rotate_left
    ·simp only [sqa, sqb, sqc, sqd, i64_w, i32_w]
     rfl
    refine tk 6 42 (bl 15 3071) HT_.out HW_.out hHeld (v := ?_) (a' := ?_) ?_ ?_ ?_
    rotate_left
    ·rintro w' ⟨s0, s1, s2, s3, s4, s5, s6⟩
     go_simp
     with_reducible rfl
    rotate_left
    ·simp only [sqa, sqb, sqc, sqd, i64_w, i32_w]
     rfl
    refine tk 10 46 (bl 15 4095) HT_.out HW_.out hHeld (v := ?_) (a' := ?_) ?_ ?_ ?_
    rotate_left
    ·rintro w' ⟨s0, s1, s2, s3, s4, s5, s6⟩
     go_simp
     with_reducible rfl
    rotate_left
    ·simp only [sqa, sqb, sqc, sqd, i64_w, i32_w]
     rfl
    refine pu 12 48 (bl 15 8191) HT_.out (v := ?_) (a' := ?_) ?_ ?_ ?_
    rotate_left
    ·intro w'
     go_simp
     with_reducible rfl
    rotate_left
    ·simp only [sqa, sqb, sqc, sqd, i64_w, i32_w]
     rfl
    refine tk 13 49 (bl 15 16383) HT_.out HW_.out hHeld (v := ?_) (a' := ?_) ?_ ?_ ?_
    rotate_left
    ·rintro w' ⟨s0, s1, s2, s3, s4, s5, s6⟩
     go_simp
     with_reducible rfl
    rotate_left
    ·simp only [sqa, sqb, sqc, sqd, i64_w, i32_w]
     rfl
    refine pu 14 50 (bl 15 32767) HT_.out (v := ?_) (a' := ?_) ?_ ?_ ?_
    rotate_left
    ·intro w'
     go_simp
     with_reducible rfl
    rotate_left
    ·simp only [sqa, sqb, sqc, sqd, i64_w, i32_w]
     rfl
    refine done_ (done_of HT_.out (by kernel_rfl)) ?_
    try go_wp2
    go_roundg k1
    case measure => have := HK1.out; omega
    case rel => exact ⟨(x9_1), (wrap64 (x32_1 + 1)), (by first | rfl | (simp; done) | (simp [*]; done)), (by first | rfl | (simp; done) | (simp [*]; done)), H', ⟨by have := HK1.out; omega⟩, ⟨rk HO_30⟩, ⟨by (with_reducible repeat (first | apply Kd.N_alloc | apply Kd.N_drewN | apply Kd.N_drew)); exact HO_626000.out⟩, ⟨rk HO_626001⟩, ⟨rk HO_626002⟩, ⟨rk HO_626003⟩, ⟨rk HO_626004⟩, ⟨bk BK607⟩, ⟨bk BK608⟩, ⟨bk BK625⟩, ⟨bw HB⟩⟩
   rw [if_pos c27] at H
   have c27b0 : decide ((rd t618 x9_1) < (rd t618 (rd t621 x32_1))) = true := decide_eq_true c27
   clear c27
   have H' := Aside0.mk H
   clear H
   have p627 : 0 ≤ (x32_1 : Int) := of_decide_eq_true (by first | (with_reducible assumption) | assumption)
   have q627 : x32_1 < (t621.length : Int) := of_decide_eq_true (by first | (with_reducible assumption) | assumption)
   obtain ⟨ad627, e627, hx627_0⟩ := Kd.at_int (Kd.R_reads' HO_30.out).2.2 x32_1 p627 q627
   obtain rfl : ad626 = ad627 := (by injection e627)
   replace p627 := eq_true p627
   replace q627 := eq_true q627
   try go_wp2
   replace HO_30 := Aside0.mk (Kd.R_drew HO_30.out)
   replace HO_626000 := Aside0.mk (Kd.N_drew HO_626000.out)
   replace HO_626001 := Aside0.mk (Kd.R_drew HO_626001.out)
   replace HO_626002 := Aside0.mk (Kd.R_drew HO_626002.out)
   replace HO_626003 := Aside0.mk (Kd.R_drew HO_626003.out)
   replace HO_626004 := Aside0.mk (Kd.R_drew HO_626004.out)
   replace BK607 := Aside0.mk (blk_drew BK607.out)
   replace BK608 := Aside0.mk (blk_drew BK608.out)
   replace BK625 := Aside0.mk (blk_drew BK625.out)
   replace HB := Aside0.mk (below_drew1 HB.out)
   have p628 : 0 ≤ ((rd t621 x32_1) : Int) := of_decide_eq_true (by first | (with_reducible assumption) | assumption)
   have q628 : (rd t621 x32_1) < (t618.length : Int) := of_decide_eq_true (by first | (with_reducible assumption) | assumption)
   obtain ⟨ad628, e628, hx628_0⟩ := Kd.at_int (Kd.R_reads' HO_626003.out).2.2 (rd t621 x32_1) p628 q628
   cases e628
   replace p628 := eq_true p628
   replace q628 := eq_true q628
   have p629 : 0 ≤ (x9_1 : Int) := of_decide_eq_true (by first | (with_reducible assumption) | assumption)
   have q629 : x9_1 < (t618.length : Int) := of_decide_eq_true (by first | (with_reducible assumption) | assumption)
   obtain ⟨ad629, e629, hx629_0⟩ := Kd.at_int (Kd.R_reads' HO_626003.out).2.2 x9_1 p629 q629
   obtain rfl : ad628 = ad629 := (by injection e629)
   replace p629 := eq_true p629
   replace q629 := eq_true q629
   refine start_ (n := 15) (S := fun w' => w'.cell? ⟨gb625, 0, none⟩ = some (.slice Ao11 t609.length co11) ∧ w'.cell? ⟨gb625, 1, none⟩ = some (.slice Ao12 t612.length co12) ∧ w'.cell? ⟨gb625, 2, none⟩ = some (.slice Ao13 t615.length co13) ∧ w'.cell? ⟨gb625, 3, none⟩ = some (.slice (some ad628) t618.length co14) ∧ w'.cell? ⟨gb625, 4, none⟩ = some (.slice (some ad626) t621.length co15) ∧ w'.cell? (ad628.add ((rd t621 x32_1)).toNat) = some (.int .i64 (rd t618 (rd t621 x32_1))) ∧ w'.cell? (ad628.add (x9_1).toNat) = some (.int .i64 (rd t618 x9_1))) (ds := []) (bl 15 0) (by kernel_rfl) rfl rfl ⟨bc0 BK625, bc1 BK625, bc2 BK625, bc3 BK625, bc4 BK625, hx628_0, hx629_0⟩ (fun hHeld => ?_); refine with_tabW spec_FarthestState.tab8 spec_FarthestState.bits8 (fun HT_ HW_ => ?_)
   generalize wr.drew = w28 at HO_30 HO_626000 HO_626001 HO_626002 HO_626003 HO_626004 BK607 BK608 BK625 HB hx628_0 hx629_0 hHeld ⊢
   refine pu 0 36 (bl 15 1) HT_.out (v := ?_) (a' := ?_) ?_ ?_ ?_
   rotate_left
   ·intro w'
    go_simp
    with_reducible rfl
   rotate_left
   ·simp only [sqa, sqb, sqc, sqd, i64_w, i32_w]
    rfl
   refine pu 1 37 (bl 15 3) HT_.out (v := ?_) (a' := ?_) ?_ ?_ ?_
   rotate_left
   ·intro w'
    go_simp
    with_reducible rfl
   rotate_left
   ·simp only [sqa, sqb, sqc, sqd, i64_w, i32_w]
    rfl
   refine pu 2 38 (bl 15 7) HT_.out (v := ?_) (a' := ?_) ?_ ?_ ?_
   rotate_left
   ·intro w'
    go_simp
    with_reducible rfl
   rotate_left
   ·simp only [sqa, sqb, sqc, sqd, i64_w, i32_w]
    rfl
   refine pu 4 40 (bl 15 23) HT_.out (v := ?_) (a' := ?_) ?_ ?_ ?_
   rotate_left
   ·intro w'
    go_simp
    with_reducible rfl
   rotate_left
   ·simp only [sqa, sqb, sqc, sqd, i64_w, i32_w]
    rfl
   refine pu 7 43 (bl 15 151) HT_.out (v := ?_) (a' := ?_) ?_ ?_ ?_
   rotate_left
   ·intro w'
    go_simp
    with_reducible rfl
   rotate_left
   ·simp only [sqa, sqb, sqc, sqd, i64_w, i32_w]
    rfl
   refine pu 8 44 (bl 15 407) HT_.out (v := ?_) (a' := ?_) ?_ ?_ ?_
   rotate_left
   ·intro w'
    go_simp
    with_reducible rfl
   rotate_left
   ·simp only [sqa, sqb, sqc, sqd, i64_w, i32_w]
    rfl
   refine pu 9 45 (bl 15 919) HT_.out (v := ?_) (a' := ?_) ?_ ?_ ?_
   rotate_left
   ·intro w'
    go_simp
    with_reducible rfl
   rotate_left
   ·simp only [sqa, sqb, sqc, sqd, i64_w, i32_w]
    rfl
   refine pu 11 47 (bl 15 2967) HT_.out (v := ?_) (a' := ?_) ?_ ?_ ?_
   rotate_left
   ·intro w'
    go_simp
    with_reducible rfl
   rotate_left
   ·simp only [sqa, sqb, sqc, sqd, i64_w, i32_w]
    rfl
   refine tk 3 39 (bl 15 2975) HT_.out HW_.out hHeld (v := ?_) (a' := ?_) ?_ ?_ ?_
   rotate_left
   ·rintro w' ⟨s0, s1, s2, s3, s4, s5, s6⟩
    go_simp
    with_reducible rfl
   rotate_left
   ·simp only [sqa, sqb, sqc, sqd, i64_w, i32_w]
    rfl
   refine pu 5 41 (bl 15 3007) HT_.out (v := ?_) (a' := ?_) ?_ ?_ ?_
   rotate_left
   ·intro w'
    go_simp
    with_reducible rfl
   rotate_left
   ·simp only [sqa, sqb, sqc, sqd, i64_w, i32_w]
    rfl
   refine tk 6 42 (bl 15 3071) HT_.out HW_.out hHeld (v := ?_) (a' := ?_) ?_ ?_ ?_
   rotate_left
   ·rintro w' ⟨s0, s1, s2, s3, s4, s5, s6⟩
    go_simp
    with_reducible rfl
   rotate_left
   ·simp only [sqa, sqb, sqc, sqd, i64_w, i32_w]
    rfl
   refine tk 10 46 (bl 15 4095) HT_.out HW_.out hHeld (v := ?_) (a' := ?_) ?_ ?_ ?_
   rotate_left
   ·rintro w' ⟨s0, s1, s2, s3, s4, s5, s6⟩
    go_simp
    with_reducible rfl
   rotate_left
   ·simp only [sqa, sqb, sqc, sqd, i64_w, i32_w]
    rfl
   refine pu 12 48 (bl 15 8191) HT_.out (v := ?_) (a' := ?_) ?_ ?_ ?_
   rotate_left
   ·intro w'
    go_simp
    with_reducible rfl
   rotate_left
   ·simp only [sqa, sqb, sqc, sqd, i64_w, i32_w]
    rfl
   refine tk 13 49 (bl 15 16383) HT_.out HW_.out hHeld (v := ?_) (a' := ?_) ?_ ?_ ?_
   rotate_left
   ·rintro w' ⟨s0, s1, s2, s3, s4, s5, s6⟩
    go_simp
    with_reducible rfl
   rotate_left
   ·simp only [sqa, sqb, sqc, sqd, i64_w, i32_w]
    rfl
   refine pu 14 50 (bl 15 32767) HT_.out (v := ?_) (a' := ?_) ?_ ?_ ?_
   rotate_left
   ·intro w'
    go_simp
    with_reducible rfl
   rotate_left
   ·simp only [sqa, sqb, sqc, sqd, i64_w, i32_w]
    rfl
   refine done_ (done_of HT_.out (by kernel_rfl)) ?_
   try go_wp2
   go_roundg k1
   case measure => have := HK1.out; omega
   case rel => exact ⟨(rd t621 x32_1), (wrap64 (x32_1 + 1)), (by first | rfl | (simp; done) | (simp [*]; done)), (by first | rfl | (simp; done) | (simp [*]; done)), H', ⟨by have := HK1.out; omega⟩, ⟨rk HO_30⟩, ⟨by (with_reducible repeat (first | apply Kd.N_alloc | apply Kd.N_drewN | apply Kd.N_drew)); exact HO_626000.out⟩, ⟨rk HO_626001⟩, ⟨rk HO_626002⟩, ⟨rk HO_626003⟩, ⟨rk HO_626004⟩, ⟨bk BK607⟩, ⟨bk BK608⟩, ⟨bk BK625⟩, ⟨bw HB⟩⟩
end Go.Proofs.Ytigpkicbigpilaa.V
