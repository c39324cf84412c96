/- Functions of the specification over all that is reached: as plain functions, and that the calls come to them. -/
import Derived.Test.YtigpkicbigpilaaTfVplQ
import Derived.Test.YtigpkicbigpilaaTfVx4
namespace Go.Proofs.Ytigpkicbigpilaa.V
open Go.RowKit Go.Proofs.YtigpkicbigpilaaW.PrintWords Go.Proofs.YtigpkicbigpilaaW.PrintLast Go.Proofs.YtigpkicbigpilaaW.PrintMore Go.Proofs.Ytigpkicbigpilaa.Sq Go.Proofs.Ytigpkicbigpilaa.Sep
attribute [local go_sem] max2_int min2_int max_two min_two max_three min_three max_four min_four
set_option linter.unusedVariables false
set_option linter.unusedSimpArgs false
mutual
def spec_CountPlans.l0 : Nat → Bool → Int → List Int → Int → Int → List (S29) → List Int → List (S49) → List Int → List Int → Option (Int × Bool)
 | 0, _, _, _, _, _, _, _, _, _, _ => none
 | k + 1, x2, x10, x12, x51, x52, x544000, x544001, x544002, x544003, x544004 => if x52 < x51 then (if 0 ≤ x52 then (if x52 < (x544000.length : Int) then ((spec_veOn.f k ((rd_T29 x544000 x52).f0) ((rd_T29 x544000 x52).f1) x2).bind fun t553 => (spec_CountPlans.l1 k x2 x10 x12 x52 x51 x52 t553 (t553.length : Int) 0 x544000 x544001 x544002 x544003 x544004)) else (none)) else (none)) else (if 0 ≤ x10 then (if x10 < (x544004.length : Int) then (if 0 ≤ (rd x544004 x10) then (if (rd x544004 x10) < (x12.length : Int) then (some (rd x12 (rd x544004 x10), true)) else (none)) else (none)) else (none)) else (none))
def spec_CountPlans.l1 : Nat → Bool → Int → List Int → Int → Int → Int → List (S49) → Int → Int → List (S29) → List Int → List (S49) → List Int → List Int → Option (Int × Bool)
 | 0, _, _, _, _, _, _, _, _, _, _, _, _, _, _ => none
 | k + 1, x2, x10, x12, x13, x51, x52, x63, x64, x65, x544000, x544001, x544002, x544003, x544004 => if x65 < x64 then (if 0 ≤ x65 then (if x65 < (x63.length : Int) then (if 0 ≤ x13 then (if x13 < (x544000.length : Int) then ((spec_veMake.f ((rd_T29 x544000 x13).f0) ((rd_T29 x544000 x13).f1) ((rd_T49 x63 x65).f0) ((rd_T49 x63 x65).f1)).bind fun bt559 => ((spec_plPlace.f k x544000 x544001 x544002 x544003 x544004 bt559.1 bt559.2).bind fun bt565 => (if 0 ≤ bt565.1 then (if bt565.1 < (x544004.length : Int) then (if 0 ≤ (rd x544004 bt565.1) then (if (rd x544004 bt565.1) < (x544003.length : Int) then (if x13 < (x544003.length : Int) then (if (rd x544003 (rd x544004 bt565.1)) = (wrap64 ((rd x544003 x13) + 1)) then (if (rd x544004 bt565.1) < (x12.length : Int) then (if x13 < (x12.length : Int) then (spec_CountPlans.l1 k x2 x10 (x12.set ((rd x544004 bt565.1) : Int).toNat (wrap64 ((rd x12 (rd x544004 bt565.1)) + (rd x12 x13)))) x13 x51 x52 x63 x64 (wrap64 (x65 + 1)) x544000 x544001 x544002 x544003 x544004) else (none)) else (none)) else (spec_CountPlans.l1 k x2 x10 x12 x13 x51 x52 x63 x64 (wrap64 (x65 + 1)) x544000 x544001 x544002 x544003 x544004)) else (none)) else (none)) else (none)) else (none)) else (none)))) else (none)) else (none)) else (none)) else (none)) else (spec_CountPlans.l0 k x2 x10 x12 x51 (wrap64 (x52 + 1)) x544000 x544001 x544002 x544003 x544004)
end
def spec_CountPlans.f (k : Nat) (l0_0 : List Int) (l0_1 : List Int) (l1_0 : List Int) (l1_1 : List Int) (a2 : Bool) : Option (Int × Bool) := (spec_plSizes.f k l0_0 l0_1 l1_0 l1_1).bind fun t526 => (if t526 = true then ((spec_plAll.f k l0_0 l0_1 a2).bind fun bt527 => (if bt527.2.2.2.2.2 = true then ((spec_plPlace.f k bt527.1 bt527.2.1 bt527.2.2.1 bt527.2.2.2.1 bt527.2.2.2.2.1 l1_0 l1_1).bind fun bt544 => (if bt544.2 = true then (if 0 ≤ (bt527.1.length : Int) then (if ((bt527.1.length : Int) : Int).toNat ≤ 35184372088832 then ((some (List.replicate ((bt527.1.length : Int) : Int).toNat 0 : List Int)).bind fun y546 => (if 0 < (y546.length : Int) then (spec_CountPlans.l0 k a2 bt544.1 (y546.set (0 : Int).toNat 1) (bt527.1.length : Int) 0 bt527.1 bt527.2.1 bt527.2.2.1 bt527.2.2.2.1 bt527.2.2.2.2.1) else (none))) else (none)) else (none)) else (some (0, false)))) else (some (0, false)))) else (some (0, false)))
def spec_CountPlans.T17 : Bool × List (List Nat × List Nat) := (true, [([], []), ([], []), ([1], [1]), ([2], [2]), ([3], [3]), ([], []), ([4, 5], [4, 5]), ([6], [6]), ([], []), ([7, 8], [7, 8]), ([0, 9, 9], [0, 9]), ([10], [10]), ([11], [11]), ([11], [11]), ([12, 10, 0, 1, 2, 3, 4, 5, 6, 7, 8, 9, 10, 11, 12], [12]), ([13, 14, 0, 1, 2, 3, 4, 5, 6, 7, 8, 9, 10, 11, 12, 13, 14], [13])])
def spec_CountPlans.B17 : List Nat := [0, 0, 2, 6, 14, 0, 62, 126, 0, 510, 1023, 2047, 4095, 4095, 8191, 32767]
theorem spec_CountPlans.tab17 : rtab .any (opsOf Try.f40 17) = spec_CountPlans.T17 := by kernel_rfl
theorem spec_CountPlans.bits17 : waitsOk spec_CountPlans.T17.2 spec_CountPlans.B17 = true := by kernel_rfl
def spec_CountPlans.T19 : Bool × List (List Nat × List Nat) := (true, [([], []), ([0], [0]), ([1], [1]), ([2], [2]), ([], []), ([3, 4], [3, 4]), ([5], [5]), ([], []), ([7], [7]), ([8], [8]), ([9], [9]), ([], []), ([10, 11], [10, 11]), ([12], [12]), ([13], [13]), ([6, 14], [6, 14])])
def spec_CountPlans.B19 : List Nat := [0, 1, 3, 7, 0, 31, 63, 0, 128, 384, 896, 0, 3968, 8064, 16256, 32767]
theorem spec_CountPlans.tab19 : rtab .any (opsOf Try.f40 19) = spec_CountPlans.T19 := by kernel_rfl
theorem spec_CountPlans.bits19 : waitsOk spec_CountPlans.T19.2 spec_CountPlans.B19 = true := by kernel_rfl
def spec_CountPlans.T20 : Bool × List (List Nat × List Nat) := (true, [([], []), ([], []), ([0, 1], [0, 1]), ([2], [2]), ([], []), ([], []), ([4, 5], [4, 5]), ([6], [6]), ([3, 7], [3, 7]), ([0, 1, 0, 1, 2, 3, 4, 5, 6, 7, 8], [0, 1]), ([9, 8, 0, 1, 2, 3, 4, 5, 6, 7, 8], [8, 9])])
def spec_CountPlans.B20 : List Nat := [0, 0, 3, 7, 0, 0, 48, 112, 255, 511, 1023]
theorem spec_CountPlans.tab20 : rtab .any (opsOf Try.f40 20) = spec_CountPlans.T20 := by kernel_rfl
theorem spec_CountPlans.bits20 : waitsOk spec_CountPlans.T20.2 spec_CountPlans.B20 = true := by kernel_rfl
set_option maxHeartbeats 8000000 in
set_option maxRecDepth 100000 in
theorem spec_CountPlans.calls (k : Nat) (A0_0 : Option Addr) (c0_0 : Nat) (l0_0 : List Int) (A0_1 : Option Addr) (c0_1 : Nat) (l0_1 : List Int) (A1_0 : Option Addr) (c1_0 : Nat) (l1_0 : List Int) (A1_1 : Option Addr) (c1_1 : Nat) (l1_1 : List Int) (a2 : Bool) (r1 : Int) (r2 : Bool) (w : World) (hr0_0 : Kd.C (Kd.int .i64) w A0_0 l0_0.length l0_0) (hc0_0 : l0_0.length ≤ c0_0) (hr0_1 : Kd.C (Kd.int .i64) w A0_1 l0_1.length l0_1) (hc0_1 : l0_1.length ≤ c0_1) (hr1_0 : Kd.C (Kd.int .i64) w A1_0 l1_0.length l1_0) (hc1_0 : l1_0.length ≤ c1_0) (hr1_1 : Kd.C (Kd.int .i64) w A1_1 l1_1.length l1_1) (hc1_1 : l1_1.length ≤ c1_1) (h : spec_CountPlans.f k l0_0 l0_1 l1_0 l1_1 a2 = some (r1, r2)) :
  Calls Try.prog 40 #[.agg #[.slice A0_0 l0_0.length c0_0, .slice A0_1 l0_1.length c0_1], .agg #[.slice A1_0 l1_0.length c1_0, .slice A1_1 l1_1.length c1_1], .bool a2] w fun e w' => e = .returned (.tuple #[.int .i64 r1, .bool r2]) ∧ Below w.heap.size w w' := by
 have hu29 := Try.underlying29
 have hu80 := Try.underlying80
 have hu49 := Try.underlying49
 have HR0_0 := Aside0.mk hr0_0
 have HC0_0 := Aside0.mk hc0_0
 clear hr0_0 hc0_0
 have HR0_1 := Aside0.mk hr0_1
 have HC0_1 := Aside0.mk hc0_1
 clear hr0_1 hc0_1
 have HR1_0 := Aside0.mk hr1_0
 have HC1_0 := Aside0.mk hc1_0
 clear hr1_0 hc1_0
 have HR1_1 := Aside0.mk hr1_1
 have HC1_1 := Aside0.mk hc1_1
 clear hr1_1 hc1_1
 have HB := Aside0.mk (Below.refl w.heap.size w)
 have H : ((spec_plSizes.f k l0_0 l0_1 l1_0 l1_1).bind fun t526 => (if t526 = true then ((spec_plAll.f k l0_0 l0_1 a2).bind fun bt527 => (if bt527.2.2.2.2.2 = true then ((spec_plPlace.f k bt527.1 bt527.2.1 bt527.2.2.1 bt527.2.2.2.1 bt527.2.2.2.2.1 l1_0 l1_1).bind fun bt544 => (if bt544.2 = true then (if 0 ≤ (bt527.1.length : Int) then (if ((bt527.1.length : Int) : Int).toNat ≤ 35184372088832 then ((some (List.replicate ((bt527.1.length : Int) : Int).toNat 0 : List Int)).bind fun y546 => (if 0 < (y546.length : Int) then (spec_CountPlans.l0 k a2 bt544.1 (y546.set (0 : Int).toNat 1) (bt527.1.length : Int) 0 bt527.1 bt527.2.1 bt527.2.2.1 bt527.2.2.2.1 bt527.2.2.2.2.1) else (none))) else (none)) else (none)) else (some (0, false)))) else (some (0, false)))) else (some (0, false)))) = some (r1, r2) := h
 clear h
 replace H := Option.bind_eq_some_iff.mp H
 obtain ⟨t526, A40, H⟩ := H
 (try dsimp only at H)
 have A4 := Aside0.mk A40
 clear A40
 by_cases c5 : t526 = true
 rotate_left
 ·replace c5 := Bool.eq_false_iff.mpr c5
  subst c5
  have H1 : (some (0, false)) = some (r1, r2) := by rw [if_neg (show ¬ (false = true) by decide)] at H; exact H
  clear H
  have H := H1
  clear H1
  simp only [Option.some.injEq, Prod.mk.injEq] at H
  obtain ⟨rfl, rfl⟩ := H
  go_enter Try.func40, Try.ntmps40
  go_wp2_with (first | ((with_reducible refine gate_dst (N := 3) rfl ?_); refine bx 3 #[.slice A0_0 l0_0.length c0_0, .slice A0_1 l0_1.length c0_1] 29 ?_; intro gb524 hg w136 hbox hb; have BK524 := Aside0.mk (hbox); have GW524 := ge HB hg; have GE524 := ge HB hg; replace HB := bs HB hb; clear hb hbox hg) | ((with_reducible refine gate_dst (N := 4) rfl ?_); refine bx 4 #[.slice A1_0 l1_0.length c1_0, .slice A1_1 l1_1.length c1_1] 29 ?_; intro gb525 hg w137 hbox hb; have BK525 := Aside0.mk (hbox); have GW525 := ge HB hg; have GE525 := ge HB hg; replace HB := bs HB hb; have NB524_525 := nl BK524 hg; have NB525_524 := nr BK524 hg; replace BK524 := bb BK524 hb; clear hb hbox hg; have hnb138 := NB524_525.out; have hnc138 := NB525_524.out; have hcz139_0 := bc0 BK524; have hcz139_1 := bc1 BK524; have hfz139_0 := blk_frozen BK524.out 0; have hfz139_1 := blk_frozen BK524.out 1; have hcz140_0 := bc0 BK525; have hcz140_1 := bc1 BK525; have hfz140_0 := blk_frozen BK525.out 0; have hfz140_1 := blk_frozen BK525.out 1) | ((with_reducible refine gate_callee (f := 65) rfl ?_); refine gl 21 Try.func65 #[.agg #[.slice A0_0 l0_0.length c0_0, .slice A0_1 l0_1.length c0_1], .agg #[.slice A1_0 l1_0.length c1_0, .slice A1_1 l1_1.length c1_1]] ?_; (with_reducible refine (spec_plSizes.calls k _ _ l0_0 _ _ l0_1 _ _ l1_0 _ _ l1_1 false _ ?side1 ?side2 ?side3 ?side4 ?side5 ?side6 ?side7 ?side8 A4.out).mono ?_); (case side1 => exact ck HR0_0 HB); (case side2 => exact HC0_0.out); (case side3 => exact ck HR0_1 HB); (case side4 => exact HC0_1.out); (case side5 => exact ck HR1_0 HB); (case side6 => exact HC1_0.out); (case side7 => exact ck HR1_1 HB); (case side8 => exact HC1_1.out); rintro e w141 ⟨rfl, hb⟩; refine ⟨_, rfl, ?_⟩; replace BK524 := bb BK524 hb; replace BK525 := bb BK525 hb; replace HB := bs HB hb; (try clear hb)))
  go_ret2
  exact ⟨by first | rfl | (simp [errW_none, errW_some] <;> rfl) | (simp [*, errW_none, errW_some] <;> rfl), bw HB⟩
 subst c5
 have H1 : ((spec_plAll.f k l0_0 l0_1 a2).bind fun bt527 => (if bt527.2.2.2.2.2 = true then ((spec_plPlace.f k bt527.1 bt527.2.1 bt527.2.2.1 bt527.2.2.2.1 bt527.2.2.2.2.1 l1_0 l1_1).bind fun bt544 => (if bt544.2 = true then (if 0 ≤ (bt527.1.length : Int) then (if ((bt527.1.length : Int) : Int).toNat ≤ 35184372088832 then ((some (List.replicate ((bt527.1.length : Int) : Int).toNat 0 : List Int)).bind fun y546 => (if 0 < (y546.length : Int) then (spec_CountPlans.l0 k a2 bt544.1 (y546.set (0 : Int).toNat 1) (bt527.1.length : Int) 0 bt527.1 bt527.2.1 bt527.2.2.1 bt527.2.2.2.1 bt527.2.2.2.2.1) else (none))) else (none)) else (none)) else (some (0, false)))) else (some (0, false)))) = some (r1, r2) := by rw [if_pos rfl] at H; exact H
 clear H
 have H := H1
 clear H1
 replace H := Option.bind_eq_some_iff.mp H
 obtain ⟨⟨t527, t530, t533, t536, t539, t542⟩, A60, H⟩ := H
 (try dsimp only at H)
 have A6 := Aside0.mk A60
 clear A60
 by_cases c7 : t542 = true
 rotate_left
 ·replace c7 := Bool.eq_false_iff.mpr c7
  subst c7
  have H1 : (some (0, false)) = some (r1, r2) := by rw [if_neg (show ¬ (false = true) by decide)] at H; exact H
  clear H
  have H := H1
  clear H1
  simp only [Option.some.injEq, Prod.mk.injEq] at H
  obtain ⟨rfl, rfl⟩ := H
  go_enter Try.func40, Try.ntmps40
  go_wp2_with (first | ((with_reducible refine gate_dst (N := 3) rfl ?_); refine bx 3 #[.slice A0_0 l0_0.length c0_0, .slice A0_1 l0_1.length c0_1] 29 ?_; intro gb524 hg w122 hbox hb; have BK524 := Aside0.mk (hbox); have GW524 := ge HB hg; have GE524 := ge HB hg; replace HB := bs HB hb; clear hb hbox hg) | ((with_reducible refine gate_dst (N := 4) rfl ?_); refine bx 4 #[.slice A1_0 l1_0.length c1_0, .slice A1_1 l1_1.length c1_1] 29 ?_; intro gb525 hg w123 hbox hb; have BK525 := Aside0.mk (hbox); have GW525 := ge HB hg; have GE525 := ge HB hg; replace HB := bs HB hb; have NB524_525 := nl BK524 hg; have NB525_524 := nr BK524 hg; replace BK524 := bb BK524 hb; clear hb hbox hg; have hnb124 := NB524_525.out; have hnc124 := NB525_524.out; have hcz125_0 := bc0 BK524; have hcz125_1 := bc1 BK524; have hfz125_0 := blk_frozen BK524.out 0; have hfz125_1 := blk_frozen BK524.out 1; have hcz126_0 := bc0 BK525; have hcz126_1 := bc1 BK525; have hfz126_0 := blk_frozen BK525.out 0; have hfz126_1 := blk_frozen BK525.out 1) | ((with_reducible refine gate_callee (f := 65) rfl ?_); refine gl 21 Try.func65 #[.agg #[.slice A0_0 l0_0.length c0_0, .slice A0_1 l0_1.length c0_1], .agg #[.slice A1_0 l1_0.length c1_0, .slice A1_1 l1_1.length c1_1]] ?_; (with_reducible refine (spec_plSizes.calls k _ _ l0_0 _ _ l0_1 _ _ l1_0 _ _ l1_1 true _ ?side1 ?side2 ?side3 ?side4 ?side5 ?side6 ?side7 ?side8 A4.out).mono ?_); (case side1 => exact ck HR0_0 HB); (case side2 => exact HC0_0.out); (case side3 => exact ck HR0_1 HB); (case side4 => exact HC0_1.out); (case side5 => exact ck HR1_0 HB); (case side6 => exact HC1_0.out); (case side7 => exact ck HR1_1 HB); (case side8 => exact HC1_1.out); rintro e w127 ⟨rfl, hb⟩; refine ⟨_, rfl, ?_⟩; replace BK524 := bb BK524 hb; replace BK525 := bb BK525 hb; replace HB := bs HB hb; (try clear hb); have hcz128_0 := bc0 BK524; have hcz128_1 := bc1 BK524; have hfz128_0 := blk_frozen BK524.out 0; have hfz128_1 := blk_frozen BK524.out 1) | ((with_reducible refine gate_callee (f := 66) rfl ?_); refine gl 26 Try.func66 #[.agg #[.slice A0_0 l0_0.length c0_0, .slice A0_1 l0_1.length c0_1], .bool a2] ?_; (with_reducible refine (spec_plAll.callsP k (fun k_ => k_ < w.heap.size) _ _ l0_0 _ _ l0_1 a2 t527 t530 t533 t536 t539 false _ ?side1 ?side2 ?side3 A6.out).mono ?_); (case side1 => exact foot_and (Kd.F_below (Kd.C_F (Kd.heap_int .i64) HR0_0.out) (bw HB)) (Kd.F_below (Kd.C_F (Kd.heap_int .i64) HR0_1.out) (bw HB))); (case side2 => exact HC0_0.out); (case side3 => exact HC0_1.out); rintro e w135 ⟨p_, rfl, hq_, hb⟩; refine ⟨_, rfl, ?_⟩; replace BK524 := bb BK524 hb; replace BK525 := bb BK525 hb; replace HB := bs HB hb; (try clear hb); clear hq_))
  go_ret2
  exact ⟨by first | rfl | (simp [errW_none, errW_some] <;> rfl) | (simp [*, errW_none, errW_some] <;> rfl), bw HB⟩
 subst c7
 have H1 : ((spec_plPlace.f k t527 t530 t533 t536 t539 l1_0 l1_1).bind fun bt544 => (if bt544.2 = true then (if 0 ≤ (t527.length : Int) then (if ((t527.length : Int) : Int).toNat ≤ 35184372088832 then ((some (List.replicate ((t527.length : Int) : Int).toNat 0 : List Int)).bind fun y546 => (if 0 < (y546.length : Int) then (spec_CountPlans.l0 k a2 bt544.1 (y546.set (0 : Int).toNat 1) (t527.length : Int) 0 t527 t530 t533 t536 t539) else (none))) else (none)) else (none)) else (some (0, false)))) = some (r1, r2) := by rw [if_pos rfl] at H; exact H
 clear H
 have H := H1
 clear H1
 replace H := Option.bind_eq_some_iff.mp H
 obtain ⟨⟨t544, t545⟩, A80, H⟩ := H
 (try dsimp only at H)
 have A8 := Aside0.mk A80
 clear A80
 by_cases c9 : t545 = true
 rotate_left
 ·replace c9 := Bool.eq_false_iff.mpr c9
  subst c9
  have H1 : (some (0, false)) = some (r1, r2) := by rw [if_neg (show ¬ (false = true) by decide)] at H; exact H
  clear H
  have H := H1
  clear H1
  simp only [Option.some.injEq, Prod.mk.injEq] at H
  obtain ⟨rfl, rfl⟩ := H
  go_enter Try.func40, Try.ntmps40
  go_wp2_with (first | ((with_reducible refine gate_dst (N := 3) rfl ?_); refine bx 3 #[.slice A0_0 l0_0.length c0_0, .slice A0_1 l0_1.length c0_1] 29 ?_; intro gb524 hg w103 hbox hb; have BK524 := Aside0.mk (hbox); have GW524 := ge HB hg; have GE524 := ge HB hg; replace HB := bs HB hb; clear hb hbox hg) | ((with_reducible refine gate_dst (N := 4) rfl ?_); refine bx 4 #[.slice A1_0 l1_0.length c1_0, .slice A1_1 l1_1.length c1_1] 29 ?_; intro gb525 hg w104 hbox hb; have BK525 := Aside0.mk (hbox); have GW525 := ge HB hg; have GE525 := ge HB hg; replace HB := bs HB hb; have NB524_525 := nl BK524 hg; have NB525_524 := nr BK524 hg; replace BK524 := bb BK524 hb; clear hb hbox hg; have hnb105 := NB524_525.out; have hnc105 := NB525_524.out; have hcz106_0 := bc0 BK524; have hcz106_1 := bc1 BK524; have hfz106_0 := blk_frozen BK524.out 0; have hfz106_1 := blk_frozen BK524.out 1; have hcz107_0 := bc0 BK525; have hcz107_1 := bc1 BK525; have hfz107_0 := blk_frozen BK525.out 0; have hfz107_1 := blk_frozen BK525.out 1) | ((with_reducible refine gate_callee (f := 65) rfl ?_); refine gl 21 Try.func65 #[.agg #[.slice A0_0 l0_0.length c0_0, .slice A0_1 l0_1.length c0_1], .agg #[.slice A1_0 l1_0.length c1_0, .slice A1_1 l1_1.length c1_1]] ?_; (with_reducible refine (spec_plSizes.calls k _ _ l0_0 _ _ l0_1 _ _ l1_0 _ _ l1_1 true _ ?side1 ?side2 ?side3 ?side4 ?side5 ?side6 ?side7 ?side8 A4.out).mono ?_); (case side1 => exact ck HR0_0 HB); (case side2 => exact HC0_0.out); (case side3 => exact ck HR0_1 HB); (case side4 => exact HC0_1.out); (case side5 => exact ck HR1_0 HB); (case side6 => exact HC1_0.out); (case side7 => exact ck HR1_1 HB); (case side8 => exact HC1_1.out); rintro e w108 ⟨rfl, hb⟩; refine ⟨_, rfl, ?_⟩; replace BK524 := bb BK524 hb; replace BK525 := bb BK525 hb; replace HB := bs HB hb; (try clear hb); have hcz109_0 := bc0 BK524; have hcz109_1 := bc1 BK524; have hfz109_0 := blk_frozen BK524.out 0; have hfz109_1 := blk_frozen BK524.out 1) | ((with_reducible refine gate_callee (f := 66) rfl ?_); refine gl 26 Try.func66 #[.agg #[.slice A0_0 l0_0.length c0_0, .slice A0_1 l0_1.length c0_1], .bool a2] ?_; (with_reducible refine (spec_plAll.callsP k (fun k_ => k_ < w.heap.size) _ _ l0_0 _ _ l0_1 a2 t527 t530 t533 t536 t539 true _ ?side1 ?side2 ?side3 A6.out).mono ?_); (case side1 => exact foot_and (Kd.F_below (Kd.C_F (Kd.heap_int .i64) HR0_0.out) (bw HB)) (Kd.F_below (Kd.C_F (Kd.heap_int .i64) HR0_1.out) (bw HB))); (case side2 => exact HC0_0.out); (case side3 => exact HC0_1.out); rintro e w116 ⟨p_, rfl, hq_, hb⟩; obtain ⟨gb543, v528, v531, v534, v537, v540, rfl, hge_, hbox_, ho0, ho1, ho2, ho3, ho4⟩ := hq_ rfl; refine ⟨_, rfl, ?_⟩; have HO529 := Aside0.mk (Kd.N_lower (Kd.N_mono (ok' := fun k_ => (some k_ ≠ (v531 : Value).ownBlock ∧ some k_ ≠ (v534 : Value).ownBlock ∧ some k_ ≠ (v537 : Value).ownBlock ∧ some k_ ≠ (v540 : Value).ownBlock ∧ k_ ≠ gb524 ∧ k_ ≠ gb525) ∧ k_ ≠ gb543) ho0 (fun k_ hk_ => ⟨⟨hk_.2.1, hk_.2.2.1, hk_.2.2.2.1, hk_.2.2.2.2.1, Or.elim hk_.1 (fun hs_ => fun e_ => Nat.not_le.2 hs_ (by rw [e_]; exact GW524.out)) (fun hn_ => (Kd.freshB (g := gb524) (o := .cells #[.slice A0_0 l0_0.length c0_0, .slice A0_1 l0_1.length c0_1] 29 (0, 0)) (bk BK524) k_ hn_)), Or.elim hk_.1 (fun hs_ => fun e_ => Nat.not_le.2 hs_ (by rw [e_]; exact GW525.out)) (fun hn_ => (Kd.freshB (g := gb525) (o := .cells #[.slice A1_0 l1_0.length c1_0, .slice A1_1 l1_1.length c1_1] 29 (0, 0)) (bk BK525) k_ hn_))⟩, hk_.2.2.2.2.2⟩)) (below_size (bw HB))); have HO532 := Aside0.mk (Kd.R_lower (Kd.R_mono (ok' := fun k_ => some k_ ≠ (v537 : Value).ownBlock ∧ some k_ ≠ (v540 : Value).ownBlock) ho1 (fun _ hk_ => hk_.2)) (below_size (bw HB))); have HO535 := Aside0.mk (Kd.R_lower (Kd.R_mono (ok' := fun k_ => True) ho2 (fun _ hk_ => trivial)) (below_size (bw HB))); have HO538 := Aside0.mk (Kd.R_lower (Kd.R_mono (ok' := fun k_ => some k_ ≠ (v531 : Value).ownBlock ∧ some k_ ≠ (v540 : Value).ownBlock) ho3 (fun _ hk_ => hk_.2)) (below_size (bw HB))); have HO541 := Aside0.mk (Kd.R_lower (Kd.R_mono (ok' := fun k_ => some k_ ≠ (v531 : Value).ownBlock ∧ some k_ ≠ (v537 : Value).ownBlock) ho4 (fun _ hk_ => hk_.2)) (below_size (bw HB))); have GW543 := ge' HB hge_; have GE543 := ge' HB hge_; have NB524_543 := nl' BK524 hge_; have NB543_524 := nr' BK524 hge_; have NB525_543 := nl' BK525 hge_; have NB543_525 := nr' BK525 hge_; replace BK524 := bb BK524 hb; replace BK525 := bb BK525 hb; replace HB := bs HB hb; (try clear hb); (try clear ho0); (try clear ho1); (try clear ho2); (try clear ho3); (try clear ho4); have BK543 := Aside0.mk hbox_; clear hbox_ hge_ hq_; obtain ⟨Ao111, co111, eo111⟩ := Kd.N_slice HO529.out; subst eo111; obtain ⟨Ao112, co112, eo112⟩ := Kd.R_slice HO532.out; subst eo112; obtain ⟨Ao113, co113, eo113⟩ := Kd.R_slice HO535.out; subst eo113; obtain ⟨Ao114, co114, eo114⟩ := Kd.R_slice HO538.out; subst eo114; obtain ⟨Ao115, co115, eo115⟩ := Kd.R_slice HO541.out; subst eo115; have hnb117 := NB543_524.out; have hnc117 := NB524_543.out; have hnb118 := NB543_525.out; have hnc118 := NB525_543.out; have hcz119_0 := bc0 BK543; have hcz119_1 := bc1 BK543; have hcz119_2 := bc2 BK543; have hcz119_3 := bc3 BK543; have hcz119_4 := bc4 BK543; have hfz119_0 := blk_frozen BK543.out 0; have hfz119_1 := blk_frozen BK543.out 1; have hfz119_2 := blk_frozen BK543.out 2; have hfz119_3 := blk_frozen BK543.out 3; have hfz119_4 := blk_frozen BK543.out 4; have hcz120_0 := bc0 BK525; have hcz120_1 := bc1 BK525; have hfz120_0 := blk_frozen BK525.out 0; have hfz120_1 := blk_frozen BK525.out 1) | ((with_reducible refine gate_callee (f := 67) rfl ?_); refine gl 34 Try.func67 #[.pointer (some ⟨gb543, 0, none⟩), .agg #[.slice A1_0 l1_0.length c1_0, .slice A1_1 l1_1.length c1_1]] ?_; (with_reducible refine (spec_plPlace.calls k Ao111 co111 t527 Ao112 co112 t530 Ao113 co113 t533 Ao114 co114 t536 Ao115 co115 t539 _ _ l1_0 _ _ l1_1 t544 false _ gb543 ?side0 ?side1 ?side2 ?side3 ?side4 ?side5 ?side6 ?side7 ?side8 ?side9 ?side10 ?side11 ?side12 ?side13 ?side14 A8.out).mono ?_); (case side0 => exact bk BK543); (case side1 => repeat (first | exact (Kd.N_reads' HO529.out).2.2 | (with_reducible refine Kd.C_alloc ?_ _) | (with_reducible refine Kd.C_drewN ?_ _) | (with_reducible refine Kd.C_drew ?_))); (case side2 => exact (Kd.N_reads' HO529.out).2.1); (case side3 => exact cr HO532); (case side4 => exact (Kd.R_reads' HO532.out).2.1); (case side5 => exact cr HO535); (case side6 => exact (Kd.R_reads' HO535.out).2.1); (case side7 => exact cr HO538); (case side8 => exact (Kd.R_reads' HO538.out).2.1); (case side9 => exact cr HO541); (case side10 => exact (Kd.R_reads' HO541.out).2.1); (case side11 => exact ck HR1_0 HB); (case side12 => exact HC1_0.out); (case side13 => exact ck HR1_1 HB); (case side14 => exact HC1_1.out); rintro e w121 ⟨rfl, hb⟩; refine ⟨_, rfl, ?_⟩; replace HO529 := Aside0.mk (Kd.N_below HO529.out hb); replace HO532 := rb HO532 hb; replace HO535 := rb HO535 hb; replace HO538 := rb HO538 hb; replace HO541 := rb HO541 hb; replace BK524 := bb BK524 hb; replace BK525 := bb BK525 hb; replace BK543 := bb BK543 hb; replace HB := bs HB hb; (try clear hb)))
  go_ret2
  exact ⟨by first | rfl | (simp [errW_none, errW_some] <;> rfl) | (simp [*, errW_none, errW_some] <;> rfl), bw HB⟩
 subst c9
 have H1 : (if 0 ≤ (t527.length : Int) then (if ((t527.length : Int) : Int).toNat ≤ 35184372088832 then ((some (List.replicate ((t527.length : Int) : Int).toNat 0 : List Int)).bind fun y546 => (if 0 < (y546.length : Int) then (spec_CountPlans.l0 k a2 t544 (y546.set (0 : Int).toNat 1) (t527.length : Int) 0 t527 t530 t533 t536 t539) else (none))) else (none)) else (none)) = some (r1, r2) := by rw [if_pos rfl] at H; exact H
 clear H
 have H := H1
 clear H1
 by_cases c10 : 0 ≤ (t527.length : Int)
 rotate_left
 ·rw [if_neg c10] at H
  exact absurd H (by simp)
 rw [if_pos c10] at H
 have c10b0 := eq_true c10
 have c10b1 : decide (0 ≤ (t527.length : Int)) = true := decide_eq_true c10
 clear c10
 by_cases c11 : ((t527.length : Int) : Int).toNat ≤ 35184372088832
 rotate_left
 ·rw [if_neg c11] at H
  exact absurd H (by simp)
 rw [if_pos c11] at H
 have c11b0 := eq_true c11
 have c11b1 : decide (((t527.length : Int) : Int).toNat ≤ 35184372088832) = true := decide_eq_true c11
 clear c11
 obtain ⟨y546, hy546⟩ : ∃ y_ : List Int, y_ = (List.replicate ((t527.length : Int) : Int).toNat 0) := ⟨_, rfl⟩
 replace H : (if 0 < (y546.length : Int) then (spec_CountPlans.l0 k a2 t544 (y546.set (0 : Int).toNat 1) (t527.length : Int) 0 t527 t530 t533 t536 t539) else (none)) = some (r1, r2) := by first | (rw [hy546]; with_reducible exact H) | (have H2_ := (Option.bind_some _ _).symm.trans H; rw [hy546]; with_reducible exact H2_) | (have H2_ := (Option.bind_some _ _).symm.trans H; with_reducible exact H2_) | with_reducible exact H | (rw [hy546]; exact H) | exact H
 have Ny546 := Aside0.mk hy546
 clear hy546
 by_cases c12 : 0 < (y546.length : Int)
 rotate_left
 ·rw [if_neg c12] at H
  exact absurd H (by simp)
 rw [if_pos c12] at H
 have c12b0 : decide (0 < (y546.length : Int)) = true := decide_eq_true c12
 have c12b1 : decide (0 < y546.length) = true := decide_eq_true (by omega)
 clear c12
 obtain ⟨y549, hy549⟩ : ∃ y_ : List Int, y_ = (y546.set (0 : Int).toNat 1) := ⟨_, rfl⟩
 replace H : (spec_CountPlans.l0 k a2 t544 y549 (t527.length : Int) 0 t527 t530 t533 t536 t539) = some (r1, r2) := by first | (rw [hy549]; with_reducible exact H) | (have H2_ := (Option.bind_some _ _).symm.trans H; rw [hy549]; with_reducible exact H2_) | (have H2_ := (Option.bind_some _ _).symm.trans H; with_reducible exact H2_) | with_reducible exact H | (rw [hy549]; exact H) | exact H
 have Ny549 := Aside0.mk hy549
 clear hy549
 have H' := Aside0.mk H
 clear H
 go_enter Try.func40, Try.ntmps40
 go_wp2_with (first | ((with_reducible refine gate_dst (N := 3) rfl ?_); refine bx 3 #[.slice A0_0 l0_0.length c0_0, .slice A0_1 l0_1.length c0_1] 29 ?_; intro gb524 hg w14 hbox hb; have BK524 := Aside0.mk (hbox); have GW524 := ge HB hg; have GE524 := ge HB hg; replace HB := bs HB hb; clear hb hbox hg) | ((with_reducible refine gate_dst (N := 4) rfl ?_); refine bx 4 #[.slice A1_0 l1_0.length c1_0, .slice A1_1 l1_1.length c1_1] 29 ?_; intro gb525 hg w15 hbox hb; have BK525 := Aside0.mk (hbox); have GW525 := ge HB hg; have GE525 := ge HB hg; replace HB := bs HB hb; have NB524_525 := nl BK524 hg; have NB525_524 := nr BK524 hg; replace BK524 := bb BK524 hb; clear hb hbox hg; have hnb16 := NB524_525.out; have hnc16 := NB525_524.out; have hcz17_0 := bc0 BK524; have hcz17_1 := bc1 BK524; have hfz17_0 := blk_frozen BK524.out 0; have hfz17_1 := blk_frozen BK524.out 1; have hcz18_0 := bc0 BK525; have hcz18_1 := bc1 BK525; have hfz18_0 := blk_frozen BK525.out 0; have hfz18_1 := blk_frozen BK525.out 1) | ((with_reducible refine gate_callee (f := 65) rfl ?_); refine gl 21 Try.func65 #[.agg #[.slice A0_0 l0_0.length c0_0, .slice A0_1 l0_1.length c0_1], .agg #[.slice A1_0 l1_0.length c1_0, .slice A1_1 l1_1.length c1_1]] ?_; (with_reducible refine (spec_plSizes.calls k _ _ l0_0 _ _ l0_1 _ _ l1_0 _ _ l1_1 true _ ?side1 ?side2 ?side3 ?side4 ?side5 ?side6 ?side7 ?side8 A4.out).mono ?_); (case side1 => exact ck HR0_0 HB); (case side2 => exact HC0_0.out); (case side3 => exact ck HR0_1 HB); (case side4 => exact HC0_1.out); (case side5 => exact ck HR1_0 HB); (case side6 => exact HC1_0.out); (case side7 => exact ck HR1_1 HB); (case side8 => exact HC1_1.out); rintro e w19 ⟨rfl, hb⟩; refine ⟨_, rfl, ?_⟩; replace BK524 := bb BK524 hb; replace BK525 := bb BK525 hb; replace HB := bs HB hb; (try clear hb); have hcz20_0 := bc0 BK524; have hcz20_1 := bc1 BK524; have hfz20_0 := blk_frozen BK524.out 0; have hfz20_1 := blk_frozen BK524.out 1) | ((with_reducible refine gate_callee (f := 66) rfl ?_); refine gl 26 Try.func66 #[.agg #[.slice A0_0 l0_0.length c0_0, .slice A0_1 l0_1.length c0_1], .bool a2] ?_; (with_reducible refine (spec_plAll.callsP k (fun k_ => k_ < w.heap.size) _ _ l0_0 _ _ l0_1 a2 t527 t530 t533 t536 t539 true _ ?side1 ?side2 ?side3 A6.out).mono ?_); (case side1 => exact foot_and (Kd.F_below (Kd.C_F (Kd.heap_int .i64) HR0_0.out) (bw HB)) (Kd.F_below (Kd.C_F (Kd.heap_int .i64) HR0_1.out) (bw HB))); (case side2 => exact HC0_0.out); (case side3 => exact HC0_1.out); rintro e w27 ⟨p_, rfl, hq_, hb⟩; obtain ⟨gb543, v528, v531, v534, v537, v540, rfl, hge_, hbox_, ho0, ho1, ho2, ho3, ho4⟩ := hq_ rfl; refine ⟨_, rfl, ?_⟩; have HO529 := Aside0.mk (Kd.N_lower (Kd.N_mono (ok' := fun k_ => (some k_ ≠ (v531 : Value).ownBlock ∧ some k_ ≠ (v534 : Value).ownBlock ∧ some k_ ≠ (v537 : Value).ownBlock ∧ some k_ ≠ (v540 : Value).ownBlock ∧ k_ ≠ gb524 ∧ k_ ≠ gb525) ∧ k_ ≠ gb543) ho0 (fun k_ hk_ => ⟨⟨hk_.2.1, hk_.2.2.1, hk_.2.2.2.1, hk_.2.2.2.2.1, Or.elim hk_.1 (fun hs_ => fun e_ => Nat.not_le.2 hs_ (by rw [e_]; exact GW524.out)) (fun hn_ => (Kd.freshB (g := gb524) (o := .cells #[.slice A0_0 l0_0.length c0_0, .slice A0_1 l0_1.length c0_1] 29 (0, 0)) (bk BK524) k_ hn_)), Or.elim hk_.1 (fun hs_ => fun e_ => Nat.not_le.2 hs_ (by rw [e_]; exact GW525.out)) (fun hn_ => (Kd.freshB (g := gb525) (o := .cells #[.slice A1_0 l1_0.length c1_0, .slice A1_1 l1_1.length c1_1] 29 (0, 0)) (bk BK525) k_ hn_))⟩, hk_.2.2.2.2.2⟩)) (below_size (bw HB))); have HO532 := Aside0.mk (Kd.R_lower (Kd.R_mono (ok' := fun k_ => some k_ ≠ (v537 : Value).ownBlock ∧ some k_ ≠ (v540 : Value).ownBlock) ho1 (fun _ hk_ => hk_.2)) (below_size (bw HB))); have HO535 := Aside0.mk (Kd.R_lower (Kd.R_mono (ok' := fun k_ => True) ho2 (fun _ hk_ => trivial)) (below_size (bw HB))); have HO538 := Aside0.mk (Kd.R_lower (Kd.R_mono (ok' := fun k_ => some k_ ≠ (v531 : Value).ownBlock ∧ some k_ ≠ (v540 : Value).ownBlock) ho3 (fun _ hk_ => hk_.2)) (below_size (bw HB))); have HO541 := Aside0.mk (Kd.R_lower (Kd.R_mono (ok' := fun k_ => some k_ ≠ (v531 : Value).ownBlock ∧ some k_ ≠ (v537 : Value).ownBlock) ho4 (fun _ hk_ => hk_.2)) (below_size (bw HB))); have GW543 := ge' HB hge_; have GE543 := ge' HB hge_; have NB524_543 := nl' BK524 hge_; have NB543_524 := nr' BK524 hge_; have NB525_543 := nl' BK525 hge_; have NB543_525 := nr' BK525 hge_; replace BK524 := bb BK524 hb; replace BK525 := bb BK525 hb; replace HB := bs HB hb; (try clear hb); (try clear ho0); (try clear ho1); (try clear ho2); (try clear ho3); (try clear ho4); have BK543 := Aside0.mk hbox_; clear hbox_ hge_ hq_; obtain ⟨Ao22, co22, eo22⟩ := Kd.N_slice HO529.out; subst eo22; obtain ⟨Ao23, co23, eo23⟩ := Kd.R_slice HO532.out; subst eo23; obtain ⟨Ao24, co24, eo24⟩ := Kd.R_slice HO535.out; subst eo24; obtain ⟨Ao25, co25, eo25⟩ := Kd.R_slice HO538.out; subst eo25; obtain ⟨Ao26, co26, eo26⟩ := Kd.R_slice HO541.out; subst eo26; have hnb28 := NB543_524.out; have hnc28 := NB524_543.out; have hnb29 := NB543_525.out; have hnc29 := NB525_543.out; have hcz30_0 := bc0 BK543; have hcz30_1 := bc1 BK543; have hcz30_2 := bc2 BK543; have hcz30_3 := bc3 BK543; have hcz30_4 := bc4 BK543; have hfz30_0 := blk_frozen BK543.out 0; have hfz30_1 := blk_frozen BK543.out 1; have hfz30_2 := blk_frozen BK543.out 2; have hfz30_3 := blk_frozen BK543.out 3; have hfz30_4 := blk_frozen BK543.out 4; have hcz31_0 := bc0 BK525; have hcz31_1 := bc1 BK525; have hfz31_0 := blk_frozen BK525.out 0; have hfz31_1 := blk_frozen BK525.out 1) | ((with_reducible refine gate_callee (f := 67) rfl ?_); refine gl 34 Try.func67 #[.pointer (some ⟨gb543, 0, none⟩), .agg #[.slice A1_0 l1_0.length c1_0, .slice A1_1 l1_1.length c1_1]] ?_; (with_reducible refine (spec_plPlace.calls k Ao22 co22 t527 Ao23 co23 t530 Ao24 co24 t533 Ao25 co25 t536 Ao26 co26 t539 _ _ l1_0 _ _ l1_1 t544 true _ gb543 ?side0 ?side1 ?side2 ?side3 ?side4 ?side5 ?side6 ?side7 ?side8 ?side9 ?side10 ?side11 ?side12 ?side13 ?side14 A8.out).mono ?_); (case side0 => exact bk BK543); (case side1 => repeat (first | exact (Kd.N_reads' HO529.out).2.2 | (with_reducible refine Kd.C_alloc ?_ _) | (with_reducible refine Kd.C_drewN ?_ _) | (with_reducible refine Kd.C_drew ?_))); (case side2 => exact (Kd.N_reads' HO529.out).2.1); (case side3 => exact cr HO532); (case side4 => exact (Kd.R_reads' HO532.out).2.1); (case side5 => exact cr HO535); (case side6 => exact (Kd.R_reads' HO535.out).2.1); (case side7 => exact cr HO538); (case side8 => exact (Kd.R_reads' HO538.out).2.1); (case side9 => exact cr HO541); (case side10 => exact (Kd.R_reads' HO541.out).2.1); (case side11 => exact ck HR1_0 HB); (case side12 => exact HC1_0.out); (case side13 => exact ck HR1_1 HB); (case side14 => exact HC1_1.out); rintro e w32 ⟨rfl, hb⟩; refine ⟨_, rfl, ?_⟩; replace HO529 := Aside0.mk (Kd.N_below HO529.out hb); replace HO532 := rb HO532 hb; replace HO535 := rb HO535 hb; replace HO538 := rb HO538 hb; replace HO541 := rb HO541 hb; replace BK524 := bb BK524 hb; replace BK525 := bb BK525 hb; replace BK543 := bb BK543 hb; replace HB := bs HB hb; (try clear hb); have hcz33_0 := bc0 BK543; have hcz33_1 := bc1 BK543; have hcz33_2 := bc2 BK543; have hcz33_3 := bc3 BK543; have hcz33_4 := bc4 BK543; have hfz33_0 := blk_frozen BK543.out 0; have hfz33_1 := blk_frozen BK543.out 1; have hfz33_2 := blk_frozen BK543.out 2; have hfz33_3 := blk_frozen BK543.out 3; have hfz33_4 := blk_frozen BK543.out 4) | ((with_reducible refine gate_dst (N := 44) rfl ?_); refine Kd.R_make (Kd.int .i64) _ 3 rfl (N := 44) rfl 22 _ _ rfl (t527.length : Int) rfl rfl Try.underlying22 (.int .i64 0) 8 info3 rfl (by decide) (by omega) 0 (ok := fun _ => True) (okp := fun _ => True) rfl (fun _ hk => hk) trivial (of_decide_eq_true ‹_›) (Nat.le_trans (Nat.mul_le_mul_right _ (of_decide_eq_true ‹_› : (t527.length : Int).toNat ≤ 35184372088832)) (by omega)) (Below.refl _ _) (Nat.le_refl _) ?_; intro v547 w34 ho35 hb hg_ hnew_; clear hg_ hnew_; (first | rw [← Ny546.out] at ho35 | (simp only [Int.reduceToNat] at ho35; rw [← Ny546.out] at ho35)); replace HO529 := Aside0.mk (Kd.N_elder' HO529.out (Kd.R_base ho35) hb); replace HO535 := rb HO535 hb; have HO548 := Aside0.mk (Kd.R_lower (Kd.R_new' (Kd.R_new' (Kd.R_new' ho35 (Kd.R_lt (rk HO532))) (Kd.R_lt (rk HO538))) (Kd.R_lt (rk HO541))) (below_size (bw HB))); replace HO532 := Aside0.mk (Kd.R_elder' (rk HO532) (Kd.R_base ho35) hb); replace HO538 := Aside0.mk (Kd.R_elder' (rk HO538) (Kd.R_base ho35) hb); replace HO541 := Aside0.mk (Kd.R_elder' (rk HO541) (Kd.R_base ho35) hb); replace BK524 := bb BK524 hb; replace BK525 := bb BK525 hb; replace BK543 := bb BK543 hb; replace HB := bs HB hb; clear hb ho35; have p13 : 0 ≤ (0 : Int) := (by omega); have q13 : (0 : Int) < ((y546.length : Int) : Int) := of_decide_eq_true ‹_›; have qi13 : (0 < y546.length) = True := eq_true (by omega); obtain ⟨go13, co13, eo13, gb13, gl13, cl13, HG13⟩ := Kd.R_form HO548.out (by omega); (first | cases eo13 | (injection eo13 with ea_ en_ ec_; (first | subst ea_ | (injection ea_ with ea_; subst ea_)); subst ec_; clear en_)); have GB13 := Aside0.mk gb13; have GG13 := Aside0.mk HG13; clear gb13 gl13 HG13; obtain ⟨hx13_0, hf13_0⟩ := Kd.R_celln 0 HO548.out (0 : Int) p13 q13; (try rw [show ((0 : Int)).toNat = 0 from rfl] at hx13_0); (try simp only [Nat.reduceMul, Nat.zero_mul, Nat.zero_add, Nat.reduceAdd] at hx13_0); (try rw [show ((0 : Int)).toNat = 0 from rfl] at hf13_0); (try simp only [Nat.reduceMul, Nat.zero_mul, Nat.zero_add, Nat.reduceAdd] at hf13_0); replace p13 := eq_true p13; replace q13 := eq_true q13; have n_ := Aside0.mk (Kd.R_mono (ok' := (fun k_ => some k_ ≠ (.slice Ao23 t530.length co23 : Value).ownBlock ∧ some k_ ≠ (.slice Ao25 t536.length co25 : Value).ownBlock ∧ some k_ ≠ (.slice Ao26 t539.length co26 : Value).ownBlock)) HO548.out (fun k_ hk => ⟨hk.1.1.2, ⟨hk.1.2, hk.2⟩⟩)); clear HO548; have HO548 := n_; clear n_; obtain ⟨hy36_, hz36_⟩ := Kd.R_celln 0 HO548.out (0 : Int) (by omega) (of_decide_eq_true ‹_›); (try simp only [Int.reduceToNat, Int.toNat_zero, Int.toNat_ofNat, Nat.reduceMul, Nat.zero_mul, Nat.zero_add] at hy36_ hz36_); (try rw [show ((0 : Int)).toNat = 0 from rfl] at hy36_); (try rw [show ((0 : Int)).toNat = 0 from rfl] at hz36_); have HP36 := Kd.R_putg HO548.out (0 : Int) 1) | ((with_reducible refine gate_store (t := 3) (p := 46) rfl ?_); refine store_event (t := 3) (p := 46) (v := ?vo_w37) (w1 := (w34.setCell ⟨go13, (0 : Int).toNat, none⟩ (.int .i64 1))) ?hg ?ho ?hn ?hr ?_; (case ho => rfl); (case hg => rfl); (case hn => rfl); (case hr => first | (go_simp; done) | (go_simp; rfl)); intro w37 hw; have hg : w34.grownBy w37 (some go13) := (by rw [hw]; exact HP36.2); have hp_ : Kd.R (Kd.int .i64) 3 w37 w.heap.size (fun k_ => some k_ ≠ (.slice Ao23 t530.length co23 : Value).ownBlock ∧ some k_ ≠ (.slice Ao25 t536.length co25 : Value).ownBlock ∧ some k_ ≠ (.slice Ao26 t539.length co26 : Value).ownBlock) (.slice (some ⟨go13, 0, none⟩) y546.length co13) y549 := (by rw [hw, Ny549.out]; exact HP36.1); clear HP36; replace BK524 := Aside0.mk (blk_grown (g := gb524) (o := .cells #[.slice A0_0 l0_0.length c0_0, .slice A0_1 l0_1.length c0_1] 29 (0, 0)) (bk BK524) hg (Kd.R_ne HO548.out BK524.out (by decide))); replace BK525 := Aside0.mk (blk_grown (g := gb525) (o := .cells #[.slice A1_0 l1_0.length c1_0, .slice A1_1 l1_1.length c1_1] 29 (0, 0)) (bk BK525) hg (Kd.R_ne HO548.out BK525.out (by decide))); replace HO529 := Aside0.mk (Kd.N_afterv (v := (.slice (some ⟨go13, 0, none⟩) y546.length co13)) (v1 := (.slice (some ⟨go13, 0, none⟩) y546.length co13)) (ok := (fun k_ => some k_ ≠ (.slice Ao23 t530.length co23 : Value).ownBlock ∧ some k_ ≠ (.slice Ao24 t533.length co24 : Value).ownBlock ∧ some k_ ≠ (.slice Ao25 t536.length co25 : Value).ownBlock ∧ some k_ ≠ (.slice Ao26 t539.length co26 : Value).ownBlock ∧ k_ ≠ gb524 ∧ k_ ≠ gb525 ∧ k_ ≠ gb543)) (by exact Kd.N_mono HO529.out (fun _ hk => ⟨⟨hk.1.1.1, ⟨hk.1.1.2.1, ⟨hk.1.1.2.2.1, ⟨hk.1.1.2.2.2.1, ⟨hk.1.1.2.2.2.2.1, ⟨hk.1.1.2.2.2.2.2, hk.1.2⟩⟩⟩⟩⟩⟩, hk.2⟩)) hg (.inl rfl)); replace HO532 := Aside0.mk (Kd.R_after (v := (.slice (some ⟨go13, 0, none⟩) y546.length co13)) (v1 := (.slice (some ⟨go13, 0, none⟩) y546.length co13)) (ok := (fun k_ => some k_ ≠ (.slice Ao25 t536.length co25 : Value).ownBlock ∧ some k_ ≠ (.slice Ao26 t539.length co26 : Value).ownBlock)) (rk HO532) hg (.inl rfl)); replace HO535 := Aside0.mk (Kd.R_over' (v := (.slice (some ⟨go13, 0, none⟩) y546.length co13)) (rk HO535) (Kd.R_typed HO548.out) (by decide) hg); replace HO538 := Aside0.mk (Kd.R_after (v := (.slice (some ⟨go13, 0, none⟩) y546.length co13)) (v1 := (.slice (some ⟨go13, 0, none⟩) y546.length co13)) (ok := (fun k_ => some k_ ≠ (.slice Ao23 t530.length co23 : Value).ownBlock ∧ some k_ ≠ (.slice Ao26 t539.length co26 : Value).ownBlock)) (rk HO538) hg (.inl rfl)); replace HO541 := Aside0.mk (Kd.R_after (v := (.slice (some ⟨go13, 0, none⟩) y546.length co13)) (v1 := (.slice (some ⟨go13, 0, none⟩) y546.length co13)) (ok := (fun k_ => some k_ ≠ (.slice Ao23 t530.length co23 : Value).ownBlock ∧ some k_ ≠ (.slice Ao25 t536.length co25 : Value).ownBlock)) (rk HO541) hg (.inl rfl)); replace BK543 := Aside0.mk (blk_grown (g := gb543) (o := .cells #[.slice Ao22 t527.length co22, .slice Ao23 t530.length co23, .slice Ao24 t533.length co24, .slice Ao25 t536.length co25, .slice Ao26 t539.length co26] 80 (0, 0)) (bk BK543) hg (Kd.R_ne HO548.out BK543.out (by decide))); replace HO548 := Aside0.mk (hp_); replace HB := Aside0.mk ((by rw [hw]; exact below_set (HB.out) GB13.out : Below w.heap.size w w37)); clear hg hw hp_; have hcz38_0 := bc0 BK543; have hcz38_1 := bc1 BK543; have hcz38_2 := bc2 BK543; have hcz38_3 := bc3 BK543; have hcz38_4 := bc4 BK543; have hfz38_0 := blk_frozen BK543.out 0; have hfz38_1 := blk_frozen BK543.out 1; have hfz38_2 := blk_frozen BK543.out 2; have hfz38_3 := blk_frozen BK543.out 3; have hfz38_4 := blk_frozen BK543.out 4))
 try simp only [Act.put, List.setIfInBounds_toArray, List.set_cons_zero, List.set_cons_succ]
 go_loopg [52] k (fun kq v52 w' => ∃ (x12_1 : List Int) (x52_1 : Int), v52 = .int .i64 x52_1 ∧ Aside0 (spec_CountPlans.l0 kq a2 t544 x12_1 (t527.length : Int) x52_1 t527 t530 t533 t536 t539 = some (r1, r2)) ∧ Aside0 (kq ≤ k) ∧ Aside0 (Kd.R (Kd.int .i64) 3 w' w.heap.size (fun k_ => some k_ ≠ ((.slice Ao23 t530.length co23) : Value).ownBlock ∧ some k_ ≠ ((.slice Ao25 t536.length co25) : Value).ownBlock ∧ some k_ ≠ ((.slice Ao26 t539.length co26) : Value).ownBlock) (.slice (some ⟨go13, 0, none⟩) y546.length co13) x12_1) ∧ Aside0 (Kd.N k29 29 w' w.heap.size (fun k_ => some k_ ≠ ((.slice (some ⟨go13, 0, none⟩) y546.length co13) : Value).ownBlock ∧ some k_ ≠ ((.slice Ao23 t530.length co23) : Value).ownBlock ∧ some k_ ≠ ((.slice Ao24 t533.length co24) : Value).ownBlock ∧ some k_ ≠ ((.slice Ao25 t536.length co25) : Value).ownBlock ∧ some k_ ≠ ((.slice Ao26 t539.length co26) : Value).ownBlock ∧ k_ ≠ gb524 ∧ k_ ≠ gb525 ∧ k_ ≠ gb543) (.slice Ao22 t527.length co22) t527) ∧ Aside0 (Kd.R (Kd.int .i64) 3 w' w.heap.size (fun k_ => some k_ ≠ ((.slice (some ⟨go13, 0, none⟩) y546.length co13) : Value).ownBlock ∧ some k_ ≠ ((.slice Ao25 t536.length co25) : Value).ownBlock ∧ some k_ ≠ ((.slice Ao26 t539.length co26) : Value).ownBlock) (.slice Ao23 t530.length co23) t530) ∧ Aside0 (Kd.R k49 49 w' w.heap.size (fun _ => True) (.slice Ao24 t533.length co24) t533) ∧ Aside0 (Kd.R (Kd.int .i64) 3 w' w.heap.size (fun k_ => some k_ ≠ ((.slice (some ⟨go13, 0, none⟩) y546.length co13) : Value).ownBlock ∧ some k_ ≠ ((.slice Ao23 t530.length co23) : Value).ownBlock ∧ some k_ ≠ ((.slice Ao26 t539.length co26) : Value).ownBlock) (.slice Ao25 t536.length co25) t536) ∧ Aside0 (Kd.R (Kd.int .i64) 3 w' w.heap.size (fun k_ => some k_ ≠ ((.slice (some ⟨go13, 0, none⟩) y546.length co13) : Value).ownBlock ∧ some k_ ≠ ((.slice Ao23 t530.length co23) : Value).ownBlock ∧ some k_ ≠ ((.slice Ao25 t536.length co25) : Value).ownBlock) (.slice Ao26 t539.length co26) t539) ∧ Aside0 (w'.heap[gb524]? = some (.cells #[(.slice A0_0 l0_0.length c0_0), (.slice A0_1 l0_1.length c0_1)] 29 (0, 0))) ∧ Aside0 (w'.heap[gb525]? = some (.cells #[(.slice A1_0 l1_0.length c1_0), (.slice A1_1 l1_1.length c1_1)] 29 (0, 0))) ∧ Aside0 (w'.heap[gb543]? = some (.cells #[(.slice Ao22 t527.length co22), (.slice Ao23 t530.length co23), (.slice Ao24 t533.length co24), (.slice Ao25 t536.length co25), (.slice Ao26 t539.length co26)] 80 (0, 0))) ∧ Aside0 (Below w.heap.size w w'))
 case atStart => exact ⟨(y549), (0), (by first | rfl | (simp; done) | (simp [*]; done)), H', ⟨Nat.le_refl _⟩, ⟨rk HO548⟩, ⟨by exact Kd.N_mono HO529.out (fun _ hk => ⟨hk.2, ⟨hk.1.1, ⟨hk.1.2.1, ⟨hk.1.2.2.1, ⟨hk.1.2.2.2.1, ⟨hk.1.2.2.2.2.1, ⟨hk.1.2.2.2.2.2.1, hk.1.2.2.2.2.2.2⟩⟩⟩⟩⟩⟩⟩)⟩, ⟨by exact Kd.R_mono HO532.out (fun _ hk => ⟨hk.2, ⟨hk.1.1, hk.1.2⟩⟩)⟩, ⟨rk HO535⟩, ⟨by exact Kd.R_mono HO538.out (fun _ hk => ⟨hk.2, ⟨hk.1.1, hk.1.2⟩⟩)⟩, ⟨by exact Kd.R_mono HO541.out (fun _ hk => ⟨hk.2, ⟨hk.1.1, hk.1.2⟩⟩)⟩, ⟨bk BK524⟩, ⟨bk BK525⟩, ⟨bk BK543⟩, ⟨bw HB⟩⟩
 case round =>
  clear H'
  try clear c1
  try clear p1
  try clear q1
  try clear hx1
  try clear qi1
  try clear c2
  try clear p2
  try clear c4
  try clear c5
  try clear c6
  try clear c7
  try clear c9
  try clear c10
  try clear c10b0
  try clear c10b1
  try clear c11
  try clear c11b0
  try clear c11b1
  try clear c12
  try clear c12b0
  try clear c12b1
  try clear p13
  try clear q13
  try clear hx13
  try clear qi13
  try clear hf13
  try clear c16
  try clear c28
  try clear c29
  try clear hcz17_0
  try clear hcz17_1
  try clear hcz18_0
  try clear hcz18_1
  try clear hcz20_0
  try clear hcz20_1
  try clear hcz30_0
  try clear hcz30_1
  try clear hcz30_2
  try clear hcz30_3
  try clear hcz30_4
  try clear hcz31_0
  try clear hcz31_1
  try clear hcz33_0
  try clear hcz33_1
  try clear hcz33_2
  try clear hcz33_3
  try clear hcz33_4
  try clear hcz38_0
  try clear hcz38_1
  try clear hcz38_2
  try clear hcz38_3
  try clear hcz38_4
  try clear hfz17_0
  try clear hfz17_1
  try clear hfz18_0
  try clear hfz18_1
  try clear hfz20_0
  try clear hfz20_1
  try clear hfz30_0
  try clear hfz30_1
  try clear hfz30_2
  try clear hfz30_3
  try clear hfz30_4
  try clear hfz31_0
  try clear hfz31_1
  try clear hfz33_0
  try clear hfz33_1
  try clear hfz33_2
  try clear hfz33_3
  try clear hfz33_4
  try clear hfz38_0
  try clear hfz38_1
  try clear hfz38_2
  try clear hfz38_3
  try clear hfz38_4
  try clear hx13_0
  try clear p13
  try clear q13
  obtain ⟨x12_1, x52_1, rfl, HA, HK1, HO_12, HO_544000, HO_544001, HO_544002, HO_544003, HO_544004, BK524, BK525, BK543, HB⟩ := hrel
  have hl12_1 := (Kd.R_reads' HO_12.out).1
  rw [hl12_1] at HO_12
  (try simp only [hl12_1])
  (try simp only [hl12_1] at BK524)
  (try simp only [hl12_1] at BK525)
  (try simp only [hl12_1] at BK543)
  (try simp only [hl12_1] at HO_544000)
  (try simp only [hl12_1] at HO_544001)
  (try simp only [hl12_1] at HO_544002)
  (try simp only [hl12_1] at HO_544003)
  (try simp only [hl12_1] at HO_544004)
  cases gk with
  | zero => exact absurd HA.out (by simp [spec_CountPlans.l0])
  | succ k1 =>
   have H := HA.out
   clear HA
   simp only [spec_CountPlans.l0] at H
   by_cases c39 : x52_1 < (t527.length : Int)
   rotate_left
   ·rw [if_neg c39] at H
    have c39b0 : decide (x52_1 < (t527.length : Int)) = false := decide_eq_false c39
    clear c39
    by_cases c96 : 0 ≤ t544
    rotate_left
    ·rw [if_neg c96] at H
     exact absurd H (by simp)
    rw [if_pos c96] at H
    have c96b0 : decide (0 ≤ t544) = true := decide_eq_true c96
    clear c96
    by_cases c97 : t544 < (t539.length : Int)
    rotate_left
    ·rw [if_neg c97] at H
     exact absurd H (by simp)
    rw [if_pos c97] at H
    have c97b0 : decide (t544 < (t539.length : Int)) = true := decide_eq_true c97
    clear c97
    by_cases c98 : 0 ≤ (rd t539 t544)
    rotate_left
    ·rw [if_neg c98] at H
     exact absurd H (by simp)
    rw [if_pos c98] at H
    have c98b0 : decide (0 ≤ (rd t539 t544)) = true := decide_eq_true c98
    clear c98
    by_cases c99 : (rd t539 t544) < (x12_1.length : Int)
    rotate_left
    ·rw [if_neg c99] at H
     exact absurd H (by simp)
    rw [if_pos c99] at H
    have c99b0 : decide ((rd t539 t544) < (x12_1.length : Int)) = true := decide_eq_true c99
    clear c99
    simp only [Option.some.injEq, Prod.mk.injEq] at H
    obtain ⟨rfl, rfl⟩ := H
    have hnb100 := NB543_524.out
    have hnc100 := NB524_543.out
    have hnb101 := NB543_525.out
    have hnc101 := NB525_543.out
    have hcz102_0 := bc0 BK543
    have hcz102_1 := bc1 BK543
    have hcz102_2 := bc2 BK543
    have hcz102_3 := bc3 BK543
    have hcz102_4 := bc4 BK543
    have hfz102_0 := blk_frozen BK543.out 0
    have hfz102_1 := blk_frozen BK543.out 1
    have hfz102_2 := blk_frozen BK543.out 2
    have hfz102_3 := blk_frozen BK543.out 3
    have hfz102_4 := blk_frozen BK543.out 4
    have p550 : 0 ≤ (t544 : Int) := of_decide_eq_true ‹_›
    have q550 : t544 < (t539.length : Int) := of_decide_eq_true ‹_›
    obtain ⟨ad550, e550, hx550_0⟩ := Kd.at_int (Kd.R_reads' HO_544004.out).2.2 t544 p550 q550
    cases e550
    replace p550 := eq_true p550
    replace q550 := eq_true q550
    have p551 : 0 ≤ ((rd t539 t544) : Int) := of_decide_eq_true ‹_›
    have q551 : (rd t539 t544) < (x12_1.length : Int) := of_decide_eq_true ‹_›
    obtain ⟨ad551, e551, hx551_0⟩ := Kd.at_int (Kd.R_reads' HO_12.out).2.2 (rd t539 t544) p551 q551
    obtain rfl : (⟨go13, 0, none⟩ : Addr) = ad551 := (by injection e551)
    (first | simp only [add_plain] at hx551_0 | simp only [add_at] at hx551_0 | simp only [Addr.add, Nat.zero_add] at hx551_0 | skip)
    replace p551 := eq_true p551
    replace q551 := eq_true q551
    go_wp2
    go_ret2
    exact ⟨by first | rfl | (simp [errW_none, errW_some] <;> rfl) | (simp [*, errW_none, errW_some] <;> rfl), bw HB⟩
   rw [if_pos c39] at H
   have c39b0 : decide (x52_1 < (t527.length : Int)) = true := decide_eq_true c39
   clear c39
   by_cases c40 : 0 ≤ x52_1
   rotate_left
   ·rw [if_neg c40] at H
    exact absurd H (by simp)
   rw [if_pos c40] at H
   have c40b0 : decide (0 ≤ x52_1) = true := decide_eq_true c40
   clear c40
   by_cases c41 : x52_1 < (t527.length : Int)
   rotate_left
   ·rw [if_neg c41] at H
    exact absurd H (by simp)
   rw [if_pos c41] at H
   have c41b0 : decide (x52_1 < (t527.length : Int)) = true := decide_eq_true c41
   clear c41
   replace H := Option.bind_eq_some_iff.mp H
   obtain ⟨t553, A420, H⟩ := H
   (try dsimp only at H)
   have A42 := Aside0.mk A420
   clear A420
   have H' := Aside0.mk H
   clear H
   have hnb43 := NB543_524.out
   have hnc43 := NB524_543.out
   have hnb44 := NB543_525.out
   have hnc44 := NB525_543.out
   have hcz45_0 := bc0 BK543
   have hcz45_1 := bc1 BK543
   have hcz45_2 := bc2 BK543
   have hcz45_3 := bc3 BK543
   have hcz45_4 := bc4 BK543
   have hfz45_0 := blk_frozen BK543.out 0
   have hfz45_1 := blk_frozen BK543.out 1
   have hfz45_2 := blk_frozen BK543.out 2
   have hfz45_3 := blk_frozen BK543.out 3
   have hfz45_4 := blk_frozen BK543.out 4
   have p552 : 0 ≤ (x52_1 : Int) := of_decide_eq_true ‹_›
   have q552 : x52_1 < (t527.length : Int) := of_decide_eq_true ‹_›
   obtain ⟨ad552, A552_0, c552_0, A552_1, c552_1, e552, hx552_0, hx552_1, hl552_0, hi552_0, hl552_1, hi552_1⟩ := at_T29 (Kd.N_reads' HO_544000.out).2.2 x52_1 p552 q552
   cases e552
   obtain ⟨ce552, hce552, hMe552, hcc552⟩ := Kd.N_get HO_544000.out z29 x52_1 p552 (by first | exact q552 | exact of_decide_eq_true ‹_› | (have e_ := (Kd.N_reads' HO_544000.out).1; omega))
   obtain ⟨ua552_0, uc552_0, ua552_1, uc552_1, rfl, ul552_0, ge552_0, ul552_1, ge552_1⟩ := k29_openF hMe552
   have hv552_0 := hcc552 0 _ rfl
   rw [Nat.add_zero] at hv552_0
   replace hv552_0 := Option.some.inj (hv552_0.symm.trans hx552_0)
   injection hv552_0 with hva_ hvn_ hvc_
   rw [hva_] at ge552_0
   rw [hvc_] at ul552_0
   have HL552_0 := Aside0.mk (show Kd.V (Kd.int .i64) 3 _ w.heap.size _ _ ((rd_T29 t527 x52_1).f0) from Kd.V_mk ul552_0 ge552_0)
   clear hva_ hvn_ hvc_ ge552_0 ul552_0
   have hv552_1 := hcc552 1 _ rfl
   rw [add_field _ _ 1 (by omega)] at hv552_1
   replace hv552_1 := Option.some.inj (hv552_1.symm.trans hx552_1)
   injection hv552_1 with hva_ hvn_ hvc_
   rw [hva_] at ge552_1
   rw [hvc_] at ul552_1
   have HL552_1 := Aside0.mk (show Kd.V (Kd.int .i64) 3 _ w.heap.size _ _ ((rd_T29 t527 x52_1).f1) from Kd.V_mk ul552_1 ge552_1)
   clear hva_ hvn_ hvc_ ge552_1 ul552_1
   clear hcc552 hce552
   have HR552_0 := Aside0.mk hi552_0
   have HC552_0 := Aside0.mk hl552_0
   clear hi552_0 hl552_0
   have HR552_1 := Aside0.mk hi552_1
   have HC552_1 := Aside0.mk hl552_1
   clear hi552_1 hl552_1
   replace p552 := eq_true p552
   replace q552 := eq_true q552
   go_wp2_with (first | ((with_reducible refine gate_callee (f := 50) rfl ?_); refine gl 63 Try.func50 #[.agg #[.slice A552_0 ((rd_T29 t527 x52_1).f0).length c552_0, .slice A552_1 ((rd_T29 t527 x52_1).f1).length c552_1], .bool a2] ?_; (with_reducible refine (spec_veOn.calls k1 _ _ ((rd_T29 t527 x52_1).f0) _ _ ((rd_T29 t527 x52_1).f1) a2 t553 _ ?side1 ?side2 ?side3 ?side4 A42.out).mono ?_); (case side1 => repeat (first | exact (by repeat (first | (with_reducible exact HR552_0.out) | (with_reducible refine Kd.C_alloc ?_ _) | (with_reducible refine Kd.C_drewN ?_ _) | (with_reducible refine Kd.C_drew ?_) | exact HR552_0.out)) | (with_reducible refine Kd.C_alloc ?_ _) | (with_reducible refine Kd.C_drewN ?_ _) | (with_reducible refine Kd.C_drew ?_))); (case side2 => exact HC552_0.out); (case side3 => repeat (first | exact (by repeat (first | (with_reducible exact HR552_1.out) | (with_reducible refine Kd.C_alloc ?_ _) | (with_reducible refine Kd.C_drewN ?_ _) | (with_reducible refine Kd.C_drew ?_) | exact HR552_1.out)) | (with_reducible refine Kd.C_alloc ?_ _) | (with_reducible refine Kd.C_drewN ?_ _) | (with_reducible refine Kd.C_drew ?_))); (case side4 => exact HC552_1.out); rintro e w46 ⟨v554, rfl, ho0, hb⟩; refine ⟨_, rfl, ?_⟩; replace HO_12 := rb HO_12 hb; replace HO_544000 := Aside0.mk (Kd.N_elder' HO_544000.out (Kd.R_base ho0) hb); replace HO_544001 := rb HO_544001 hb; replace HO_544003 := rb HO_544003 hb; replace HO_544004 := rb HO_544004 hb; replace HL552_0 := Aside0.mk (Kd.V_elder' HL552_0.out (Kd.R_base ho0) hb); replace HL552_1 := Aside0.mk (Kd.V_elder' HL552_1.out (Kd.R_base ho0) hb); have HO555 := Aside0.mk (Kd.R_lower (Kd.R_new' ho0 (Kd.R_lt (rk HO_544002))) (below_size (bw HB))); replace HO_544002 := Aside0.mk (Kd.R_elder' (rk HO_544002) (Kd.R_base ho0) hb); replace BK524 := bb BK524 hb; replace BK525 := bb BK525 hb; replace BK543 := bb BK543 hb; replace HR552_0 := Aside0.mk (Kd.C_below (by repeat (first | (with_reducible exact HR552_0.out) | (with_reducible refine Kd.C_alloc ?_ _) | (with_reducible refine Kd.C_drewN ?_ _) | (with_reducible refine Kd.C_drew ?_) | exact HR552_0.out)) hb); replace HR552_1 := Aside0.mk (Kd.C_below (by repeat (first | (with_reducible exact HR552_1.out) | (with_reducible refine Kd.C_alloc ?_ _) | (with_reducible refine Kd.C_drewN ?_ _) | (with_reducible refine Kd.C_drew ?_) | exact HR552_1.out)) hb); replace HB := bs HB hb; (try clear hb); (try clear ho0); obtain ⟨Ao47, co47, eo47⟩ := Kd.R_slice HO555.out; subst eo47))
   try simp only [Act.put, List.setIfInBounds_toArray, List.set_cons_zero, List.set_cons_succ]
   go_loopg [65] k1 (fun kq v65 w' => ∃ (x12_2 : List Int) (x65_2 : Int), v65 = .int .i64 x65_2 ∧ Aside0 (spec_CountPlans.l1 kq a2 t544 x12_2 x52_1 (t527.length : Int) x52_1 t553 (t553.length : Int) x65_2 t527 t530 t533 t536 t539 = some (r1, r2)) ∧ Aside0 (kq ≤ k1) ∧ Aside0 (Kd.R (Kd.int .i64) 3 w' w.heap.size (fun k_ => some k_ ≠ ((.slice Ao23 t530.length co23) : Value).ownBlock ∧ some k_ ≠ ((.slice Ao25 t536.length co25) : Value).ownBlock ∧ some k_ ≠ ((.slice Ao26 t539.length co26) : Value).ownBlock) (.slice (some ⟨go13, 0, none⟩) x12_1.length co13) x12_2) ∧ Aside0 (Kd.R k49 49 w' w.heap.size (fun k_ => some k_ ≠ ((.slice Ao24 t533.length co24) : Value).ownBlock) (.slice Ao47 t553.length co47) t553) ∧ Aside0 (Kd.N k29 29 w' w.heap.size (fun k_ => some k_ ≠ ((.slice (some ⟨go13, 0, none⟩) x12_1.length co13) : Value).ownBlock ∧ some k_ ≠ ((.slice Ao47 t553.length co47) : Value).ownBlock ∧ some k_ ≠ ((.slice Ao23 t530.length co23) : Value).ownBlock ∧ some k_ ≠ ((.slice Ao24 t533.length co24) : Value).ownBlock ∧ some k_ ≠ ((.slice Ao25 t536.length co25) : Value).ownBlock ∧ some k_ ≠ ((.slice Ao26 t539.length co26) : Value).ownBlock ∧ k_ ≠ gb524 ∧ k_ ≠ gb525 ∧ k_ ≠ gb543) (.slice (some ad552) t527.length co22) t527) ∧ Aside0 (Kd.R (Kd.int .i64) 3 w' w.heap.size (fun k_ => some k_ ≠ ((.slice (some ⟨go13, 0, none⟩) x12_1.length co13) : Value).ownBlock ∧ some k_ ≠ ((.slice Ao25 t536.length co25) : Value).ownBlock ∧ some k_ ≠ ((.slice Ao26 t539.length co26) : Value).ownBlock) (.slice Ao23 t530.length co23) t530) ∧ Aside0 (Kd.R k49 49 w' w.heap.size (fun k_ => some k_ ≠ ((.slice Ao47 t553.length co47) : Value).ownBlock) (.slice Ao24 t533.length co24) t533) ∧ Aside0 (Kd.R (Kd.int .i64) 3 w' w.heap.size (fun k_ => some k_ ≠ ((.slice (some ⟨go13, 0, none⟩) x12_1.length co13) : Value).ownBlock ∧ some k_ ≠ ((.slice Ao23 t530.length co23) : Value).ownBlock ∧ some k_ ≠ ((.slice Ao26 t539.length co26) : Value).ownBlock) (.slice Ao25 t536.length co25) t536) ∧ Aside0 (Kd.R (Kd.int .i64) 3 w' w.heap.size (fun k_ => some k_ ≠ ((.slice (some ⟨go13, 0, none⟩) x12_1.length co13) : Value).ownBlock ∧ some k_ ≠ ((.slice Ao23 t530.length co23) : Value).ownBlock ∧ some k_ ≠ ((.slice Ao25 t536.length co25) : Value).ownBlock) (.slice Ao26 t539.length co26) t539) ∧ Aside0 (w'.heap[gb524]? = some (.cells #[(.slice A0_0 l0_0.length c0_0), (.slice A0_1 l0_1.length c0_1)] 29 (0, 0))) ∧ Aside0 (w'.heap[gb525]? = some (.cells #[(.slice A1_0 l1_0.length c1_0), (.slice A1_1 l1_1.length c1_1)] 29 (0, 0))) ∧ Aside0 (w'.heap[gb543]? = some (.cells #[(.slice (some ad552) t527.length co22), (.slice Ao23 t530.length co23), (.slice Ao24 t533.length co24), (.slice Ao25 t536.length co25), (.slice Ao26 t539.length co26)] 80 (0, 0))) ∧ Aside0 (Below w.heap.size w w'))
   case atStart => exact ⟨(x12_1), (0), (by first | rfl | (simp; done) | (simp [*]; done)), H', ⟨Nat.le_refl _⟩, ⟨by (try simp only [hl12_1]); exact HO_12.out⟩, ⟨by (try simp only [hl12_1]); exact Kd.R_mono HO555.out (fun _ hk => hk.2)⟩, ⟨by (try simp only [hl12_1]); exact Kd.N_mono HO_544000.out (fun _ hk => ⟨hk.1.1, ⟨hk.2, ⟨hk.1.2.1, ⟨hk.1.2.2.1, ⟨hk.1.2.2.2.1, ⟨hk.1.2.2.2.2.1, ⟨hk.1.2.2.2.2.2.1, ⟨hk.1.2.2.2.2.2.2.1, hk.1.2.2.2.2.2.2.2⟩⟩⟩⟩⟩⟩⟩⟩)⟩, ⟨by (try simp only [hl12_1]); exact HO_544001.out⟩, ⟨by (try simp only [hl12_1]); exact Kd.R_mono HO_544002.out (fun _ hk => hk.2)⟩, ⟨by (try simp only [hl12_1]); exact HO_544003.out⟩, ⟨by (try simp only [hl12_1]); exact HO_544004.out⟩, ⟨by (try simp only [hl12_1]); exact bk BK524⟩, ⟨by (try simp only [hl12_1]); exact bk BK525⟩, ⟨by (try simp only [hl12_1]); exact bk BK543⟩, ⟨bw HB⟩⟩
   case round =>
    clear H'
    try clear c1
    try clear p1
    try clear q1
    try clear hx1
    try clear qi1
    try clear c2
    try clear p2
    try clear c3
    try clear c4
    try clear c5
    try clear p5
    try clear q5
    try clear hx5
    try clear c6
    try clear c7
    try clear c9
    try clear c10
    try clear c10b0
    try clear c10b1
    try clear c11
    try clear c11b0
    try clear c11b1
    try clear c12
    try clear c12b0
    try clear c12b1
    try clear p13
    try clear q13
    try clear hx13
    try clear qi13
    try clear hf13
    try clear c16
    try clear c28
    try clear c29
    try clear c39
    try clear c39b0
    try clear c40
    try clear c40b0
    try clear c41
    try clear c41b0
    try clear c43
    try clear c44
    try clear hcz17_0
    try clear hcz17_1
    try clear hcz18_0
    try clear hcz18_1
    try clear hcz20_0
    try clear hcz20_1
    try clear hcz30_0
    try clear hcz30_1
    try clear hcz30_2
    try clear hcz30_3
    try clear hcz30_4
    try clear hcz31_0
    try clear hcz31_1
    try clear hcz33_0
    try clear hcz33_1
    try clear hcz33_2
    try clear hcz33_3
    try clear hcz33_4
    try clear hcz38_0
    try clear hcz38_1
    try clear hcz38_2
    try clear hcz38_3
    try clear hcz38_4
    try clear hcz45_0
    try clear hcz45_1
    try clear hcz45_2
    try clear hcz45_3
    try clear hcz45_4
    try clear hfz17_0
    try clear hfz17_1
    try clear hfz18_0
    try clear hfz18_1
    try clear hfz20_0
    try clear hfz20_1
    try clear hfz30_0
    try clear hfz30_1
    try clear hfz30_2
    try clear hfz30_3
    try clear hfz30_4
    try clear hfz31_0
    try clear hfz31_1
    try clear hfz33_0
    try clear hfz33_1
    try clear hfz33_2
    try clear hfz33_3
    try clear hfz33_4
    try clear hfz38_0
    try clear hfz38_1
    try clear hfz38_2
    try clear hfz38_3
    try clear hfz38_4
    try clear hfz45_0
    try clear hfz45_1
    try clear hfz45_2
    try clear hfz45_3
    try clear hfz45_4
    try clear hx13_0
    try clear hx552_0
    try clear hx552_1
    try clear p1
    try clear p13
    try clear p2
    try clear p552
    try clear q1
    try clear q13
    try clear q552
    obtain ⟨x12_2, x65_2, rfl, HA, HK2, HO_12, HO_63, HO_544000, HO_544001, HO_544002, HO_544003, HO_544004, BK524, BK525, BK543, HB⟩ := hrel
    have hl12_2 := (Kd.R_reads' HO_12.out).1
    rw [hl12_2] at HO_12
    (try simp only [hl12_2])
    (try simp only [hl12_2] at BK524)
    (try simp only [hl12_2] at BK525)
    (try simp only [hl12_2] at BK543)
    (try simp only [hl12_2] at HO_63)
    (try simp only [hl12_2] at HO_544000)
    (try simp only [hl12_2] at HO_544001)
    (try simp only [hl12_2] at HO_544002)
    (try simp only [hl12_2] at HO_544003)
    (try simp only [hl12_2] at HO_544004)
    cases gk with
    | zero => exact absurd HA.out (by simp [spec_CountPlans.l1])
    | succ k2 =>
     have H := HA.out
     clear HA
     simp only [spec_CountPlans.l1] at H
     by_cases c48 : x65_2 < (t553.length : Int)
     rotate_left
     ·rw [if_neg c48] at H
      have c48b0 : decide (x65_2 < (t553.length : Int)) = false := decide_eq_false c48
      clear c48
      have H' := Aside0.mk H
      clear H
      go_wp2
      (try simp only [← hl12_1, ← hl12_2])
      go_roundg k2
      case measure => have := HK1.out; have := HK2.out; omega
      case rel => exact ⟨(x12_2), (wrap64 (x52_1 + 1)), (by first | rfl | (simp; done) | (simp [*]; done)), H', ⟨by have := HK1.out; have := HK2.out; omega⟩, ⟨by (try simp only [hl12_1]); (try simp only [hl12_2]); exact HO_12.out⟩, ⟨by (try simp only [hl12_1]); (try simp only [hl12_2]); exact Kd.N_mono HO_544000.out (fun _ hk => ⟨hk.1, ⟨hk.2.2.1, ⟨hk.2.2.2.1, ⟨hk.2.2.2.2.1, ⟨hk.2.2.2.2.2.1, ⟨hk.2.2.2.2.2.2.1, ⟨hk.2.2.2.2.2.2.2.1, hk.2.2.2.2.2.2.2.2⟩⟩⟩⟩⟩⟩⟩)⟩, ⟨by (try simp only [hl12_1]); (try simp only [hl12_2]); exact HO_544001.out⟩, ⟨by (try simp only [hl12_1]); (try simp only [hl12_2]); exact Kd.R_mono HO_544002.out (fun _ hk => trivial)⟩, ⟨by (try simp only [hl12_1]); (try simp only [hl12_2]); exact HO_544003.out⟩, ⟨by (try simp only [hl12_1]); (try simp only [hl12_2]); exact HO_544004.out⟩, ⟨by (try simp only [hl12_1]); (try simp only [hl12_2]); exact bk BK524⟩, ⟨by (try simp only [hl12_1]); (try simp only [hl12_2]); exact bk BK525⟩, ⟨by (try simp only [hl12_1]); (try simp only [hl12_2]); exact bk BK543⟩, ⟨bw HB⟩⟩
     rw [if_pos c48] at H
     have c48b0 : decide (x65_2 < (t553.length : Int)) = true := decide_eq_true c48
     clear c48
     by_cases c49 : 0 ≤ x65_2
     rotate_left
     ·rw [if_neg c49] at H
      exact absurd H (by simp)
     rw [if_pos c49] at H
     have c49b0 : decide (0 ≤ x65_2) = true := decide_eq_true c49
     clear c49
     by_cases c50 : x65_2 < (t553.length : Int)
     rotate_left
     ·rw [if_neg c50] at H
      exact absurd H (by simp)
     rw [if_pos c50] at H
     have c50b0 : decide (x65_2 < (t553.length : Int)) = true := decide_eq_true c50
     clear c50
     by_cases c51 : 0 ≤ x52_1
     rotate_left
     ·rw [if_neg c51] at H
      exact absurd H (by simp)
     rw [if_pos c51] at H
     have c51b0 : decide (0 ≤ x52_1) = true := decide_eq_true c51
     clear c51
     by_cases c52 : x52_1 < (t527.length : Int)
     rotate_left
     ·rw [if_neg c52] at H
      exact absurd H (by simp)
     rw [if_pos c52] at H
     have c52b0 : decide (x52_1 < (t527.length : Int)) = true := decide_eq_true c52
     clear c52
     replace H := Option.bind_eq_some_iff.mp H
     obtain ⟨⟨t559, t562⟩, A530, H⟩ := H
     (try dsimp only at H)
     have A53 := Aside0.mk A530
     clear A530
     replace H := Option.bind_eq_some_iff.mp H
     obtain ⟨⟨t565, t566⟩, A540, H⟩ := H
     (try dsimp only at H)
     have A54 := Aside0.mk A540
     clear A540
     by_cases c55 : 0 ≤ t565
     rotate_left
     ·rw [if_neg c55] at H
      exact absurd H (by simp)
     rw [if_pos c55] at H
     have c55b0 : decide (0 ≤ t565) = true := decide_eq_true c55
     clear c55
     by_cases c56 : t565 < (t539.length : Int)
     rotate_left
     ·rw [if_neg c56] at H
      exact absurd H (by simp)
     rw [if_pos c56] at H
     have c56b0 : decide (t565 < (t539.length : Int)) = true := decide_eq_true c56
     clear c56
     by_cases c57 : 0 ≤ (rd t539 t565)
     rotate_left
     ·rw [if_neg c57] at H
      exact absurd H (by simp)
     rw [if_pos c57] at H
     have c57b0 : decide (0 ≤ (rd t539 t565)) = true := decide_eq_true c57
     clear c57
     by_cases c58 : (rd t539 t565) < (t536.length : Int)
     rotate_left
     ·rw [if_neg c58] at H
      exact absurd H (by simp)
     rw [if_pos c58] at H
     have c58b0 : decide ((rd t539 t565) < (t536.length : Int)) = true := decide_eq_true c58
     clear c58
     by_cases c59 : x52_1 < (t536.length : Int)
     rotate_left
     ·rw [if_neg c59] at H
      exact absurd H (by simp)
     rw [if_pos c59] at H
     have c59b0 : decide (x52_1 < (t536.length : Int)) = true := decide_eq_true c59
     clear c59
     by_cases c60 : (rd t536 (rd t539 t565)) = (wrap64 ((rd t536 x52_1) + 1))
     rotate_left
     ·rw [if_neg c60] at H
      have c60b0 : ((rd t536 (rd t539 t565)) == (wrap64 ((rd t536 x52_1) + 1))) = false := beq_eq_false_iff_ne.mpr c60
      have c60b1 : ((rd t536 (rd t539 t565)) != (wrap64 ((rd t536 x52_1) + 1))) = true := bne_iff_ne.mpr c60
      have H' := Aside0.mk H
      clear H
      have p556 : 0 ≤ (x65_2 : Int) := of_decide_eq_true ‹_›
      have q556 : x65_2 < (t553.length : Int) := of_decide_eq_true ‹_›
      obtain ⟨ad556, e556, hx556_0, hx556_1⟩ := at_T49 (Kd.R_reads' HO_63.out).2.2 x65_2 p556 q556
      cases e556
      replace p556 := eq_true p556
      replace q556 := eq_true q556
      try go_wp2_with (first | ((with_reducible refine gate_dst (N := 15) rfl ?_); refine bx 15 #[.int .i64 0, .int .i64 0] 49 ?_; intro gb557 hg w81 hbox hb; replace HO_12 := rb HO_12 hb; replace HO_63 := Aside0.mk (Kd.R_below (Kd.R_elderB (rk HO_63) gb557 (Nat.le_of_eq hg.symm)) hb); replace HO_544000 := Aside0.mk (Kd.N_below (Kd.N_elderB HO_544000.out gb557 (Nat.le_of_eq hg.symm)) hb); replace HO_544001 := rb HO_544001 hb; replace HO_544002 := Aside0.mk (Kd.R_below (Kd.R_elderB (rk HO_544002) gb557 (Nat.le_of_eq hg.symm)) hb); replace HO_544003 := rb HO_544003 hb; replace HO_544004 := rb HO_544004 hb; have BK557 := Aside0.mk (hbox); have GW557 := ge HB hg; have GE557 := ge HB hg; replace HB := bs HB hb; have NB524_557 := nl BK524 hg; have NB557_524 := nr BK524 hg; replace BK524 := bb BK524 hb; have NB525_557 := nl BK525 hg; have NB557_525 := nr BK525 hg; replace BK525 := bb BK525 hb; have NB543_557 := nl BK543 hg; have NB557_543 := nr BK543 hg; replace BK543 := bb BK543 hb; clear hb hbox hg; have hnb82 := NB557_524.out; have hnc82 := NB524_557.out; have hnb83 := NB557_525.out; have hnc83 := NB525_557.out; have hnb84 := NB557_543.out; have hnc84 := NB543_557.out; have hcz85_0 := bc0 BK557; have hcz85_1 := bc1 BK557; have hfz85_0 := blk_frozen BK557.out 0; have hfz85_1 := blk_frozen BK557.out 1))
      have n0_ : Aside0 (Kd.R (Kd.int .i64) 3 ((w81.setCell ⟨gb557, 0, none⟩ (.int .i64 ((rd_T49 t553 x65_2).f0))).setCell ⟨gb557, 1, none⟩ (.int .i64 ((rd_T49 t553 x65_2).f1))) w.heap.size (fun k_ => some k_ ≠ (.slice Ao23 t530.length co23 : Value).ownBlock ∧ some k_ ≠ (.slice Ao25 t536.length co25 : Value).ownBlock ∧ some k_ ≠ (.slice Ao26 t539.length co26 : Value).ownBlock) (.slice (some ⟨go13, 0, none⟩) x12_2.length co13) x12_2) := ⟨by exact Kd.R_mono (Kd.R_far (p := ⟨gb557, 1, none⟩) (Kd.R_far (p := ⟨gb557, 0, none⟩) (Kd.R_types HO_12.out BK557.out (by decide)) (fun _ hk => hk.2) (.int .i64 ((rd_T49 t553 x65_2).f0))) (fun _ hk => hk.2) (.int .i64 ((rd_T49 t553 x65_2).f1))) (fun _ hk => ⟨hk.1.1, ⟨hk.1.2.1, hk.1.2.2⟩⟩)⟩
      have n1_ : Aside0 (Kd.R k49 49 ((w81.setCell ⟨gb557, 0, none⟩ (.int .i64 ((rd_T49 t553 x65_2).f0))).setCell ⟨gb557, 1, none⟩ (.int .i64 ((rd_T49 t553 x65_2).f1))) w.heap.size (fun k_ => some k_ ≠ (.slice Ao24 t533.length co24 : Value).ownBlock ∧ k_ ≠ gb557) (.slice (some ad556) t553.length co47) t553) := ⟨by exact Kd.R_mono (Kd.R_far (p := ⟨gb557, 1, none⟩) (Kd.R_far (p := ⟨gb557, 0, none⟩) (Kd.R_mono HO_63.out (fun k_ hk => (⟨hk, hk.2⟩ : _ ∧ k_ ≠ gb557))) (fun _ hk => hk.2) (.int .i64 ((rd_T49 t553 x65_2).f0))) (fun _ hk => hk.2) (.int .i64 ((rd_T49 t553 x65_2).f1))) (fun _ hk => ⟨hk.1.1, hk.1.2⟩)⟩
      have n2_ : Aside0 (Kd.N k29 29 ((w81.setCell ⟨gb557, 0, none⟩ (.int .i64 ((rd_T49 t553 x65_2).f0))).setCell ⟨gb557, 1, none⟩ (.int .i64 ((rd_T49 t553 x65_2).f1))) w.heap.size (fun k_ => some k_ ≠ (.slice (some ⟨go13, 0, none⟩) x12_2.length co13 : Value).ownBlock ∧ some k_ ≠ (.slice (some ad556) t553.length co47 : Value).ownBlock ∧ some k_ ≠ (.slice Ao23 t530.length co23 : Value).ownBlock ∧ some k_ ≠ (.slice Ao24 t533.length co24 : Value).ownBlock ∧ some k_ ≠ (.slice Ao25 t536.length co25 : Value).ownBlock ∧ some k_ ≠ (.slice Ao26 t539.length co26 : Value).ownBlock ∧ k_ ≠ gb524 ∧ k_ ≠ gb525 ∧ k_ ≠ gb543 ∧ k_ ≠ gb557) (.slice (some ad552) t527.length co22) t527) := ⟨by exact Kd.N_mono (Kd.N_far (p := ⟨gb557, 1, none⟩) (Kd.N_far (p := ⟨gb557, 0, none⟩) (Kd.N_mono HO_544000.out (fun k_ hk => (⟨hk, hk.2⟩ : _ ∧ k_ ≠ gb557))) (fun _ hk => hk.2) (.int .i64 ((rd_T49 t553 x65_2).f0))) (fun _ hk => hk.2) (.int .i64 ((rd_T49 t553 x65_2).f1))) (fun _ hk => ⟨hk.1.1.1, ⟨hk.1.1.2.1, ⟨hk.1.1.2.2.1, ⟨hk.1.1.2.2.2.1, ⟨hk.1.1.2.2.2.2.1, ⟨hk.1.1.2.2.2.2.2.1, ⟨hk.1.1.2.2.2.2.2.2.1, ⟨hk.1.1.2.2.2.2.2.2.2.1, ⟨hk.1.1.2.2.2.2.2.2.2.2, hk.1.2⟩⟩⟩⟩⟩⟩⟩⟩⟩)⟩
      have n3_ : Aside0 (Kd.R (Kd.int .i64) 3 ((w81.setCell ⟨gb557, 0, none⟩ (.int .i64 ((rd_T49 t553 x65_2).f0))).setCell ⟨gb557, 1, none⟩ (.int .i64 ((rd_T49 t553 x65_2).f1))) w.heap.size (fun k_ => some k_ ≠ (.slice (some ⟨go13, 0, none⟩) x12_2.length co13 : Value).ownBlock ∧ some k_ ≠ (.slice Ao25 t536.length co25 : Value).ownBlock ∧ some k_ ≠ (.slice Ao26 t539.length co26 : Value).ownBlock) (.slice Ao23 t530.length co23) t530) := ⟨by exact Kd.R_mono (Kd.R_far (p := ⟨gb557, 1, none⟩) (Kd.R_far (p := ⟨gb557, 0, none⟩) (Kd.R_types HO_544001.out BK557.out (by decide)) (fun _ hk => hk.2) (.int .i64 ((rd_T49 t553 x65_2).f0))) (fun _ hk => hk.2) (.int .i64 ((rd_T49 t553 x65_2).f1))) (fun _ hk => ⟨hk.1.1, ⟨hk.1.2.1, hk.1.2.2⟩⟩)⟩
      have n4_ : Aside0 (Kd.R k49 49 ((w81.setCell ⟨gb557, 0, none⟩ (.int .i64 ((rd_T49 t553 x65_2).f0))).setCell ⟨gb557, 1, none⟩ (.int .i64 ((rd_T49 t553 x65_2).f1))) w.heap.size (fun k_ => some k_ ≠ (.slice (some ad556) t553.length co47 : Value).ownBlock ∧ k_ ≠ gb557) (.slice Ao24 t533.length co24) t533) := ⟨by exact Kd.R_mono (Kd.R_far (p := ⟨gb557, 1, none⟩) (Kd.R_far (p := ⟨gb557, 0, none⟩) (Kd.R_mono HO_544002.out (fun k_ hk => (⟨hk, hk.2⟩ : _ ∧ k_ ≠ gb557))) (fun _ hk => hk.2) (.int .i64 ((rd_T49 t553 x65_2).f0))) (fun _ hk => hk.2) (.int .i64 ((rd_T49 t553 x65_2).f1))) (fun _ hk => ⟨hk.1.1, hk.1.2⟩)⟩
      have n5_ : Aside0 (Kd.R (Kd.int .i64) 3 ((w81.setCell ⟨gb557, 0, none⟩ (.int .i64 ((rd_T49 t553 x65_2).f0))).setCell ⟨gb557, 1, none⟩ (.int .i64 ((rd_T49 t553 x65_2).f1))) w.heap.size (fun k_ => some k_ ≠ (.slice (some ⟨go13, 0, none⟩) x12_2.length co13 : Value).ownBlock ∧ some k_ ≠ (.slice Ao23 t530.length co23 : Value).ownBlock ∧ some k_ ≠ (.slice Ao26 t539.length co26 : Value).ownBlock) (.slice Ao25 t536.length co25) t536) := ⟨by exact Kd.R_mono (Kd.R_far (p := ⟨gb557, 1, none⟩) (Kd.R_far (p := ⟨gb557, 0, none⟩) (Kd.R_types HO_544003.out BK557.out (by decide)) (fun _ hk => hk.2) (.int .i64 ((rd_T49 t553 x65_2).f0))) (fun _ hk => hk.2) (.int .i64 ((rd_T49 t553 x65_2).f1))) (fun _ hk => ⟨hk.1.1, ⟨hk.1.2.1, hk.1.2.2⟩⟩)⟩
      have n6_ : Aside0 (Kd.R (Kd.int .i64) 3 ((w81.setCell ⟨gb557, 0, none⟩ (.int .i64 ((rd_T49 t553 x65_2).f0))).setCell ⟨gb557, 1, none⟩ (.int .i64 ((rd_T49 t553 x65_2).f1))) w.heap.size (fun k_ => some k_ ≠ (.slice (some ⟨go13, 0, none⟩) x12_2.length co13 : Value).ownBlock ∧ some k_ ≠ (.slice Ao23 t530.length co23 : Value).ownBlock ∧ some k_ ≠ (.slice Ao25 t536.length co25 : Value).ownBlock) (.slice Ao26 t539.length co26) t539) := ⟨by exact Kd.R_mono (Kd.R_far (p := ⟨gb557, 1, none⟩) (Kd.R_far (p := ⟨gb557, 0, none⟩) (Kd.R_types HO_544004.out BK557.out (by decide)) (fun _ hk => hk.2) (.int .i64 ((rd_T49 t553 x65_2).f0))) (fun _ hk => hk.2) (.int .i64 ((rd_T49 t553 x65_2).f1))) (fun _ hk => ⟨hk.1.1, ⟨hk.1.2.1, hk.1.2.2⟩⟩)⟩
      have n7_ : Aside0 (((w81.setCell ⟨gb557, 0, none⟩ (.int .i64 ((rd_T49 t553 x65_2).f0))).setCell ⟨gb557, 1, none⟩ (.int .i64 ((rd_T49 t553 x65_2).f1))).heap[gb524]? = some (.cells #[.slice A0_0 l0_0.length c0_0, .slice A0_1 l0_1.length c0_1] 29 (0, 0))) := ⟨bk BK524⟩
      have n8_ : Aside0 (((w81.setCell ⟨gb557, 0, none⟩ (.int .i64 ((rd_T49 t553 x65_2).f0))).setCell ⟨gb557, 1, none⟩ (.int .i64 ((rd_T49 t553 x65_2).f1))).heap[gb525]? = some (.cells #[.slice A1_0 l1_0.length c1_0, .slice A1_1 l1_1.length c1_1] 29 (0, 0))) := ⟨bk BK525⟩
      have n9_ : Aside0 (((w81.setCell ⟨gb557, 0, none⟩ (.int .i64 ((rd_T49 t553 x65_2).f0))).setCell ⟨gb557, 1, none⟩ (.int .i64 ((rd_T49 t553 x65_2).f1))).heap[gb543]? = some (.cells #[.slice (some ad552) t527.length co22, .slice Ao23 t530.length co23, .slice Ao24 t533.length co24, .slice Ao25 t536.length co25, .slice Ao26 t539.length co26] 80 (0, 0))) := ⟨bk BK543⟩
      have n10_ : Aside0 (((w81.setCell ⟨gb557, 0, none⟩ (.int .i64 ((rd_T49 t553 x65_2).f0))).setCell ⟨gb557, 1, none⟩ (.int .i64 ((rd_T49 t553 x65_2).f1))).heap[gb557]? = some (.cells #[.int .i64 ((rd_T49 t553 x65_2).f0), .int .i64 ((rd_T49 t553 x65_2).f1)] 49 (0, 0))) := ⟨by refine blk_put (cs := #[.int .i64 ((rd_T49 t553 x65_2).f0), .int .i64 0]) ?_ 1 _ rfl; refine blk_put (cs := #[.int .i64 0, .int .i64 0]) ?_ 0 _ rfl; exact bk BK557⟩
      have n11_ : Aside0 (Below w.heap.size w ((w81.setCell ⟨gb557, 0, none⟩ (.int .i64 ((rd_T49 t553 x65_2).f0))).setCell ⟨gb557, 1, none⟩ (.int .i64 ((rd_T49 t553 x65_2).f1)))) := ⟨bw HB⟩
      (try clear HO_12); (try clear HO_63); (try clear HO_544000); (try clear HO_544001); (try clear HO_544002); (try clear HO_544003); (try clear HO_544004); (try clear BK524); (try clear BK525); (try clear BK543); (try clear BK557); (try clear HB)
      generalize ((w81.setCell ⟨gb557, 0, none⟩ (.int .i64 ((rd_T49 t553 x65_2).f0))).setCell ⟨gb557, 1, none⟩ (.int .i64 ((rd_T49 t553 x65_2).f1))) = w86 at n0_ n1_ n2_ n3_ n4_ n5_ n6_ n7_ n8_ n9_ n10_ n11_ ⊢
      have HO_12 := n0_
      have HO_63 := n1_
      have HO_544000 := n2_
      have HO_544001 := n3_
      have HO_544002 := n4_
      have HO_544003 := n5_
      have HO_544004 := n6_
      have BK524 := n7_
      have BK525 := n8_
      have BK543 := n9_
      have BK557 := n10_
      have HB := n11_
      clear n0_ n1_ n2_ n3_ n4_ n5_ n6_ n7_ n8_ n9_ n10_ n11_
      replace HO_12 := Aside0.mk (Kd.R_drew HO_12.out)
      replace HO_63 := Aside0.mk (Kd.R_drew HO_63.out)
      replace HO_544000 := Aside0.mk (Kd.N_drew HO_544000.out)
      replace HO_544001 := Aside0.mk (Kd.R_drew HO_544001.out)
      replace HO_544002 := Aside0.mk (Kd.R_drew HO_544002.out)
      replace HO_544003 := Aside0.mk (Kd.R_drew HO_544003.out)
      replace HO_544004 := Aside0.mk (Kd.R_drew HO_544004.out)
      replace BK524 := Aside0.mk (blk_drew BK524.out)
      replace BK525 := Aside0.mk (blk_drew BK525.out)
      replace BK543 := Aside0.mk (blk_drew BK543.out)
      replace BK557 := Aside0.mk (blk_drew BK557.out)
      replace HB := Aside0.mk (below_drew1 HB.out)
      have p558 : 0 ≤ (x52_1 : Int) := of_decide_eq_true ‹_›
      have q558 : x52_1 < (t527.length : Int) := of_decide_eq_true ‹_›
      obtain ⟨ad558, A558_0, c558_0, A558_1, c558_1, e558, hx558_0, hx558_1, hl558_0, hi558_0, hl558_1, hi558_1⟩ := at_T29 (Kd.N_reads' HO_544000.out).2.2 x52_1 p558 q558
      obtain rfl : ad552 = ad558 := (by injection e558)
      obtain ⟨ce558, hce558, hMe558, hcc558⟩ := Kd.N_get HO_544000.out z29 x52_1 p558 (by first | exact q558 | exact of_decide_eq_true ‹_› | (have e_ := (Kd.N_reads' HO_544000.out).1; omega))
      obtain ⟨ua558_0, uc558_0, ua558_1, uc558_1, rfl, ul558_0, ge558_0, ul558_1, ge558_1⟩ := k29_openF hMe558
      have hv558_0 := hcc558 0 _ rfl
      rw [Nat.add_zero] at hv558_0
      replace hv558_0 := Option.some.inj (hv558_0.symm.trans hx558_0)
      injection hv558_0 with hva_ hvn_ hvc_
      rw [hva_] at ge558_0
      rw [hvc_] at ul558_0
      have HL558_0 := Aside0.mk (show Kd.V (Kd.int .i64) 3 _ w.heap.size _ _ ((rd_T29 t527 x52_1).f0) from Kd.V_mk ul558_0 ge558_0)
      clear hva_ hvn_ hvc_ ge558_0 ul558_0
      have hv558_1 := hcc558 1 _ rfl
      rw [add_field _ _ 1 (by omega)] at hv558_1
      replace hv558_1 := Option.some.inj (hv558_1.symm.trans hx558_1)
      injection hv558_1 with hva_ hvn_ hvc_
      rw [hva_] at ge558_1
      rw [hvc_] at ul558_1
      have HL558_1 := Aside0.mk (show Kd.V (Kd.int .i64) 3 _ w.heap.size _ _ ((rd_T29 t527 x52_1).f1) from Kd.V_mk ul558_1 ge558_1)
      clear hva_ hvn_ hvc_ ge558_1 ul558_1
      clear hcc558 hce558
      have HR558_0 := Aside0.mk hi558_0
      have HC558_0 := Aside0.mk hl558_0
      clear hi558_0 hl558_0
      have HR558_1 := Aside0.mk hi558_1
      have HC558_1 := Aside0.mk hl558_1
      clear hi558_1 hl558_1
      replace p558 := eq_true p558
      replace q558 := eq_true q558
      refine start_ (n := 16) (S := fun w' => w'.cell? ⟨gb543, 0, none⟩ = some (.slice (some ad552) t527.length co22) ∧ w'.cell? ⟨gb543, 1, none⟩ = some (.slice Ao23 t530.length co23) ∧ w'.cell? ⟨gb543, 2, none⟩ = some (.slice Ao24 t533.length co24) ∧ w'.cell? ⟨gb543, 3, none⟩ = some (.slice Ao25 t536.length co25) ∧ w'.cell? ⟨gb543, 4, none⟩ = some (.slice Ao26 t539.length co26) ∧ w'.cell? ⟨gb557, 0, none⟩ = some (.int .i64 ((rd_T49 t553 x65_2).f0)) ∧ w'.cell? ⟨gb557, 1, none⟩ = some (.int .i64 ((rd_T49 t553 x65_2).f1)) ∧ w'.cell? (ad552.add ((x52_1).toNat * 2)) = some (.slice A558_0 ((rd_T29 t527 x52_1).f0).length c558_0) ∧ w'.cell? ⟨(ad552.add ((x52_1).toNat * 2)).block, (ad552.add ((x52_1).toNat * 2)).off + 1, none⟩ = some (.slice A558_1 ((rd_T29 t527 x52_1).f1).length c558_1)) (ds := []) (bl 16 0) (by kernel_rfl) rfl rfl ⟨bc0 BK543, bc1 BK543, bc2 BK543, bc3 BK543, bc4 BK543, bc0 BK557, bc1 BK557, hx558_0, hx558_1⟩ (fun hHeld => ?_); refine with_tabW spec_CountPlans.tab17 spec_CountPlans.bits17 (fun HT_ HW_ => ?_)
      generalize w86.drew = w87 at HO_12 HO_63 HO_544000 HO_544001 HO_544002 HO_544003 HO_544004 BK524 BK525 BK543 BK557 HB HL558_0 HL558_1 HR558_0 HR558_1 hx558_0 hx558_1 hHeld ⊢
      refine pu 1 71 (bl 16 2) HT_.out (v := ?_) (a' := ?_) ?_ ?_ ?_
      rotate_left; (intro w'; go_simp; with_reducible rfl); rotate_left; (simp only [sqa, sqb, sqc, sqd, i64_w, i32_w]; rfl)
      refine pu 2 72 (bl 16 6) HT_.out (v := ?_) (a' := ?_) ?_ ?_ ?_
      rotate_left; (intro w'; go_simp; with_reducible rfl); rotate_left; (simp only [sqa, sqb, sqc, sqd, i64_w, i32_w]; rfl)
      refine pu 3 73 (bl 16 14) HT_.out (v := ?_) (a' := ?_) ?_ ?_ ?_
      rotate_left; (intro w'; go_simp; with_reducible rfl); rotate_left; (simp only [sqa, sqb, sqc, sqd, i64_w, i32_w]; rfl)
      refine pu 5 75 (bl 16 46) HT_.out (v := ?_) (a' := ?_) ?_ ?_ ?_
      rotate_left; (intro w'; go_simp; with_reducible rfl); rotate_left; (simp only [sqa, sqb, sqc, sqd, i64_w, i32_w]; rfl)
      refine pu 0 70 (bl 16 47) HT_.out (v := ?_) (a' := ?_) ?_ ?_ ?_
      rotate_left; (intro w'; go_simp; with_reducible rfl); rotate_left; (simp only [sqa, sqb, sqc, sqd, i64_w, i32_w]; rfl)
      refine tk 4 74 (bl 16 63) HT_.out HW_.out hHeld (v := ?_) (a' := ?_) ?_ ?_ ?_
      rotate_left; (rintro w' ⟨s0, s1, s2, s3, s4, s5, s6, s7, s8⟩; go_simp; with_reducible rfl); rotate_left; (simp only [sqa, sqb, sqc, sqd, i64_w, i32_w]; rfl)
      refine pu 6 76 (bl 16 127) HT_.out (v := ?_) (a' := ?_) ?_ ?_ ?_
      rotate_left; (intro w'; go_simp; with_reducible rfl); rotate_left; (simp only [sqa, sqb, sqc, sqd, i64_w, i32_w]; rfl)
      refine tk 7 77 (bl 16 255) HT_.out HW_.out hHeld (v := ?_) (a' := ?_) ?_ ?_ ?_
      rotate_left; (rintro w' ⟨s0, s1, s2, s3, s4, s5, s6, s7, s8⟩; go_simp; with_reducible rfl); rotate_left; (simp only [sqa, sqb, sqc, sqd, i64_w, i32_w]; rfl)
      refine tk 8 78 (bl 16 511) HT_.out HW_.out hHeld (v := ?_) (a' := ?_) ?_ ?_ ?_
      rotate_left; (rintro w' ⟨s0, s1, s2, s3, s4, s5, s6, s7, s8⟩; go_simp; with_reducible rfl); rotate_left; (simp only [sqa, sqb, sqc, sqd, i64_w, i32_w]; rfl)
      refine on 9 79 (bl 16 1023) HT_.out (fun K hK => ?_)
      refine gs Try.func55 #[.agg #[.slice A558_0 ((rd_T29 t527 x52_1).f0).length c558_0, .slice A558_1 ((rd_T29 t527 x52_1).f1).length c558_1], .agg #[.int .i64 ((rd_T49 t553 x65_2).f0), .int .i64 ((rd_T49 t553 x65_2).f1)]] ?_
      with_reducible refine (spec_veMake.calls _ _ ((rd_T29 t527 x52_1).f0) _ _ ((rd_T29 t527 x52_1).f1) ((rd_T49 t553 x65_2).f0) ((rd_T49 t553 x65_2).f1) t559 t562 _ ?side1 ?side2 ?side3 ?side4 A53.out).mono ?_
      (case side1 => repeat (first | exact (by repeat (first | (with_reducible exact HR558_0.out) | (with_reducible refine Kd.C_alloc ?_ _) | (with_reducible refine Kd.C_drewN ?_ _) | (with_reducible refine Kd.C_drew ?_) | exact HR558_0.out)) | (with_reducible refine Kd.C_alloc ?_ _) | (with_reducible refine Kd.C_drewN ?_ _) | (with_reducible refine Kd.C_drew ?_)))
      (case side2 => exact HC558_0.out)
      (case side3 => repeat (first | exact (by repeat (first | (with_reducible exact HR558_1.out) | (with_reducible refine Kd.C_alloc ?_ _) | (with_reducible refine Kd.C_drewN ?_ _) | (with_reducible refine Kd.C_drew ?_) | exact HR558_1.out)) | (with_reducible refine Kd.C_alloc ?_ _) | (with_reducible refine Kd.C_drewN ?_ _) | (with_reducible refine Kd.C_drew ?_)))
      (case side4 => exact HC558_1.out)
      rintro e w88 ⟨v560, v563, rfl, ho0, ho1, hb⟩
      have HS7_ := (hb.cell (World.block_lt_of_cell? _ _ (hHeld.2.2.2.2.2.2.2.1))).trans (hHeld.2.2.2.2.2.2.2.1)
      have HS8_ := (hb.cell (World.block_lt_of_cell? _ _ (hHeld.2.2.2.2.2.2.2.2))).trans (hHeld.2.2.2.2.2.2.2.2)
      refine ⟨_, rfl, ?_⟩
      replace HO_63 := rb HO_63 hb
      replace HO_544000 := Aside0.mk (Kd.N_mono (Kd.N_told (Kd.N_told (Kd.N_old HO_544000.out hb) (Kd.R_base ho0)) (Kd.R_base ho1)) (fun _ h_ => h_.1))
      replace HO_544002 := rb HO_544002 hb
      replace HL558_0 := Aside0.mk (Kd.V_mono (Kd.V_told (Kd.V_told (Kd.V_old HL558_0.out hb) (Kd.R_base ho0)) (Kd.R_base ho1)) (fun _ h_ => h_.1))
      replace HL558_1 := Aside0.mk (Kd.V_mono (Kd.V_told (Kd.V_told (Kd.V_old HL558_1.out hb) (Kd.R_base ho0)) (Kd.R_base ho1)) (fun _ h_ => h_.1))
      have HO561 := Aside0.mk (Kd.R_lower (Kd.R_new' (Kd.R_new' (Kd.R_new' (Kd.R_new' ho0 (Kd.R_lt (rk HO_12))) (Kd.R_lt (rk HO_544001))) (Kd.R_lt (rk HO_544003))) (Kd.R_lt (rk HO_544004))) (below_size (bw HB)))
      have HO564 := Aside0.mk (Kd.R_lower (Kd.R_new' (Kd.R_new' (Kd.R_new' (Kd.R_new' ho1 (Kd.R_lt (rk HO_12))) (Kd.R_lt (rk HO_544001))) (Kd.R_lt (rk HO_544003))) (Kd.R_lt (rk HO_544004))) (below_size (bw HB)))
      replace HO_12 := Aside0.mk (Kd.R_mono (Kd.R_told (Kd.R_told (Kd.R_old (rk HO_12) hb) (Kd.R_base ho0)) (Kd.R_base ho1)) (fun _ h_ => h_.1))
      replace HO_544001 := Aside0.mk (Kd.R_mono (Kd.R_told (Kd.R_told (Kd.R_old (rk HO_544001) hb) (Kd.R_base ho0)) (Kd.R_base ho1)) (fun _ h_ => h_.1))
      replace HO_544003 := Aside0.mk (Kd.R_mono (Kd.R_told (Kd.R_told (Kd.R_old (rk HO_544003) hb) (Kd.R_base ho0)) (Kd.R_base ho1)) (fun _ h_ => h_.1))
      replace HO_544004 := Aside0.mk (Kd.R_mono (Kd.R_told (Kd.R_told (Kd.R_old (rk HO_544004) hb) (Kd.R_base ho0)) (Kd.R_base ho1)) (fun _ h_ => h_.1))
      replace BK524 := bb BK524 hb
      replace BK525 := bb BK525 hb
      replace BK543 := bb BK543 hb
      replace BK557 := bb BK557 hb
      replace HR558_0 := Aside0.mk (Kd.C_below (by repeat (first | (with_reducible exact HR558_0.out) | (with_reducible refine Kd.C_alloc ?_ _) | (with_reducible refine Kd.C_drewN ?_ _) | (with_reducible refine Kd.C_drew ?_) | exact HR558_0.out)) hb)
      replace HR558_1 := Aside0.mk (Kd.C_below (by repeat (first | (with_reducible exact HR558_1.out) | (with_reducible refine Kd.C_alloc ?_ _) | (with_reducible refine Kd.C_drewN ?_ _) | (with_reducible refine Kd.C_drew ?_) | exact HR558_1.out)) hb)
      replace HB := bs HB hb
      (try clear hb); (try clear hb2); (try clear hk); (try clear hi); (try clear ho0); (try clear ho1)
      obtain ⟨Ao89, co89, eo89⟩ := Kd.R_slice HO561.out
      (first | subst eo89 | (injection eo89 with f1_ f2_ f3_; have f4_ := f1_.symm; have f5_ := f3_.symm; clear f1_ f2_ f3_; subst f4_; subst f5_))
      obtain ⟨Ao90, co90, eo90⟩ := Kd.R_slice HO564.out
      (first | subst eo90 | (injection eo90 with f1_ f2_ f3_; have f4_ := f1_.symm; have f5_ := f3_.symm; clear f1_ f2_ f3_; subst f4_; subst f5_))
      refine hK.out _ _ ⟨bc0 BK543, bc1 BK543, bc2 BK543, bc3 BK543, bc4 BK543, bc0 BK557, bc1 BK557, HS7_, HS8_⟩ (fun hHeld => ?_)
      clear hK K
      refine norm_ (a' := ?_) ?_ ?_; rotate_left; (show Act.put _ (some 79) _ = _; simp only [sqa, sqb, sqc, sqd, i64_w, i32_w]; rfl)
      refine on 10 80 (bl 16 2047) HT_.out (fun K hK => ?_)
      refine gs Try.func67 #[.pointer (some ⟨gb543, 0, none⟩), .agg #[.slice Ao89 t559.length co89, .slice Ao90 t562.length co90]] ?_
      with_reducible refine (spec_plPlace.calls k2 (some ad552) co22 t527 Ao23 co23 t530 Ao24 co24 t533 Ao25 co25 t536 Ao26 co26 t539 _ _ t559 _ _ t562 t565 t566 _ gb543 ?side0 ?side1 ?side2 ?side3 ?side4 ?side5 ?side6 ?side7 ?side8 ?side9 ?side10 ?side11 ?side12 ?side13 ?side14 A54.out).mono ?_
      (case side0 => exact bk BK543)
      (case side1 => repeat (first | exact (Kd.N_reads' HO_544000.out).2.2 | (with_reducible refine Kd.C_alloc ?_ _) | (with_reducible refine Kd.C_drewN ?_ _) | (with_reducible refine Kd.C_drew ?_)))
      (case side2 => exact (Kd.N_reads' HO_544000.out).2.1)
      (case side3 => exact cr HO_544001)
      (case side4 => exact (Kd.R_reads' HO_544001.out).2.1)
      (case side5 => exact cr HO_544002)
      (case side6 => exact (Kd.R_reads' HO_544002.out).2.1)
      (case side7 => exact cr HO_544003)
      (case side8 => exact (Kd.R_reads' HO_544003.out).2.1)
      (case side9 => exact cr HO_544004)
      (case side10 => exact (Kd.R_reads' HO_544004.out).2.1)
      (case side11 => exact cr HO561)
      (case side12 => exact (Kd.R_reads' HO561.out).2.1)
      (case side13 => exact cr HO564)
      (case side14 => exact (Kd.R_reads' HO564.out).2.1)
      rintro e w91 ⟨rfl, hb⟩
      have HS7_ := (hb.cell (World.block_lt_of_cell? _ _ (hHeld.2.2.2.2.2.2.2.1))).trans (hHeld.2.2.2.2.2.2.2.1)
      have HS8_ := (hb.cell (World.block_lt_of_cell? _ _ (hHeld.2.2.2.2.2.2.2.2))).trans (hHeld.2.2.2.2.2.2.2.2)
      refine ⟨_, rfl, ?_⟩
      replace HO_12 := rb HO_12 hb
      replace HO_63 := rb HO_63 hb
      replace HO_544000 := Aside0.mk (Kd.N_below HO_544000.out hb)
      replace HO_544001 := rb HO_544001 hb
      replace HO_544002 := rb HO_544002 hb
      replace HO_544003 := rb HO_544003 hb
      replace HO_544004 := rb HO_544004 hb
      replace HL558_0 := Aside0.mk (Kd.V_below HL558_0.out hb)
      replace HL558_1 := Aside0.mk (Kd.V_below HL558_1.out hb)
      replace HO561 := rb HO561 hb
      replace HO564 := rb HO564 hb
      replace BK524 := bb BK524 hb
      replace BK525 := bb BK525 hb
      replace BK543 := bb BK543 hb
      replace BK557 := bb BK557 hb
      replace HR558_0 := Aside0.mk (Kd.C_below (by repeat (first | (with_reducible exact HR558_0.out) | (with_reducible refine Kd.C_alloc ?_ _) | (with_reducible refine Kd.C_drewN ?_ _) | (with_reducible refine Kd.C_drew ?_) | exact HR558_0.out)) hb)
      replace HR558_1 := Aside0.mk (Kd.C_below (by repeat (first | (with_reducible exact HR558_1.out) | (with_reducible refine Kd.C_alloc ?_ _) | (with_reducible refine Kd.C_drewN ?_ _) | (with_reducible refine Kd.C_drew ?_) | exact HR558_1.out)) hb)
      replace HB := bs HB hb
      (try clear hb); (try clear hb2); (try clear hk); (try clear hi)
      refine hK.out _ _ ⟨bc0 BK543, bc1 BK543, bc2 BK543, bc3 BK543, bc4 BK543, bc0 BK557, bc1 BK557, HS7_, HS8_⟩ (fun hHeld => ?_)
      clear hK K
      refine norm_ (a' := ?_) ?_ ?_; rotate_left; (show Act.put _ (some 80) _ = _; simp only [sqa, sqb, sqc, sqd, i64_w, i32_w]; rfl)
      refine pu 11 69 (bl 16 4095) HT_.out (v := ?_) (a' := ?_) ?_ ?_ ?_
      rotate_left; (intro w'; go_simp; with_reducible rfl); rotate_left; (simp only [sqa, sqb, sqc, sqd, i64_w, i32_w]; rfl)
      refine pu 12 81 (bl 16 8191) HT_.out (v := ?_) (a' := ?_) ?_ ?_ ?_
      rotate_left; (intro w'; go_simp; with_reducible rfl); rotate_left; (simp only [sqa, sqb, sqc, sqd, i64_w, i32_w]; rfl)
      refine pu 13 82 (bl 16 16383) HT_.out (v := ?_) (a' := ?_) ?_ ?_ ?_
      rotate_left; (intro w'; go_simp; with_reducible rfl); rotate_left; (simp only [sqa, sqb, sqc, sqd, i64_w, i32_w]; rfl)
      refine pu 14 16 (bl 16 32767) HT_.out (v := ?_) (a' := ?_) ?_ ?_ ?_
      rotate_left; (intro w'; go_simp; with_reducible rfl); rotate_left; (simp only [sqa, sqb, sqc, sqd, i64_w, i32_w]; rfl)
      refine pu 15 17 (bl 16 65535) HT_.out (v := ?_) (a' := ?_) ?_ ?_ ?_
      rotate_left; (intro w'; go_simp; with_reducible rfl); rotate_left; (simp only [sqa, sqb, sqc, sqd, i64_w, i32_w]; rfl)
      refine done_ (done_of HT_.out (by kernel_rfl)) ?_
      have hnb92 := NB543_524.out
      have hnc92 := NB524_543.out
      have hnb93 := NB543_525.out
      have hnc93 := NB525_543.out
      have hcz94_0 := bc0 BK543
      have hcz94_1 := bc1 BK543
      have hcz94_2 := bc2 BK543
      have hcz94_3 := bc3 BK543
      have hcz94_4 := bc4 BK543
      have hfz94_0 := blk_frozen BK543.out 0
      have hfz94_1 := blk_frozen BK543.out 1
      have hfz94_2 := blk_frozen BK543.out 2
      have hfz94_3 := blk_frozen BK543.out 3
      have hfz94_4 := blk_frozen BK543.out 4
      have p567 : 0 ≤ (t565 : Int) := of_decide_eq_true ‹_›
      have q567 : t565 < (t539.length : Int) := of_decide_eq_true ‹_›
      obtain ⟨ad567, e567, hx567_0⟩ := Kd.at_int (Kd.R_reads' HO_544004.out).2.2 t565 p567 q567
      cases e567
      replace p567 := eq_true p567
      replace q567 := eq_true q567
      try go_wp2
      replace HO_12 := Aside0.mk (Kd.R_drew HO_12.out)
      replace HO_63 := Aside0.mk (Kd.R_drew HO_63.out)
      replace HO_544000 := Aside0.mk (Kd.N_drew HO_544000.out)
      replace HO_544001 := Aside0.mk (Kd.R_drew HO_544001.out)
      replace HO_544002 := Aside0.mk (Kd.R_drew HO_544002.out)
      replace HO_544003 := Aside0.mk (Kd.R_drew HO_544003.out)
      replace HO_544004 := Aside0.mk (Kd.R_drew HO_544004.out)
      replace HL558_0 := Aside0.mk (Kd.V_drew HL558_0.out)
      replace HL558_1 := Aside0.mk (Kd.V_drew HL558_1.out)
      replace HO561 := Aside0.mk (Kd.R_drew HO561.out)
      replace HO564 := Aside0.mk (Kd.R_drew HO564.out)
      replace BK524 := Aside0.mk (blk_drew BK524.out)
      replace BK525 := Aside0.mk (blk_drew BK525.out)
      replace BK543 := Aside0.mk (blk_drew BK543.out)
      replace BK557 := Aside0.mk (blk_drew BK557.out)
      replace HR558_0 := Aside0.mk (Kd.C_drew HR558_0.out)
      replace HR558_1 := Aside0.mk (Kd.C_drew HR558_1.out)
      replace HB := Aside0.mk (below_drew1 HB.out)
      have p568 : 0 ≤ ((rd t539 t565) : Int) := of_decide_eq_true ‹_›
      have q568 : (rd t539 t565) < (t536.length : Int) := of_decide_eq_true ‹_›
      obtain ⟨ad568, e568, hx568_0⟩ := Kd.at_int (Kd.R_reads' HO_544003.out).2.2 (rd t539 t565) p568 q568
      cases e568
      replace p568 := eq_true p568
      replace q568 := eq_true q568
      have p569 : 0 ≤ (x52_1 : Int) := of_decide_eq_true ‹_›
      have q569 : x52_1 < (t536.length : Int) := of_decide_eq_true ‹_›
      obtain ⟨ad569, e569, hx569_0⟩ := Kd.at_int (Kd.R_reads' HO_544003.out).2.2 x52_1 p569 q569
      obtain rfl : ad568 = ad569 := (by injection e569)
      replace p569 := eq_true p569
      replace q569 := eq_true q569
      refine start_ (n := 16) (S := fun w' => w'.cell? ⟨gb543, 0, none⟩ = some (.slice (some ad552) t527.length co22) ∧ w'.cell? ⟨gb543, 1, none⟩ = some (.slice Ao23 t530.length co23) ∧ w'.cell? ⟨gb543, 2, none⟩ = some (.slice Ao24 t533.length co24) ∧ w'.cell? ⟨gb543, 3, none⟩ = some (.slice (some ad568) t536.length co25) ∧ w'.cell? ⟨gb543, 4, none⟩ = some (.slice (some ad567) t539.length co26) ∧ w'.cell? (ad568.add ((rd t539 t565)).toNat) = some (.int .i64 (rd t536 (rd t539 t565))) ∧ w'.cell? (ad568.add (x52_1).toNat) = some (.int .i64 (rd t536 x52_1))) (ds := []) (bl 16 0) (by kernel_rfl) rfl rfl ⟨bc0 BK543, bc1 BK543, bc2 BK543, bc3 BK543, bc4 BK543, hx568_0, hx569_0⟩ (fun hHeld => ?_); refine with_tabW spec_CountPlans.tab19 spec_CountPlans.bits19 (fun HT_ HW_ => ?_)
      generalize w91.drew = w95 at HO_12 HO_63 HO_544000 HO_544001 HO_544002 HO_544003 HO_544004 HL558_0 HL558_1 HO561 HO564 BK524 BK525 BK543 BK557 HR558_0 HR558_1 HB hx568_0 hx569_0 hHeld ⊢
      refine pu 0 90 (bl 16 1) HT_.out (v := ?_) (a' := ?_) ?_ ?_ ?_
      rotate_left; (intro w'; go_simp; with_reducible rfl); rotate_left; (simp only [sqa, sqb, sqc, sqd, i64_w, i32_w]; rfl)
      refine pu 1 91 (bl 16 3) HT_.out (v := ?_) (a' := ?_) ?_ ?_ ?_
      rotate_left; (intro w'; go_simp; with_reducible rfl); rotate_left; (simp only [sqa, sqb, sqc, sqd, i64_w, i32_w]; rfl)
      refine pu 2 92 (bl 16 7) HT_.out (v := ?_) (a' := ?_) ?_ ?_ ?_
      rotate_left; (intro w'; go_simp; with_reducible rfl); rotate_left; (simp only [sqa, sqb, sqc, sqd, i64_w, i32_w]; rfl)
      refine pu 4 94 (bl 16 23) HT_.out (v := ?_) (a' := ?_) ?_ ?_ ?_
      rotate_left; (intro w'; go_simp; with_reducible rfl); rotate_left; (simp only [sqa, sqb, sqc, sqd, i64_w, i32_w]; rfl)
      refine pu 7 97 (bl 16 151) HT_.out (v := ?_) (a' := ?_) ?_ ?_ ?_
      rotate_left; (intro w'; go_simp; with_reducible rfl); rotate_left; (simp only [sqa, sqb, sqc, sqd, i64_w, i32_w]; rfl)
      refine pu 8 98 (bl 16 407) HT_.out (v := ?_) (a' := ?_) ?_ ?_ ?_
      rotate_left; (intro w'; go_simp; with_reducible rfl); rotate_left; (simp only [sqa, sqb, sqc, sqd, i64_w, i32_w]; rfl)
      refine pu 9 99 (bl 16 919) HT_.out (v := ?_) (a' := ?_) ?_ ?_ ?_
      rotate_left; (intro w'; go_simp; with_reducible rfl); rotate_left; (simp only [sqa, sqb, sqc, sqd, i64_w, i32_w]; rfl)
      refine pu 11 101 (bl 16 2967) HT_.out (v := ?_) (a' := ?_) ?_ ?_ ?_
      rotate_left; (intro w'; go_simp; with_reducible rfl); rotate_left; (simp only [sqa, sqb, sqc, sqd, i64_w, i32_w]; rfl)
      refine tk 3 93 (bl 16 2975) HT_.out HW_.out hHeld (v := ?_) (a' := ?_) ?_ ?_ ?_
      rotate_left; (rintro w' ⟨s0, s1, s2, s3, s4, s5, s6⟩; go_simp; with_reducible rfl); rotate_left; (simp only [sqa, sqb, sqc, sqd, i64_w, i32_w]; rfl)
      refine pu 5 95 (bl 16 3007) HT_.out (v := ?_) (a' := ?_) ?_ ?_ ?_
      rotate_left; (intro w'; go_simp; with_reducible rfl); rotate_left; (simp only [sqa, sqb, sqc, sqd, i64_w, i32_w]; rfl)
      refine tk 6 96 (bl 16 3071) HT_.out HW_.out hHeld (v := ?_) (a' := ?_) ?_ ?_ ?_
      rotate_left; (rintro w' ⟨s0, s1, s2, s3, s4, s5, s6⟩; go_simp; with_reducible rfl); rotate_left; (simp only [sqa, sqb, sqc, sqd, i64_w, i32_w]; rfl)
      refine tk 10 100 (bl 16 4095) HT_.out HW_.out hHeld (v := ?_) (a' := ?_) ?_ ?_ ?_
      rotate_left; (rintro w' ⟨s0, s1, s2, s3, s4, s5, s6⟩; go_simp; with_reducible rfl); rotate_left; (simp only [sqa, sqb, sqc, sqd, i64_w, i32_w]; rfl)
      refine pu 12 102 (bl 16 8191) HT_.out (v := ?_) (a' := ?_) ?_ ?_ ?_
      rotate_left; (intro w'; go_simp; with_reducible rfl); rotate_left; (simp only [sqa, sqb, sqc, sqd, i64_w, i32_w]; rfl)
      refine tk 13 103 (bl 16 16383) HT_.out HW_.out hHeld (v := ?_) (a' := ?_) ?_ ?_ ?_
      rotate_left; (rintro w' ⟨s0, s1, s2, s3, s4, s5, s6⟩; go_simp; with_reducible rfl); rotate_left; (simp only [sqa, sqb, sqc, sqd, i64_w, i32_w]; rfl)
      refine pu 14 104 (bl 16 32767) HT_.out (v := ?_) (a' := ?_) ?_ ?_ ?_
      rotate_left; (intro w'; go_simp; with_reducible rfl); rotate_left; (simp only [sqa, sqb, sqc, sqd, i64_w, i32_w]; rfl)
      refine pu 15 105 (bl 16 65535) HT_.out (v := ?_) (a' := ?_) ?_ ?_ ?_
      rotate_left; (intro w'; go_simp; with_reducible rfl); rotate_left; (simp only [sqa, sqb, sqc, sqd, i64_w, i32_w]; rfl)
      refine done_ (done_of HT_.out (by kernel_rfl)) ?_
      try go_wp2
      (try simp only [← hl12_2])
      go_roundg k2
      case measure => have := HK1.out; have := HK2.out; omega
      case rel => exact ⟨(x12_2), (wrap64 (x65_2 + 1)), (by first | rfl | (simp; done) | (simp [*]; done)), H', ⟨by have := HK1.out; have := HK2.out; omega⟩, ⟨by (try simp only [hl12_1]); (try simp only [hl12_2]); exact Kd.R_mono HO_12.out (fun _ hk => ⟨hk.1.1.1, ⟨hk.1.1.2.1, hk.1.1.2.2⟩⟩)⟩, ⟨by (try simp only [hl12_1]); (try simp only [hl12_2]); exact Kd.R_mono HO_63.out (fun _ hk => hk.1)⟩, ⟨by (try simp only [hl12_1]); (try simp only [hl12_2]); exact Kd.N_mono HO_544000.out (fun _ hk => ⟨hk.1.1.1, ⟨hk.1.1.2.1, ⟨hk.1.1.2.2.1, ⟨hk.1.1.2.2.2.1, ⟨hk.1.1.2.2.2.2.1, ⟨hk.1.1.2.2.2.2.2.1, ⟨hk.1.1.2.2.2.2.2.2.1, ⟨hk.1.1.2.2.2.2.2.2.2.1, hk.1.1.2.2.2.2.2.2.2.2.1⟩⟩⟩⟩⟩⟩⟩⟩)⟩, ⟨by (try simp only [hl12_1]); (try simp only [hl12_2]); exact Kd.R_mono HO_544001.out (fun _ hk => ⟨hk.1.1.1, ⟨hk.1.1.2.1, hk.1.1.2.2⟩⟩)⟩, ⟨by (try simp only [hl12_1]); (try simp only [hl12_2]); exact Kd.R_mono HO_544002.out (fun _ hk => hk.1)⟩, ⟨by (try simp only [hl12_1]); (try simp only [hl12_2]); exact Kd.R_mono HO_544003.out (fun _ hk => ⟨hk.1.1.1, ⟨hk.1.1.2.1, hk.1.1.2.2⟩⟩)⟩, ⟨by (try simp only [hl12_1]); (try simp only [hl12_2]); exact Kd.R_mono HO_544004.out (fun _ hk => ⟨hk.1.1.1, ⟨hk.1.1.2.1, hk.1.1.2.2⟩⟩)⟩, ⟨by (try simp only [hl12_1]); (try simp only [hl12_2]); exact bk BK524⟩, ⟨by (try simp only [hl12_1]); (try simp only [hl12_2]); exact bk BK525⟩, ⟨by (try simp only [hl12_1]); (try simp only [hl12_2]); exact bk BK543⟩, ⟨bw HB⟩⟩
     rw [if_pos c60] at H
     have c60b0 : ((rd t536 (rd t539 t565)) == (wrap64 ((rd t536 x52_1) + 1))) = true := beq_iff_eq.mpr c60
     have c60b1 : ((rd t536 (rd t539 t565)) != (wrap64 ((rd t536 x52_1) + 1))) = false := bne_eq_false_iff_eq.mpr c60
     clear c60
     by_cases c61 : (rd t539 t565) < (x12_2.length : Int)
     rotate_left
     ·rw [if_neg c61] at H
      exact absurd H (by simp)
     rw [if_pos c61] at H
     have c61b0 : decide ((rd t539 t565) < (x12_2.length : Int)) = true := decide_eq_true c61
     clear c61
     by_cases c62 : x52_1 < (x12_2.length : Int)
     rotate_left
     ·rw [if_neg c62] at H
      exact absurd H (by simp)
     rw [if_pos c62] at H
     have c62b0 : decide (x52_1 < (x12_2.length : Int)) = true := decide_eq_true c62
     clear c62
     obtain ⟨y572, hy572⟩ : ∃ y_ : List Int, y_ = (x12_2.set ((rd t539 t565) : Int).toNat (wrap64 ((rd x12_2 (rd t539 t565)) + (rd x12_2 x52_1)))) := ⟨_, rfl⟩
     replace H : (spec_CountPlans.l1 k2 a2 t544 y572 x52_1 (t527.length : Int) x52_1 t553 (t553.length : Int) (wrap64 (x65_2 + 1)) t527 t530 t533 t536 t539) = some (r1, r2) := by first | (rw [hy572]; with_reducible exact H) | (have H2_ := (Option.bind_some _ _).symm.trans H; rw [hy572]; with_reducible exact H2_) | (have H2_ := (Option.bind_some _ _).symm.trans H; with_reducible exact H2_) | with_reducible exact H | (rw [hy572]; exact H) | exact H
     have Ny572 := Aside0.mk hy572
     clear hy572
     have H' := Aside0.mk H
     clear H
     have p556 : 0 ≤ (x65_2 : Int) := of_decide_eq_true ‹_›
     have q556 : x65_2 < (t553.length : Int) := of_decide_eq_true ‹_›
     obtain ⟨ad556, e556, hx556_0, hx556_1⟩ := at_T49 (Kd.R_reads' HO_63.out).2.2 x65_2 p556 q556
     cases e556
     replace p556 := eq_true p556
     replace q556 := eq_true q556
     try go_wp2_with (first | ((with_reducible refine gate_dst (N := 15) rfl ?_); refine bx 15 #[.int .i64 0, .int .i64 0] 49 ?_; intro gb557 hg w64 hbox hb; replace HO_12 := rb HO_12 hb; replace HO_63 := Aside0.mk (Kd.R_below (Kd.R_elderB (rk HO_63) gb557 (Nat.le_of_eq hg.symm)) hb); replace HO_544000 := Aside0.mk (Kd.N_below (Kd.N_elderB HO_544000.out gb557 (Nat.le_of_eq hg.symm)) hb); replace HO_544001 := rb HO_544001 hb; replace HO_544002 := Aside0.mk (Kd.R_below (Kd.R_elderB (rk HO_544002) gb557 (Nat.le_of_eq hg.symm)) hb); replace HO_544003 := rb HO_544003 hb; replace HO_544004 := rb HO_544004 hb; have BK557 := Aside0.mk (hbox); have GW557 := ge HB hg; have GE557 := ge HB hg; replace HB := bs HB hb; have NB524_557 := nl BK524 hg; have NB557_524 := nr BK524 hg; replace BK524 := bb BK524 hb; have NB525_557 := nl BK525 hg; have NB557_525 := nr BK525 hg; replace BK525 := bb BK525 hb; have NB543_557 := nl BK543 hg; have NB557_543 := nr BK543 hg; replace BK543 := bb BK543 hb; clear hb hbox hg; have hnb65 := NB557_524.out; have hnc65 := NB524_557.out; have hnb66 := NB557_525.out; have hnc66 := NB525_557.out; have hnb67 := NB557_543.out; have hnc67 := NB543_557.out; have hcz68_0 := bc0 BK557; have hcz68_1 := bc1 BK557; have hfz68_0 := blk_frozen BK557.out 0; have hfz68_1 := blk_frozen BK557.out 1))
     have n0_ : Aside0 (Kd.R (Kd.int .i64) 3 ((w64.setCell ⟨gb557, 0, none⟩ (.int .i64 ((rd_T49 t553 x65_2).f0))).setCell ⟨gb557, 1, none⟩ (.int .i64 ((rd_T49 t553 x65_2).f1))) w.heap.size (fun k_ => some k_ ≠ (.slice Ao23 t530.length co23 : Value).ownBlock ∧ some k_ ≠ (.slice Ao25 t536.length co25 : Value).ownBlock ∧ some k_ ≠ (.slice Ao26 t539.length co26 : Value).ownBlock) (.slice (some ⟨go13, 0, none⟩) x12_2.length co13) x12_2) := ⟨by exact Kd.R_mono (Kd.R_far (p := ⟨gb557, 1, none⟩) (Kd.R_far (p := ⟨gb557, 0, none⟩) (Kd.R_types HO_12.out BK557.out (by decide)) (fun _ hk => hk.2) (.int .i64 ((rd_T49 t553 x65_2).f0))) (fun _ hk => hk.2) (.int .i64 ((rd_T49 t553 x65_2).f1))) (fun _ hk => ⟨hk.1.1, ⟨hk.1.2.1, hk.1.2.2⟩⟩)⟩
     have n1_ : Aside0 (Kd.R k49 49 ((w64.setCell ⟨gb557, 0, none⟩ (.int .i64 ((rd_T49 t553 x65_2).f0))).setCell ⟨gb557, 1, none⟩ (.int .i64 ((rd_T49 t553 x65_2).f1))) w.heap.size (fun k_ => some k_ ≠ (.slice Ao24 t533.length co24 : Value).ownBlock ∧ k_ ≠ gb557) (.slice (some ad556) t553.length co47) t553) := ⟨by exact Kd.R_mono (Kd.R_far (p := ⟨gb557, 1, none⟩) (Kd.R_far (p := ⟨gb557, 0, none⟩) (Kd.R_mono HO_63.out (fun k_ hk => (⟨hk, hk.2⟩ : _ ∧ k_ ≠ gb557))) (fun _ hk => hk.2) (.int .i64 ((rd_T49 t553 x65_2).f0))) (fun _ hk => hk.2) (.int .i64 ((rd_T49 t553 x65_2).f1))) (fun _ hk => ⟨hk.1.1, hk.1.2⟩)⟩
     have n2_ : Aside0 (Kd.N k29 29 ((w64.setCell ⟨gb557, 0, none⟩ (.int .i64 ((rd_T49 t553 x65_2).f0))).setCell ⟨gb557, 1, none⟩ (.int .i64 ((rd_T49 t553 x65_2).f1))) w.heap.size (fun k_ => some k_ ≠ (.slice (some ⟨go13, 0, none⟩) x12_2.length co13 : Value).ownBlock ∧ some k_ ≠ (.slice (some ad556) t553.length co47 : Value).ownBlock ∧ some k_ ≠ (.slice Ao23 t530.length co23 : Value).ownBlock ∧ some k_ ≠ (.slice Ao24 t533.length co24 : Value).ownBlock ∧ some k_ ≠ (.slice Ao25 t536.length co25 : Value).ownBlock ∧ some k_ ≠ (.slice Ao26 t539.length co26 : Value).ownBlock ∧ k_ ≠ gb524 ∧ k_ ≠ gb525 ∧ k_ ≠ gb543 ∧ k_ ≠ gb557) (.slice (some ad552) t527.length co22) t527) := ⟨by exact Kd.N_mono (Kd.N_far (p := ⟨gb557, 1, none⟩) (Kd.N_far (p := ⟨gb557, 0, none⟩) (Kd.N_mono HO_544000.out (fun k_ hk => (⟨hk, hk.2⟩ : _ ∧ k_ ≠ gb557))) (fun _ hk => hk.2) (.int .i64 ((rd_T49 t553 x65_2).f0))) (fun _ hk => hk.2) (.int .i64 ((rd_T49 t553 x65_2).f1))) (fun _ hk => ⟨hk.1.1.1, ⟨hk.1.1.2.1, ⟨hk.1.1.2.2.1, ⟨hk.1.1.2.2.2.1, ⟨hk.1.1.2.2.2.2.1, ⟨hk.1.1.2.2.2.2.2.1, ⟨hk.1.1.2.2.2.2.2.2.1, ⟨hk.1.1.2.2.2.2.2.2.2.1, ⟨hk.1.1.2.2.2.2.2.2.2.2, hk.1.2⟩⟩⟩⟩⟩⟩⟩⟩⟩)⟩
     have n3_ : Aside0 (Kd.R (Kd.int .i64) 3 ((w64.setCell ⟨gb557, 0, none⟩ (.int .i64 ((rd_T49 t553 x65_2).f0))).setCell ⟨gb557, 1, none⟩ (.int .i64 ((rd_T49 t553 x65_2).f1))) w.heap.size (fun k_ => some k_ ≠ (.slice (some ⟨go13, 0, none⟩) x12_2.length co13 : Value).ownBlock ∧ some k_ ≠ (.slice Ao25 t536.length co25 : Value).ownBlock ∧ some k_ ≠ (.slice Ao26 t539.length co26 : Value).ownBlock) (.slice Ao23 t530.length co23) t530) := ⟨by exact Kd.R_mono (Kd.R_far (p := ⟨gb557, 1, none⟩) (Kd.R_far (p := ⟨gb557, 0, none⟩) (Kd.R_types HO_544001.out BK557.out (by decide)) (fun _ hk => hk.2) (.int .i64 ((rd_T49 t553 x65_2).f0))) (fun _ hk => hk.2) (.int .i64 ((rd_T49 t553 x65_2).f1))) (fun _ hk => ⟨hk.1.1, ⟨hk.1.2.1, hk.1.2.2⟩⟩)⟩
     have n4_ : Aside0 (Kd.R k49 49 ((w64.setCell ⟨gb557, 0, none⟩ (.int .i64 ((rd_T49 t553 x65_2).f0))).setCell ⟨gb557, 1, none⟩ (.int .i64 ((rd_T49 t553 x65_2).f1))) w.heap.size (fun k_ => some k_ ≠ (.slice (some ad556) t553.length co47 : Value).ownBlock ∧ k_ ≠ gb557) (.slice Ao24 t533.length co24) t533) := ⟨by exact Kd.R_mono (Kd.R_far (p := ⟨gb557, 1, none⟩) (Kd.R_far (p := ⟨gb557, 0, none⟩) (Kd.R_mono HO_544002.out (fun k_ hk => (⟨hk, hk.2⟩ : _ ∧ k_ ≠ gb557))) (fun _ hk => hk.2) (.int .i64 ((rd_T49 t553 x65_2).f0))) (fun _ hk => hk.2) (.int .i64 ((rd_T49 t553 x65_2).f1))) (fun _ hk => ⟨hk.1.1, hk.1.2⟩)⟩
     have n5_ : Aside0 (Kd.R (Kd.int .i64) 3 ((w64.setCell ⟨gb557, 0, none⟩ (.int .i64 ((rd_T49 t553 x65_2).f0))).setCell ⟨gb557, 1, none⟩ (.int .i64 ((rd_T49 t553 x65_2).f1))) w.heap.size (fun k_ => some k_ ≠ (.slice (some ⟨go13, 0, none⟩) x12_2.length co13 : Value).ownBlock ∧ some k_ ≠ (.slice Ao23 t530.length co23 : Value).ownBlock ∧ some k_ ≠ (.slice Ao26 t539.length co26 : Value).ownBlock) (.slice Ao25 t536.length co25) t536) := ⟨by exact Kd.R_mono (Kd.R_far (p := ⟨gb557, 1, none⟩) (Kd.R_far (p := ⟨gb557, 0, none⟩) (Kd.R_types HO_544003.out BK557.out (by decide)) (fun _ hk => hk.2) (.int .i64 ((rd_T49 t553 x65_2).f0))) (fun _ hk => hk.2) (.int .i64 ((rd_T49 t553 x65_2).f1))) (fun _ hk => ⟨hk.1.1, ⟨hk.1.2.1, hk.1.2.2⟩⟩)⟩
     have n6_ : Aside0 (Kd.R (Kd.int .i64) 3 ((w64.setCell ⟨gb557, 0, none⟩ (.int .i64 ((rd_T49 t553 x65_2).f0))).setCell ⟨gb557, 1, none⟩ (.int .i64 ((rd_T49 t553 x65_2).f1))) w.heap.size (fun k_ => some k_ ≠ (.slice (some ⟨go13, 0, none⟩) x12_2.length co13 : Value).ownBlock ∧ some k_ ≠ (.slice Ao23 t530.length co23 : Value).ownBlock ∧ some k_ ≠ (.slice Ao25 t536.length co25 : Value).ownBlock) (.slice Ao26 t539.length co26) t539) := ⟨by exact Kd.R_mono (Kd.R_far (p := ⟨gb557, 1, none⟩) (Kd.R_far (p := ⟨gb557, 0, none⟩) (Kd.R_types HO_544004.out BK557.out (by decide)) (fun _ hk => hk.2) (.int .i64 ((rd_T49 t553 x65_2).f0))) (fun _ hk => hk.2) (.int .i64 ((rd_T49 t553 x65_2).f1))) (fun _ hk => ⟨hk.1.1, ⟨hk.1.2.1, hk.1.2.2⟩⟩)⟩
     have n7_ : Aside0 (((w64.setCell ⟨gb557, 0, none⟩ (.int .i64 ((rd_T49 t553 x65_2).f0))).setCell ⟨gb557, 1, none⟩ (.int .i64 ((rd_T49 t553 x65_2).f1))).heap[gb524]? = some (.cells #[.slice A0_0 l0_0.length c0_0, .slice A0_1 l0_1.length c0_1] 29 (0, 0))) := ⟨bk BK524⟩
     have n8_ : Aside0 (((w64.setCell ⟨gb557, 0, none⟩ (.int .i64 ((rd_T49 t553 x65_2).f0))).setCell ⟨gb557, 1, none⟩ (.int .i64 ((rd_T49 t553 x65_2).f1))).heap[gb525]? = some (.cells #[.slice A1_0 l1_0.length c1_0, .slice A1_1 l1_1.length c1_1] 29 (0, 0))) := ⟨bk BK525⟩
     have n9_ : Aside0 (((w64.setCell ⟨gb557, 0, none⟩ (.int .i64 ((rd_T49 t553 x65_2).f0))).setCell ⟨gb557, 1, none⟩ (.int .i64 ((rd_T49 t553 x65_2).f1))).heap[gb543]? = some (.cells #[.slice (some ad552) t527.length co22, .slice Ao23 t530.length co23, .slice Ao24 t533.length co24, .slice Ao25 t536.length co25, .slice Ao26 t539.length co26] 80 (0, 0))) := ⟨bk BK543⟩
     have n10_ : Aside0 (((w64.setCell ⟨gb557, 0, none⟩ (.int .i64 ((rd_T49 t553 x65_2).f0))).setCell ⟨gb557, 1, none⟩ (.int .i64 ((rd_T49 t553 x65_2).f1))).heap[gb557]? = some (.cells #[.int .i64 ((rd_T49 t553 x65_2).f0), .int .i64 ((rd_T49 t553 x65_2).f1)] 49 (0, 0))) := ⟨by refine blk_put (cs := #[.int .i64 ((rd_T49 t553 x65_2).f0), .int .i64 0]) ?_ 1 _ rfl; refine blk_put (cs := #[.int .i64 0, .int .i64 0]) ?_ 0 _ rfl; exact bk BK557⟩
     have n11_ : Aside0 (Below w.heap.size w ((w64.setCell ⟨gb557, 0, none⟩ (.int .i64 ((rd_T49 t553 x65_2).f0))).setCell ⟨gb557, 1, none⟩ (.int .i64 ((rd_T49 t553 x65_2).f1)))) := ⟨bw HB⟩
     (try clear HO_12); (try clear HO_63); (try clear HO_544000); (try clear HO_544001); (try clear HO_544002); (try clear HO_544003); (try clear HO_544004); (try clear BK524); (try clear BK525); (try clear BK543); (try clear BK557); (try clear HB)
     generalize ((w64.setCell ⟨gb557, 0, none⟩ (.int .i64 ((rd_T49 t553 x65_2).f0))).setCell ⟨gb557, 1, none⟩ (.int .i64 ((rd_T49 t553 x65_2).f1))) = w69 at n0_ n1_ n2_ n3_ n4_ n5_ n6_ n7_ n8_ n9_ n10_ n11_ ⊢
     have HO_12 := n0_
     have HO_63 := n1_
     have HO_544000 := n2_
     have HO_544001 := n3_
     have HO_544002 := n4_
     have HO_544003 := n5_
     have HO_544004 := n6_
     have BK524 := n7_
     have BK525 := n8_
     have BK543 := n9_
     have BK557 := n10_
     have HB := n11_
     clear n0_ n1_ n2_ n3_ n4_ n5_ n6_ n7_ n8_ n9_ n10_ n11_
     replace HO_12 := Aside0.mk (Kd.R_drew HO_12.out)
     replace HO_63 := Aside0.mk (Kd.R_drew HO_63.out)
     replace HO_544000 := Aside0.mk (Kd.N_drew HO_544000.out)
     replace HO_544001 := Aside0.mk (Kd.R_drew HO_544001.out)
     replace HO_544002 := Aside0.mk (Kd.R_drew HO_544002.out)
     replace HO_544003 := Aside0.mk (Kd.R_drew HO_544003.out)
     replace HO_544004 := Aside0.mk (Kd.R_drew HO_544004.out)
     replace BK524 := Aside0.mk (blk_drew BK524.out)
     replace BK525 := Aside0.mk (blk_drew BK525.out)
     replace BK543 := Aside0.mk (blk_drew BK543.out)
     replace BK557 := Aside0.mk (blk_drew BK557.out)
     replace HB := Aside0.mk (below_drew1 HB.out)
     have p558 : 0 ≤ (x52_1 : Int) := of_decide_eq_true ‹_›
     have q558 : x52_1 < (t527.length : Int) := of_decide_eq_true ‹_›
     obtain ⟨ad558, A558_0, c558_0, A558_1, c558_1, e558, hx558_0, hx558_1, hl558_0, hi558_0, hl558_1, hi558_1⟩ := at_T29 (Kd.N_reads' HO_544000.out).2.2 x52_1 p558 q558
     obtain rfl : ad552 = ad558 := (by injection e558)
     obtain ⟨ce558, hce558, hMe558, hcc558⟩ := Kd.N_get HO_544000.out z29 x52_1 p558 (by first | exact q558 | exact of_decide_eq_true ‹_› | (have e_ := (Kd.N_reads' HO_544000.out).1; omega))
     obtain ⟨ua558_0, uc558_0, ua558_1, uc558_1, rfl, ul558_0, ge558_0, ul558_1, ge558_1⟩ := k29_openF hMe558
     have hv558_0 := hcc558 0 _ rfl
     rw [Nat.add_zero] at hv558_0
     replace hv558_0 := Option.some.inj (hv558_0.symm.trans hx558_0)
     injection hv558_0 with hva_ hvn_ hvc_
     rw [hva_] at ge558_0
     rw [hvc_] at ul558_0
     have HL558_0 := Aside0.mk (show Kd.V (Kd.int .i64) 3 _ w.heap.size _ _ ((rd_T29 t527 x52_1).f0) from Kd.V_mk ul558_0 ge558_0)
     clear hva_ hvn_ hvc_ ge558_0 ul558_0
     have hv558_1 := hcc558 1 _ rfl
     rw [add_field _ _ 1 (by omega)] at hv558_1
     replace hv558_1 := Option.some.inj (hv558_1.symm.trans hx558_1)
     injection hv558_1 with hva_ hvn_ hvc_
     rw [hva_] at ge558_1
     rw [hvc_] at ul558_1
     have HL558_1 := Aside0.mk (show Kd.V (Kd.int .i64) 3 _ w.heap.size _ _ ((rd_T29 t527 x52_1).f1) from Kd.V_mk ul558_1 ge558_1)
     clear hva_ hvn_ hvc_ ge558_1 ul558_1
     clear hcc558 hce558
     have HR558_0 := Aside0.mk hi558_0
     have HC558_0 := Aside0.mk hl558_0
     clear hi558_0 hl558_0
     have HR558_1 := Aside0.mk hi558_1
     have HC558_1 := Aside0.mk hl558_1
     clear hi558_1 hl558_1
     replace p558 := eq_true p558
     replace q558 := eq_true q558
     refine start_ (n := 16) (S := fun w' => w'.cell? ⟨gb543, 0, none⟩ = some (.slice (some ad552) t527.length co22) ∧ w'.cell? ⟨gb543, 1, none⟩ = some (.slice Ao23 t530.length co23) ∧ w'.cell? ⟨gb543, 2, none⟩ = some (.slice Ao24 t533.length co24) ∧ w'.cell? ⟨gb543, 3, none⟩ = some (.slice Ao25 t536.length co25) ∧ w'.cell? ⟨gb543, 4, none⟩ = some (.slice Ao26 t539.length co26) ∧ w'.cell? ⟨gb557, 0, none⟩ = some (.int .i64 ((rd_T49 t553 x65_2).f0)) ∧ w'.cell? ⟨gb557, 1, none⟩ = some (.int .i64 ((rd_T49 t553 x65_2).f1)) ∧ w'.cell? (ad552.add ((x52_1).toNat * 2)) = some (.slice A558_0 ((rd_T29 t527 x52_1).f0).length c558_0) ∧ w'.cell? ⟨(ad552.add ((x52_1).toNat * 2)).block, (ad552.add ((x52_1).toNat * 2)).off + 1, none⟩ = some (.slice A558_1 ((rd_T29 t527 x52_1).f1).length c558_1)) (ds := []) (bl 16 0) (by kernel_rfl) rfl rfl ⟨bc0 BK543, bc1 BK543, bc2 BK543, bc3 BK543, bc4 BK543, bc0 BK557, bc1 BK557, hx558_0, hx558_1⟩ (fun hHeld => ?_); refine with_tabW spec_CountPlans.tab17 spec_CountPlans.bits17 (fun HT_ HW_ => ?_)
     generalize w69.drew = w70 at HO_12 HO_63 HO_544000 HO_544001 HO_544002 HO_544003 HO_544004 BK524 BK525 BK543 BK557 HB HL558_0 HL558_1 HR558_0 HR558_1 hx558_0 hx558_1 hHeld ⊢
     refine pu 1 71 (bl 16 2) HT_.out (v := ?_) (a' := ?_) ?_ ?_ ?_
     rotate_left; (intro w'; go_simp; with_reducible rfl); rotate_left; (simp only [sqa, sqb, sqc, sqd, i64_w, i32_w]; rfl)
     refine pu 2 72 (bl 16 6) HT_.out (v := ?_) (a' := ?_) ?_ ?_ ?_
     rotate_left; (intro w'; go_simp; with_reducible rfl); rotate_left; (simp only [sqa, sqb, sqc, sqd, i64_w, i32_w]; rfl)
     refine pu 3 73 (bl 16 14) HT_.out (v := ?_) (a' := ?_) ?_ ?_ ?_
     rotate_left; (intro w'; go_simp; with_reducible rfl); rotate_left; (simp only [sqa, sqb, sqc, sqd, i64_w, i32_w]; rfl)
     refine pu 5 75 (bl 16 46) HT_.out (v := ?_) (a' := ?_) ?_ ?_ ?_
     rotate_left; (intro w'; go_simp; with_reducible rfl); rotate_left; (simp only [sqa, sqb, sqc, sqd, i64_w, i32_w]; rfl)
     refine pu 0 70 (bl 16 47) HT_.out (v := ?_) (a' := ?_) ?_ ?_ ?_
     rotate_left; (intro w'; go_simp; with_reducible rfl); rotate_left; (simp only [sqa, sqb, sqc, sqd, i64_w, i32_w]; rfl)
     refine tk 4 74 (bl 16 63) HT_.out HW_.out hHeld (v := ?_) (a' := ?_) ?_ ?_ ?_
     rotate_left; (rintro w' ⟨s0, s1, s2, s3, s4, s5, s6, s7, s8⟩; go_simp; with_reducible rfl); rotate_left; (simp only [sqa, sqb, sqc, sqd, i64_w, i32_w]; rfl)
     refine pu 6 76 (bl 16 127) HT_.out (v := ?_) (a' := ?_) ?_ ?_ ?_
     rotate_left; (intro w'; go_simp; with_reducible rfl); rotate_left; (simp only [sqa, sqb, sqc, sqd, i64_w, i32_w]; rfl)
     refine tk 7 77 (bl 16 255) HT_.out HW_.out hHeld (v := ?_) (a' := ?_) ?_ ?_ ?_
     rotate_left; (rintro w' ⟨s0, s1, s2, s3, s4, s5, s6, s7, s8⟩; go_simp; with_reducible rfl); rotate_left; (simp only [sqa, sqb, sqc, sqd, i64_w, i32_w]; rfl)
     refine tk 8 78 (bl 16 511) HT_.out HW_.out hHeld (v := ?_) (a' := ?_) ?_ ?_ ?_
     rotate_left; (rintro w' ⟨s0, s1, s2, s3, s4, s5, s6, s7, s8⟩; go_simp; with_reducible rfl); rotate_left; (simp only [sqa, sqb, sqc, sqd, i64_w, i32_w]; rfl)
     refine on 9 79 (bl 16 1023) HT_.out (fun K hK => ?_)
     refine gs Try.func55 #[.agg #[.slice A558_0 ((rd_T29 t527 x52_1).f0).length c558_0, .slice A558_1 ((rd_T29 t527 x52_1).f1).length c558_1], .agg #[.int .i64 ((rd_T49 t553 x65_2).f0), .int .i64 ((rd_T49 t553 x65_2).f1)]] ?_
     with_reducible refine (spec_veMake.calls _ _ ((rd_T29 t527 x52_1).f0) _ _ ((rd_T29 t527 x52_1).f1) ((rd_T49 t553 x65_2).f0) ((rd_T49 t553 x65_2).f1) t559 t562 _ ?side1 ?side2 ?side3 ?side4 A53.out).mono ?_
     (case side1 => repeat (first | exact (by repeat (first | (with_reducible exact HR558_0.out) | (with_reducible refine Kd.C_alloc ?_ _) | (with_reducible refine Kd.C_drewN ?_ _) | (with_reducible refine Kd.C_drew ?_) | exact HR558_0.out)) | (with_reducible refine Kd.C_alloc ?_ _) | (with_reducible refine Kd.C_drewN ?_ _) | (with_reducible refine Kd.C_drew ?_)))
     (case side2 => exact HC558_0.out)
     (case side3 => repeat (first | exact (by repeat (first | (with_reducible exact HR558_1.out) | (with_reducible refine Kd.C_alloc ?_ _) | (with_reducible refine Kd.C_drewN ?_ _) | (with_reducible refine Kd.C_drew ?_) | exact HR558_1.out)) | (with_reducible refine Kd.C_alloc ?_ _) | (with_reducible refine Kd.C_drewN ?_ _) | (with_reducible refine Kd.C_drew ?_)))
     (case side4 => exact HC558_1.out)
     rintro e w71 ⟨v560, v563, rfl, ho0, ho1, hb⟩
     have HS7_ := (hb.cell (World.block_lt_of_cell? _ _ (hHeld.2.2.2.2.2.2.2.1))).trans (hHeld.2.2.2.2.2.2.2.1)
     have HS8_ := (hb.cell (World.block_lt_of_cell? _ _ (hHeld.2.2.2.2.2.2.2.2))).trans (hHeld.2.2.2.2.2.2.2.2)
     refine ⟨_, rfl, ?_⟩
     replace HO_63 := rb HO_63 hb
     replace HO_544000 := Aside0.mk (Kd.N_mono (Kd.N_told (Kd.N_told (Kd.N_old HO_544000.out hb) (Kd.R_base ho0)) (Kd.R_base ho1)) (fun _ h_ => h_.1))
     replace HO_544002 := rb HO_544002 hb
     replace HL558_0 := Aside0.mk (Kd.V_mono (Kd.V_told (Kd.V_told (Kd.V_old HL558_0.out hb) (Kd.R_base ho0)) (Kd.R_base ho1)) (fun _ h_ => h_.1))
     replace HL558_1 := Aside0.mk (Kd.V_mono (Kd.V_told (Kd.V_told (Kd.V_old HL558_1.out hb) (Kd.R_base ho0)) (Kd.R_base ho1)) (fun _ h_ => h_.1))
     have HO561 := Aside0.mk (Kd.R_lower (Kd.R_new' (Kd.R_new' (Kd.R_new' (Kd.R_new' ho0 (Kd.R_lt (rk HO_12))) (Kd.R_lt (rk HO_544001))) (Kd.R_lt (rk HO_544003))) (Kd.R_lt (rk HO_544004))) (below_size (bw HB)))
     have HO564 := Aside0.mk (Kd.R_lower (Kd.R_new' (Kd.R_new' (Kd.R_new' (Kd.R_new' ho1 (Kd.R_lt (rk HO_12))) (Kd.R_lt (rk HO_544001))) (Kd.R_lt (rk HO_544003))) (Kd.R_lt (rk HO_544004))) (below_size (bw HB)))
     replace HO_12 := Aside0.mk (Kd.R_mono (Kd.R_told (Kd.R_told (Kd.R_old (rk HO_12) hb) (Kd.R_base ho0)) (Kd.R_base ho1)) (fun _ h_ => h_.1))
     replace HO_544001 := Aside0.mk (Kd.R_mono (Kd.R_told (Kd.R_told (Kd.R_old (rk HO_544001) hb) (Kd.R_base ho0)) (Kd.R_base ho1)) (fun _ h_ => h_.1))
     replace HO_544003 := Aside0.mk (Kd.R_mono (Kd.R_told (Kd.R_told (Kd.R_old (rk HO_544003) hb) (Kd.R_base ho0)) (Kd.R_base ho1)) (fun _ h_ => h_.1))
     replace HO_544004 := Aside0.mk (Kd.R_mono (Kd.R_told (Kd.R_told (Kd.R_old (rk HO_544004) hb) (Kd.R_base ho0)) (Kd.R_base ho1)) (fun _ h_ => h_.1))
     replace BK524 := bb BK524 hb
     replace BK525 := bb BK525 hb
     replace BK543 := bb BK543 hb
     replace BK557 := bb BK557 hb
     replace HR558_0 := Aside0.mk (Kd.C_below (by repeat (first | (with_reducible exact HR558_0.out) | (with_reducible refine Kd.C_alloc ?_ _) | (with_reducible refine Kd.C_drewN ?_ _) | (with_reducible refine Kd.C_drew ?_) | exact HR558_0.out)) hb)
     replace HR558_1 := Aside0.mk (Kd.C_below (by repeat (first | (with_reducible exact HR558_1.out) | (with_reducible refine Kd.C_alloc ?_ _) | (with_reducible refine Kd.C_drewN ?_ _) | (with_reducible refine Kd.C_drew ?_) | exact HR558_1.out)) hb)
     replace HB := bs HB hb
     (try clear hb); (try clear hb2); (try clear hk); (try clear hi); (try clear ho0); (try clear ho1)
     obtain ⟨Ao72, co72, eo72⟩ := Kd.R_slice HO561.out
     (first | subst eo72 | (injection eo72 with f1_ f2_ f3_; have f4_ := f1_.symm; have f5_ := f3_.symm; clear f1_ f2_ f3_; subst f4_; subst f5_))
     obtain ⟨Ao73, co73, eo73⟩ := Kd.R_slice HO564.out
     (first | subst eo73 | (injection eo73 with f1_ f2_ f3_; have f4_ := f1_.symm; have f5_ := f3_.symm; clear f1_ f2_ f3_; subst f4_; subst f5_))
     refine hK.out _ _ ⟨bc0 BK543, bc1 BK543, bc2 BK543, bc3 BK543, bc4 BK543, bc0 BK557, bc1 BK557, HS7_, HS8_⟩ (fun hHeld => ?_)
     clear hK K
     refine norm_ (a' := ?_) ?_ ?_; rotate_left; (show Act.put _ (some 79) _ = _; simp only [sqa, sqb, sqc, sqd, i64_w, i32_w]; rfl)
     refine on 10 80 (bl 16 2047) HT_.out (fun K hK => ?_)
     refine gs Try.func67 #[.pointer (some ⟨gb543, 0, none⟩), .agg #[.slice Ao72 t559.length co72, .slice Ao73 t562.length co73]] ?_
     with_reducible refine (spec_plPlace.calls k2 (some ad552) co22 t527 Ao23 co23 t530 Ao24 co24 t533 Ao25 co25 t536 Ao26 co26 t539 _ _ t559 _ _ t562 t565 t566 _ gb543 ?side0 ?side1 ?side2 ?side3 ?side4 ?side5 ?side6 ?side7 ?side8 ?side9 ?side10 ?side11 ?side12 ?side13 ?side14 A54.out).mono ?_
     (case side0 => exact bk BK543)
     (case side1 => repeat (first | exact (Kd.N_reads' HO_544000.out).2.2 | (with_reducible refine Kd.C_alloc ?_ _) | (with_reducible refine Kd.C_drewN ?_ _) | (with_reducible refine Kd.C_drew ?_)))
     (case side2 => exact (Kd.N_reads' HO_544000.out).2.1)
     (case side3 => exact cr HO_544001)
     (case side4 => exact (Kd.R_reads' HO_544001.out).2.1)
     (case side5 => exact cr HO_544002)
     (case side6 => exact (Kd.R_reads' HO_544002.out).2.1)
     (case side7 => exact cr HO_544003)
     (case side8 => exact (Kd.R_reads' HO_544003.out).2.1)
     (case side9 => exact cr HO_544004)
     (case side10 => exact (Kd.R_reads' HO_544004.out).2.1)
     (case side11 => exact cr HO561)
     (case side12 => exact (Kd.R_reads' HO561.out).2.1)
     (case side13 => exact cr HO564)
     (case side14 => exact (Kd.R_reads' HO564.out).2.1)
     rintro e w74 ⟨rfl, hb⟩
     have HS7_ := (hb.cell (World.block_lt_of_cell? _ _ (hHeld.2.2.2.2.2.2.2.1))).trans (hHeld.2.2.2.2.2.2.2.1)
     have HS8_ := (hb.cell (World.block_lt_of_cell? _ _ (hHeld.2.2.2.2.2.2.2.2))).trans (hHeld.2.2.2.2.2.2.2.2)
     refine ⟨_, rfl, ?_⟩
     replace HO_12 := rb HO_12 hb
     replace HO_63 := rb HO_63 hb
     replace HO_544000 := Aside0.mk (Kd.N_below HO_544000.out hb)
     replace HO_544001 := rb HO_544001 hb
     replace HO_544002 := rb HO_544002 hb
     replace HO_544003 := rb HO_544003 hb
     replace HO_544004 := rb HO_544004 hb
     replace HL558_0 := Aside0.mk (Kd.V_below HL558_0.out hb)
     replace HL558_1 := Aside0.mk (Kd.V_below HL558_1.out hb)
     replace HO561 := rb HO561 hb
     replace HO564 := rb HO564 hb
     replace BK524 := bb BK524 hb
     replace BK525 := bb BK525 hb
     replace BK543 := bb BK543 hb
     replace BK557 := bb BK557 hb
     replace HR558_0 := Aside0.mk (Kd.C_below (by repeat (first | (with_reducible exact HR558_0.out) | (with_reducible refine Kd.C_alloc ?_ _) | (with_reducible refine Kd.C_drewN ?_ _) | (with_reducible refine Kd.C_drew ?_) | exact HR558_0.out)) hb)
     replace HR558_1 := Aside0.mk (Kd.C_below (by repeat (first | (with_reducible exact HR558_1.out) | (with_reducible refine Kd.C_alloc ?_ _) | (with_reducible refine Kd.C_drewN ?_ _) | (with_reducible refine Kd.C_drew ?_) | exact HR558_1.out)) hb)
     replace HB := bs HB hb
     (try clear hb); (try clear hb2); (try clear hk); (try clear hi)
     refine hK.out _ _ ⟨bc0 BK543, bc1 BK543, bc2 BK543, bc3 BK543, bc4 BK543, bc0 BK557, bc1 BK557, HS7_, HS8_⟩ (fun hHeld => ?_)
     clear hK K
     refine norm_ (a' := ?_) ?_ ?_; rotate_left; (show Act.put _ (some 80) _ = _; simp only [sqa, sqb, sqc, sqd, i64_w, i32_w]; rfl)
     refine pu 11 69 (bl 16 4095) HT_.out (v := ?_) (a' := ?_) ?_ ?_ ?_
     rotate_left; (intro w'; go_simp; with_reducible rfl); rotate_left; (simp only [sqa, sqb, sqc, sqd, i64_w, i32_w]; rfl)
     refine pu 12 81 (bl 16 8191) HT_.out (v := ?_) (a' := ?_) ?_ ?_ ?_
     rotate_left; (intro w'; go_simp; with_reducible rfl); rotate_left; (simp only [sqa, sqb, sqc, sqd, i64_w, i32_w]; rfl)
     refine pu 13 82 (bl 16 16383) HT_.out (v := ?_) (a' := ?_) ?_ ?_ ?_
     rotate_left; (intro w'; go_simp; with_reducible rfl); rotate_left; (simp only [sqa, sqb, sqc, sqd, i64_w, i32_w]; rfl)
     refine pu 14 16 (bl 16 32767) HT_.out (v := ?_) (a' := ?_) ?_ ?_ ?_
     rotate_left; (intro w'; go_simp; with_reducible rfl); rotate_left; (simp only [sqa, sqb, sqc, sqd, i64_w, i32_w]; rfl)
     refine pu 15 17 (bl 16 65535) HT_.out (v := ?_) (a' := ?_) ?_ ?_ ?_
     rotate_left; (intro w'; go_simp; with_reducible rfl); rotate_left; (simp only [sqa, sqb, sqc, sqd, i64_w, i32_w]; rfl)
     refine done_ (done_of HT_.out (by kernel_rfl)) ?_
     have hnb75 := NB543_524.out
     have hnc75 := NB524_543.out
     have hnb76 := NB543_525.out
     have hnc76 := NB525_543.out
     have hcz77_0 := bc0 BK543
     have hcz77_1 := bc1 BK543
     have hcz77_2 := bc2 BK543
     have hcz77_3 := bc3 BK543
     have hcz77_4 := bc4 BK543
     have hfz77_0 := blk_frozen BK543.out 0
     have hfz77_1 := blk_frozen BK543.out 1
     have hfz77_2 := blk_frozen BK543.out 2
     have hfz77_3 := blk_frozen BK543.out 3
     have hfz77_4 := blk_frozen BK543.out 4
     have p567 : 0 ≤ (t565 : Int) := of_decide_eq_true ‹_›
     have q567 : t565 < (t539.length : Int) := of_decide_eq_true ‹_›
     obtain ⟨ad567, e567, hx567_0⟩ := Kd.at_int (Kd.R_reads' HO_544004.out).2.2 t565 p567 q567
     cases e567
     replace p567 := eq_true p567
     replace q567 := eq_true q567
     try go_wp2
     replace HO_12 := Aside0.mk (Kd.R_drew HO_12.out)
     replace HO_63 := Aside0.mk (Kd.R_drew HO_63.out)
     replace HO_544000 := Aside0.mk (Kd.N_drew HO_544000.out)
     replace HO_544001 := Aside0.mk (Kd.R_drew HO_544001.out)
     replace HO_544002 := Aside0.mk (Kd.R_drew HO_544002.out)
     replace HO_544003 := Aside0.mk (Kd.R_drew HO_544003.out)
     replace HO_544004 := Aside0.mk (Kd.R_drew HO_544004.out)
     replace HL558_0 := Aside0.mk (Kd.V_drew HL558_0.out)
     replace HL558_1 := Aside0.mk (Kd.V_drew HL558_1.out)
     replace HO561 := Aside0.mk (Kd.R_drew HO561.out)
     replace HO564 := Aside0.mk (Kd.R_drew HO564.out)
     replace BK524 := Aside0.mk (blk_drew BK524.out)
     replace BK525 := Aside0.mk (blk_drew BK525.out)
     replace BK543 := Aside0.mk (blk_drew BK543.out)
     replace BK557 := Aside0.mk (blk_drew BK557.out)
     replace HR558_0 := Aside0.mk (Kd.C_drew HR558_0.out)
     replace HR558_1 := Aside0.mk (Kd.C_drew HR558_1.out)
     replace HB := Aside0.mk (below_drew1 HB.out)
     have p568 : 0 ≤ ((rd t539 t565) : Int) := of_decide_eq_true ‹_›
     have q568 : (rd t539 t565) < (t536.length : Int) := of_decide_eq_true ‹_›
     obtain ⟨ad568, e568, hx568_0⟩ := Kd.at_int (Kd.R_reads' HO_544003.out).2.2 (rd t539 t565) p568 q568
     cases e568
     replace p568 := eq_true p568
     replace q568 := eq_true q568
     have p569 : 0 ≤ (x52_1 : Int) := of_decide_eq_true ‹_›
     have q569 : x52_1 < (t536.length : Int) := of_decide_eq_true ‹_›
     obtain ⟨ad569, e569, hx569_0⟩ := Kd.at_int (Kd.R_reads' HO_544003.out).2.2 x52_1 p569 q569
     obtain rfl : ad568 = ad569 := (by injection e569)
     replace p569 := eq_true p569
     replace q569 := eq_true q569
     refine start_ (n := 16) (S := fun w' => w'.cell? ⟨gb543, 0, none⟩ = some (.slice (some ad552) t527.length co22) ∧ w'.cell? ⟨gb543, 1, none⟩ = some (.slice Ao23 t530.length co23) ∧ w'.cell? ⟨gb543, 2, none⟩ = some (.slice Ao24 t533.length co24) ∧ w'.cell? ⟨gb543, 3, none⟩ = some (.slice (some ad568) t536.length co25) ∧ w'.cell? ⟨gb543, 4, none⟩ = some (.slice (some ad567) t539.length co26) ∧ w'.cell? (ad568.add ((rd t539 t565)).toNat) = some (.int .i64 (rd t536 (rd t539 t565))) ∧ w'.cell? (ad568.add (x52_1).toNat) = some (.int .i64 (rd t536 x52_1))) (ds := []) (bl 16 0) (by kernel_rfl) rfl rfl ⟨bc0 BK543, bc1 BK543, bc2 BK543, bc3 BK543, bc4 BK543, hx568_0, hx569_0⟩ (fun hHeld => ?_); refine with_tabW spec_CountPlans.tab19 spec_CountPlans.bits19 (fun HT_ HW_ => ?_)
     generalize w74.drew = w78 at HO_12 HO_63 HO_544000 HO_544001 HO_544002 HO_544003 HO_544004 HL558_0 HL558_1 HO561 HO564 BK524 BK525 BK543 BK557 HR558_0 HR558_1 HB hx568_0 hx569_0 hHeld ⊢
     refine pu 0 90 (bl 16 1) HT_.out (v := ?_) (a' := ?_) ?_ ?_ ?_
     rotate_left; (intro w'; go_simp; with_reducible rfl); rotate_left; (simp only [sqa, sqb, sqc, sqd, i64_w, i32_w]; rfl)
     refine pu 1 91 (bl 16 3) HT_.out (v := ?_) (a' := ?_) ?_ ?_ ?_
     rotate_left; (intro w'; go_simp; with_reducible rfl); rotate_left; (simp only [sqa, sqb, sqc, sqd, i64_w, i32_w]; rfl)
     refine pu 2 92 (bl 16 7) HT_.out (v := ?_) (a' := ?_) ?_ ?_ ?_
     rotate_left; (intro w'; go_simp; with_reducible rfl); rotate_left; (simp only [sqa, sqb, sqc, sqd, i64_w, i32_w]; rfl)
     refine pu 4 94 (bl 16 23) HT_.out (v := ?_) (a' := ?_) ?_ ?_ ?_
     rotate_left; (intro w'; go_simp; with_reducible rfl); rotate_left; (simp only [sqa, sqb, sqc, sqd, i64_w, i32_w]; rfl)
     refine pu 7 97 (bl 16 151) HT_.out (v := ?_) (a' := ?_) ?_ ?_ ?_
     rotate_left; (intro w'; go_simp; with_reducible rfl); rotate_left; (simp only [sqa, sqb, sqc, sqd, i64_w, i32_w]; rfl)
     refine pu 8 98 (bl 16 407) HT_.out (v := ?_) (a' := ?_) ?_ ?_ ?_
     rotate_left; (intro w'; go_simp; with_reducible rfl); rotate_left; (simp only [sqa, sqb, sqc, sqd, i64_w, i32_w]; rfl)
     refine pu 9 99 (bl 16 919) HT_.out (v := ?_) (a' := ?_) ?_ ?_ ?_
     rotate_left; (intro w'; go_simp; with_reducible rfl); rotate_left; (simp only [sqa, sqb, sqc, sqd, i64_w, i32_w]; rfl)
     refine pu 11 101 (bl 16 2967) HT_.out (v := ?_) (a' := ?_) ?_ ?_ ?_
     rotate_left; (intro w'; go_simp; with_reducible rfl); rotate_left; (simp only [sqa, sqb, sqc, sqd, i64_w, i32_w]; rfl)
     refine tk 3 93 (bl 16 2975) HT_.out HW_.out hHeld (v := ?_) (a' := ?_) ?_ ?_ ?_
     rotate_left; (rintro w' ⟨s0, s1, s2, s3, s4, s5, s6⟩; go_simp; with_reducible rfl); rotate_left; (simp only [sqa, sqb, sqc, sqd, i64_w, i32_w]; rfl)
     refine pu 5 95 (bl 16 3007) HT_.out (v := ?_) (a' := ?_) ?_ ?_ ?_
     rotate_left; (intro w'; go_simp; with_reducible rfl); rotate_left; (simp only [sqa, sqb, sqc, sqd, i64_w, i32_w]; rfl)
     refine tk 6 96 (bl 16 3071) HT_.out HW_.out hHeld (v := ?_) (a' := ?_) ?_ ?_ ?_
     rotate_left; (rintro w' ⟨s0, s1, s2, s3, s4, s5, s6⟩; go_simp; with_reducible rfl); rotate_left; (simp only [sqa, sqb, sqc, sqd, i64_w, i32_w]; rfl)
     refine tk 10 100 (bl 16 4095) HT_.out HW_.out hHeld (v := ?_) (a' := ?_) ?_ ?_ ?_
     rotate_left; (rintro w' ⟨s0, s1, s2, s3, s4, s5, s6⟩; go_simp; with_reducible rfl); rotate_left; (simp only [sqa, sqb, sqc, sqd, i64_w, i32_w]; rfl)
     refine pu 12 102 (bl 16 8191) HT_.out (v := ?_) (a' := ?_) ?_ ?_ ?_
     rotate_left; (intro w'; go_simp; with_reducible rfl); rotate_left; (simp only [sqa, sqb, sqc, sqd, i64_w, i32_w]; rfl)
     refine tk 13 103 (bl 16 16383) HT_.out HW_.out hHeld (v := ?_) (a' := ?_) ?_ ?_ ?_
     rotate_left; (rintro w' ⟨s0, s1, s2, s3, s4, s5, s6⟩; go_simp; with_reducible rfl); rotate_left; (simp only [sqa, sqb, sqc, sqd, i64_w, i32_w]; rfl)
     refine pu 14 104 (bl 16 32767) HT_.out (v := ?_) (a' := ?_) ?_ ?_ ?_
     rotate_left; (intro w'; go_simp; with_reducible rfl); rotate_left; (simp only [sqa, sqb, sqc, sqd, i64_w, i32_w]; rfl)
     refine pu 15 105 (bl 16 65535) HT_.out (v := ?_) (a' := ?_) ?_ ?_ ?_
     rotate_left; (intro w'; go_simp; with_reducible rfl); rotate_left; (simp only [sqa, sqb, sqc, sqd, i64_w, i32_w]; rfl)
     refine done_ (done_of HT_.out (by kernel_rfl)) ?_
     try go_wp2
     replace HO_12 := Aside0.mk (Kd.R_drew HO_12.out)
     replace HO_63 := Aside0.mk (Kd.R_drew HO_63.out)
     replace HO_544000 := Aside0.mk (Kd.N_drew HO_544000.out)
     replace HO_544001 := Aside0.mk (Kd.R_drew HO_544001.out)
     replace HO_544002 := Aside0.mk (Kd.R_drew HO_544002.out)
     replace HO_544003 := Aside0.mk (Kd.R_drew HO_544003.out)
     replace HO_544004 := Aside0.mk (Kd.R_drew HO_544004.out)
     replace HL558_0 := Aside0.mk (Kd.V_drew HL558_0.out)
     replace HL558_1 := Aside0.mk (Kd.V_drew HL558_1.out)
     replace HO561 := Aside0.mk (Kd.R_drew HO561.out)
     replace HO564 := Aside0.mk (Kd.R_drew HO564.out)
     replace BK524 := Aside0.mk (blk_drew BK524.out)
     replace BK525 := Aside0.mk (blk_drew BK525.out)
     replace BK543 := Aside0.mk (blk_drew BK543.out)
     replace BK557 := Aside0.mk (blk_drew BK557.out)
     replace HR558_0 := Aside0.mk (Kd.C_drew HR558_0.out)
     replace HR558_1 := Aside0.mk (Kd.C_drew HR558_1.out)
     replace HB := Aside0.mk (below_drew1 HB.out)
     have p570 : 0 ≤ ((rd t539 t565) : Int) := of_decide_eq_true ‹_›
     have q570 : (rd t539 t565) < (x12_2.length : Int) := of_decide_eq_true ‹_›
     obtain ⟨ad570, e570, hx570_0⟩ := Kd.at_int (Kd.R_reads' HO_12.out).2.2 (rd t539 t565) p570 q570
     obtain rfl : (⟨go13, 0, none⟩ : Addr) = ad570 := (by injection e570)
     (first | simp only [add_plain] at hx570_0 | simp only [add_at] at hx570_0 | simp only [Addr.add, Nat.zero_add] at hx570_0 | skip)
     replace p570 := eq_true p570
     replace q570 := eq_true q570
     have p571 : 0 ≤ (x52_1 : Int) := of_decide_eq_true ‹_›
     have q571 : x52_1 < (x12_2.length : Int) := of_decide_eq_true ‹_›
     obtain ⟨ad571, e571, hx571_0⟩ := Kd.at_int (Kd.R_reads' HO_12.out).2.2 x52_1 p571 q571
     obtain rfl : (⟨go13, 0, none⟩ : Addr) = ad571 := (by injection e571)
     (first | simp only [add_plain] at hx571_0 | simp only [add_at] at hx571_0 | simp only [Addr.add, Nat.zero_add] at hx571_0 | skip)
     replace p571 := eq_true p571
     replace q571 := eq_true q571
     have p63 : 0 ≤ ((rd t539 t565) : Int) := of_decide_eq_true ‹_›
     have q63 : ((rd t539 t565) : Int) < ((x12_2.length : Int) : Int) := of_decide_eq_true ‹_›
     obtain ⟨hx63_0, hf63_0⟩ := Kd.R_celln 0 HO_12.out ((rd t539 t565) : Int) p63 q63
     replace p63 := eq_true p63
     replace q63 := eq_true q63
     have HP80 := Kd.R_putn HO_12.out ((rd t539 t565) : Int) (wrap64 ((rd x12_2 (rd t539 t565)) + (rd x12_2 x52_1)))
     rw [← Ny572.out] at HP80
     have HQ80 := Aside0.mk HP80
     clear HP80
     refine start_ (n := 11) (S := fun w' => w'.cell? ⟨go13, ((rd t539 t565)).toNat, none⟩ = some (.int .i64 (rd x12_2 (rd t539 t565))) ∧ w'.cell? ⟨go13, (x52_1).toNat, none⟩ = some (.int .i64 (rd x12_2 x52_1))) (ds := [10]) (bl 11 0) (by kernel_rfl) rfl rfl ⟨hx570_0, hx571_0⟩ (fun hHeld => ?_); refine with_tabW spec_CountPlans.tab20 spec_CountPlans.bits20 (fun HT_ HW_ => ?_)
     generalize w78.drew = w79 at HO_12 HO_63 HO_544000 HO_544001 HO_544002 HO_544003 HO_544004 HL558_0 HL558_1 HO561 HO564 BK524 BK525 BK543 BK557 HR558_0 HR558_1 HB HQ80 hf63_0 hx570_0 hx571_0 hx63_0 hHeld ⊢
     refine pu 0 106 (bl 11 1) HT_.out (v := ?_) (a' := ?_) ?_ ?_ ?_
     rotate_left; (intro w'; go_simp; with_reducible rfl); rotate_left; (simp only [sqa, sqb, sqc, sqd, i64_w, i32_w]; rfl)
     refine pu 1 107 (bl 11 3) HT_.out (v := ?_) (a' := ?_) ?_ ?_ ?_
     rotate_left; (intro w'; go_simp; with_reducible rfl); rotate_left; (simp only [sqa, sqb, sqc, sqd, i64_w, i32_w]; rfl)
     refine pu 2 108 (bl 11 7) HT_.out (v := ?_) (a' := ?_) ?_ ?_ ?_
     rotate_left; (intro w'; go_simp; with_reducible rfl); rotate_left; (simp only [sqa, sqb, sqc, sqd, i64_w, i32_w]; rfl)
     refine pu 4 110 (bl 11 23) HT_.out (v := ?_) (a' := ?_) ?_ ?_ ?_
     rotate_left; (intro w'; go_simp; with_reducible rfl); rotate_left; (simp only [sqa, sqb, sqc, sqd, i64_w, i32_w]; rfl)
     refine pu 5 111 (bl 11 55) HT_.out (v := ?_) (a' := ?_) ?_ ?_ ?_
     rotate_left; (intro w'; go_simp; with_reducible rfl); rotate_left; (simp only [sqa, sqb, sqc, sqd, i64_w, i32_w]; rfl)
     refine pu 6 112 (bl 11 119) HT_.out (v := ?_) (a' := ?_) ?_ ?_ ?_
     rotate_left; (intro w'; go_simp; with_reducible rfl); rotate_left; (simp only [sqa, sqb, sqc, sqd, i64_w, i32_w]; rfl)
     refine tk 3 109 (bl 11 127) HT_.out HW_.out hHeld (v := ?_) (a' := ?_) ?_ ?_ ?_
     rotate_left; (rintro w' ⟨s0, s1⟩; go_simp; with_reducible rfl); rotate_left; (simp only [sqa, sqb, sqc, sqd, i64_w, i32_w]; rfl)
     refine tk 7 113 (bl 11 255) HT_.out HW_.out hHeld (v := ?_) (a' := ?_) ?_ ?_ ?_
     rotate_left; (rintro w' ⟨s0, s1⟩; go_simp; with_reducible rfl); rotate_left; (simp only [sqa, sqb, sqc, sqd, i64_w, i32_w]; rfl)
     refine pu 8 114 (bl 11 511) HT_.out (v := ?_) (a' := ?_) ?_ ?_ ?_
     rotate_left; (intro w'; go_simp; with_reducible rfl); rotate_left; (simp only [sqa, sqb, sqc, sqd, i64_w, i32_w]; rfl)
     refine pu 9 115 (bl 11 1023) HT_.out (v := ?_) (a' := ?_) ?_ ?_ ?_
     rotate_left; (intro w'; go_simp; with_reducible rfl); rotate_left; (simp only [sqa, sqb, sqc, sqd, i64_w, i32_w]; rfl)
     refine last_ (i := 10) (N := none) (bl 11 2047) rfl rfl (one_of HT_.out (by kernel_rfl)) (by decide) (fun K hK => ?_)
     refine skip_ (w1 := ?_) (by rfl) rfl ?_ ?_
     rotate_left
     ·go_simp
      rfl
     refine hK.out _ _ ?_
     clear hK K
     refine done_ (done_of HT_.out (by kernel_rfl)) ?_
     try go_wp2
     (try simp only [← hl12_2])
     go_roundg k2
     case measure => have := HK1.out; have := HK2.out; omega
     case rel => exact ⟨(y572), (wrap64 (x65_2 + 1)), (by first | rfl | (simp; done) | (simp [*]; done)), H', ⟨by have := HK1.out; have := HK2.out; omega⟩, ⟨by (try simp only [hl12_1]); (try simp only [hl12_2]); exact Kd.R_mono HQ80.out (fun _ hk => ⟨hk.1.1.1, ⟨hk.1.1.2.1, hk.1.1.2.2⟩⟩)⟩, ⟨by (try simp only [hl12_1]); (try simp only [hl12_2]); exact Kd.R_mono (Kd.R_far (p := ⟨go13, ((rd t539 t565) : Int).toNat, none⟩) (R_typesE HO_63.out (R_blkE HO_12.out) (by decide)) (fun _ hk => hk.2) (.int .i64 (wrap64 ((rd x12_2 (rd t539 t565)) + (rd x12_2 x52_1))))) (fun _ hk => hk.1.1)⟩, ⟨by (try simp only [hl12_1]); (try simp only [hl12_2]); exact Kd.N_mono (Kd.N_far (p := ⟨go13, ((rd t539 t565) : Int).toNat, none⟩) (Kd.N_mono HO_544000.out (fun k_ hk => (⟨hk, fun e_ => hk.1.1.1 (by rw [e_]; rfl)⟩ : _ ∧ k_ ≠ go13))) (fun _ hk => hk.2) (.int .i64 (wrap64 ((rd x12_2 (rd t539 t565)) + (rd x12_2 x52_1))))) (fun _ hk => ⟨hk.1.1.1.1, ⟨hk.1.1.1.2.1, ⟨hk.1.1.1.2.2.1, ⟨hk.1.1.1.2.2.2.1, ⟨hk.1.1.1.2.2.2.2.1, ⟨hk.1.1.1.2.2.2.2.2.1, ⟨hk.1.1.1.2.2.2.2.2.2.1, ⟨hk.1.1.1.2.2.2.2.2.2.2.1, hk.1.1.1.2.2.2.2.2.2.2.2.1⟩⟩⟩⟩⟩⟩⟩⟩)⟩, ⟨by (try simp only [hl12_1]); (try simp only [hl12_2]); exact Kd.R_mono (Kd.R_far (p := ⟨go13, ((rd t539 t565) : Int).toNat, none⟩) (Kd.R_mono HO_544001.out (fun k_ hk => (⟨hk, fun e_ => hk.1.1.1 (by rw [e_]; rfl)⟩ : _ ∧ k_ ≠ go13))) (fun _ hk => hk.2) (.int .i64 (wrap64 ((rd x12_2 (rd t539 t565)) + (rd x12_2 x52_1))))) (fun _ hk => ⟨hk.1.1.1.1, ⟨hk.1.1.1.2.1, hk.1.1.1.2.2⟩⟩)⟩, ⟨by (try simp only [hl12_1]); (try simp only [hl12_2]); exact Kd.R_mono (Kd.R_far (p := ⟨go13, ((rd t539 t565) : Int).toNat, none⟩) (R_typesE HO_544002.out (R_blkE HO_12.out) (by decide)) (fun _ hk => hk.2) (.int .i64 (wrap64 ((rd x12_2 (rd t539 t565)) + (rd x12_2 x52_1))))) (fun _ hk => hk.1.1)⟩, ⟨by (try simp only [hl12_1]); (try simp only [hl12_2]); exact Kd.R_mono (Kd.R_far (p := ⟨go13, ((rd t539 t565) : Int).toNat, none⟩) (Kd.R_mono HO_544003.out (fun k_ hk => (⟨hk, fun e_ => hk.1.1.1 (by rw [e_]; rfl)⟩ : _ ∧ k_ ≠ go13))) (fun _ hk => hk.2) (.int .i64 (wrap64 ((rd x12_2 (rd t539 t565)) + (rd x12_2 x52_1))))) (fun _ hk => ⟨hk.1.1.1.1, ⟨hk.1.1.1.2.1, hk.1.1.1.2.2⟩⟩)⟩, ⟨by (try simp only [hl12_1]); (try simp only [hl12_2]); exact Kd.R_mono (Kd.R_far (p := ⟨go13, ((rd t539 t565) : Int).toNat, none⟩) (Kd.R_mono HO_544004.out (fun k_ hk => (⟨hk, fun e_ => hk.1.1.1 (by rw [e_]; rfl)⟩ : _ ∧ k_ ≠ go13))) (fun _ hk => hk.2) (.int .i64 (wrap64 ((rd x12_2 (rd t539 t565)) + (rd x12_2 x52_1))))) (fun _ hk => ⟨hk.1.1.1.1, ⟨hk.1.1.1.2.1, hk.1.1.1.2.2⟩⟩)⟩, ⟨by (try simp only [hl12_1]); (try simp only [hl12_2]); refine blk_far ?_ (by have h_ := Kd.R_ne HO_12.out BK524.out (by decide); intro e_; exact h_ (by rw [e_]; rfl)) _; exact bk BK524⟩, ⟨by (try simp only [hl12_1]); (try simp only [hl12_2]); refine blk_far ?_ (by have h_ := Kd.R_ne HO_12.out BK525.out (by decide); intro e_; exact h_ (by rw [e_]; rfl)) _; exact bk BK525⟩, ⟨by (try simp only [hl12_1]); (try simp only [hl12_2]); refine blk_far ?_ (by have h_ := Kd.R_ne HO_12.out BK543.out (by decide); intro e_; exact h_ (by rw [e_]; rfl)) _; exact bk BK543⟩, ⟨by repeat (first | (with_reducible first | exact HB.out | apply below_alloc | apply pw_below_drewN | apply below_drew1 | refine below_set ?_ GB13.out | refine below_set ?_ GE524.out | refine below_set ?_ GE525.out | refine below_set ?_ GE543.out | refine below_set ?_ GE557.out) | exact HB.out)⟩⟩
end Go.Proofs.Ytigpkicbigpilaa.V
