-- Functions of the program as plain functions, and that the calls come to them. Written by a program (ownprint.py); nothing here is trusted: Lean checks it.
import Derived.Test.YtflbcikfphfkdaaQwGvCut
import Derived.Test.YtflbcikfphfkdaaQwRx0
import Derived.Test.YtflbcikfphfkdaaQwRx2
import Derived.Test.YtflbcikfphfkdaaQwRx3
import Derived.Test.YtflbcikfphfkdaaQwRx4
import Derived.Test.YtflbcikfphfkdaaQwRx5
import Derived.Test.YtflbcikfphfkdaaQwRx6
import Derived.Test.YtflbcikfphfkdaaQwRx7
namespace Go.Proofs.Ytflbcikfphfkdaa.R
open Go.RowKit Go.Proofs.YtflbcikfphfkdaaW.PrintWords Go.Proofs.YtflbcikfphfkdaaW.PrintLast Go.Proofs.YtflbcikfphfkdaaW.PrintMore Go.Proofs.Ytflbcikfphfkdaa.Sq
attribute [local go_sem] max2_int min2_int max_two min_two max_three min_three max_four min_four   -- for this text's walks alone
set_option linter.unusedVariables false
set_option linter.unusedSimpArgs false
set_option maxHeartbeats 80000000 in
set_option maxRecDepth 100000 in
theorem laws_FnRowsKeepWater.calls (k : Nat) (A0 : Option Addr) (c0 : Nat) (l0 : List Int) (A1 : Option Addr) (c1 : Nat) (l1 : List Int) (r : Bool) (w : World) (hr0 : Kd.C (Kd.int .u8) w A0 l0.length l0) (hc0 : l0.length ≤ c0) (hr1 : Kd.C (Kd.int .u8) w A1 l1.length l1) (hc1 : l1.length ≤ c1) (hrt : Aside0 (r = true)) (h : laws_FnRowsKeepWater.f k l0 l1 = some r) :
  Calls Try.prog 4 #[.slice A0 l0.length c0, .slice A1 l1.length c1] w fun e w' => e = .returned (.bool r) ∧ Below w.heap.size w w' := by
 have HR0 := Aside0.mk hr0
 have HC0 := Aside0.mk hc0
 clear hr0 hc0
 have HR1 := Aside0.mk hr1
 have HC1 := Aside0.mk hc1
 clear hr1 hc1
 have HB := Aside0.mk (Below.refl w.heap.size w)
 have H : ((laws_big.f l0 l1).bind fun t604 => (if t604 = true then (some true) else ((spec_DrawRunRow.f k l0).bind fun bt605 => ((impl_RunRow.f k bt605.1 bt605.2).bind fun bt611 => ((spec_RunRow.f k bt605.1 bt605.2).bind fun bt615 => ((impl_RowAfter.f k bt605.1 bt605.2).bind fun bt619 => ((spec_RowAfter.f k bt605.1 bt605.2).bind fun bt623 => ((impl_SpillsOf.f k bt605.1 bt605.2).bind fun bt627 => ((spec_SpillsOf.f k bt605.1 bt605.2).bind fun bt631 => ((impl_FirstSpill.f k bt605.1 bt605.2).bind fun bt635 => ((spec_FirstSpill.f k bt605.1 bt605.2).bind fun bt638 => ((impl_PeakOut.f k bt605.1 bt605.2).bind fun bt641 => ((spec_PeakOut.f k bt605.1 bt605.2).bind fun bt643 => ((impl_IsHeldBack.f k bt605.1 bt605.2).bind fun bt645 => ((spec_IsHeldBack.f k bt605.1 bt605.2).bind fun bt647 => (if (bt611.2 != bt615.2) = true then (laws_FnRowsKeepWater.j0 k l1 bt605.1 bt605.2 bt611.1 bt611.2 bt619.1 bt627.1 bt635.2.2 bt641.1 bt645.1 true) else ((laws_hSame.f k bt611.1 bt615.1).bind fun t649 => (if t649 = true then (if (bt619.2 != bt623.2) = true then (laws_FnRowsKeepWater.j0 k l1 bt605.1 bt605.2 bt611.1 bt611.2 bt619.1 bt627.1 bt635.2.2 bt641.1 bt645.1 true) else ((laws_hBasins.f k bt619.1 bt623.1).bind fun t650 => (if t650 = true then (if (bt627.2 != bt631.2) = true then (laws_FnRowsKeepWater.j0 k l1 bt605.1 bt605.2 bt611.1 bt611.2 bt619.1 bt627.1 bt635.2.2 bt641.1 bt645.1 true) else ((laws_hSame.f k bt627.1 bt631.1).bind fun t651 => (if t651 = true then (if (bt635.2.2 != bt638.2.2) = true then (laws_FnRowsKeepWater.j0 k l1 bt605.1 bt605.2 bt611.1 bt611.2 bt619.1 bt627.1 bt635.2.2 bt641.1 bt645.1 true) else (if bt635.1 = bt638.1 then (if bt635.2.1 = bt638.2.1 then (if (bt641.2 != bt643.2) = true then (laws_FnRowsKeepWater.j0 k l1 bt605.1 bt605.2 bt611.1 bt611.2 bt619.1 bt627.1 bt635.2.2 bt641.1 bt645.1 true) else (if bt641.1 = bt643.1 then (if (bt645.2 != bt647.2) = true then (laws_FnRowsKeepWater.j0 k l1 bt605.1 bt605.2 bt611.1 bt611.2 bt619.1 bt627.1 bt635.2.2 bt641.1 bt645.1 true) else (if (bt645.1 != bt647.1) = true then (laws_FnRowsKeepWater.j0 k l1 bt605.1 bt605.2 bt611.1 bt611.2 bt619.1 bt627.1 bt635.2.2 bt641.1 bt645.1 true) else (if (bt619.2 != bt611.2) = true then (laws_FnRowsKeepWater.j0 k l1 bt605.1 bt605.2 bt611.1 bt611.2 bt619.1 bt627.1 bt635.2.2 bt641.1 bt645.1 true) else (if (bt627.2 != bt611.2) = true then (laws_FnRowsKeepWater.j0 k l1 bt605.1 bt605.2 bt611.1 bt611.2 bt619.1 bt627.1 bt635.2.2 bt641.1 bt645.1 true) else (if (bt641.2 != bt611.2) = true then (laws_FnRowsKeepWater.j0 k l1 bt605.1 bt605.2 bt611.1 bt611.2 bt619.1 bt627.1 bt635.2.2 bt641.1 bt645.1 true) else (if (bt645.2 != bt611.2) = true then (laws_FnRowsKeepWater.j0 k l1 bt605.1 bt605.2 bt611.1 bt611.2 bt619.1 bt627.1 bt635.2.2 bt641.1 bt645.1 true) else ((impl_IsRow.f bt605.1).bind fun t652 => (if t652 = true then ((impl_AreFlows.f bt605.2).bind fun t653 => (laws_FnRowsKeepWater.j0 k l1 bt605.1 bt605.2 bt611.1 bt611.2 bt619.1 bt627.1 bt635.2.2 bt641.1 bt645.1 (bt611.2 != t653))) else (laws_FnRowsKeepWater.j0 k l1 bt605.1 bt605.2 bt611.1 bt611.2 bt619.1 bt627.1 bt635.2.2 bt641.1 bt645.1 (bt611.2 != false)))))))))) else (laws_FnRowsKeepWater.j0 k l1 bt605.1 bt605.2 bt611.1 bt611.2 bt619.1 bt627.1 bt635.2.2 bt641.1 bt645.1 true))) else (laws_FnRowsKeepWater.j0 k l1 bt605.1 bt605.2 bt611.1 bt611.2 bt619.1 bt627.1 bt635.2.2 bt641.1 bt645.1 true)) else (laws_FnRowsKeepWater.j0 k l1 bt605.1 bt605.2 bt611.1 bt611.2 bt619.1 bt627.1 bt635.2.2 bt641.1 bt645.1 true))) else (laws_FnRowsKeepWater.j0 k l1 bt605.1 bt605.2 bt611.1 bt611.2 bt619.1 bt627.1 bt635.2.2 bt641.1 bt645.1 true)))) else (laws_FnRowsKeepWater.j0 k l1 bt605.1 bt605.2 bt611.1 bt611.2 bt619.1 bt627.1 bt635.2.2 bt641.1 bt645.1 true)))) else (laws_FnRowsKeepWater.j0 k l1 bt605.1 bt605.2 bt611.1 bt611.2 bt619.1 bt627.1 bt635.2.2 bt641.1 bt645.1 true))))))))))))))))))) = some r := h
 clear h
 replace H := Option.bind_eq_some_iff.mp H
 obtain ⟨t604, A30, H⟩ := H
 (try dsimp only at H)
 have A3 := Aside0.mk A30
 clear A30
 by_cases c4 : t604 = true
 ·subst c4
  have H1 : (some true) = some r := by rw [if_pos rfl] at H; exact H
  clear H
  have H := H1
  clear H1
  obtain rfl := Option.some.inj H
  go_enter Try.func4, Try.ntmps4
  go_wp2_with (first | ((with_reducible refine gate_callee (f := 5) rfl ?_); refine gl 66 Try.func5 #[.slice A0 l0.length c0, .slice A1 l1.length c1] ?_; (with_reducible refine (laws_big.calls _ _ l0 _ _ l1 true _ ?side1 ?side2 ?side3 ?side4 A3.out).mono ?_); (case side1 => repeat (first | exact HR0.out | (with_reducible refine Kd.C_alloc ?_ _) | (with_reducible refine Kd.C_drewN ?_ _) | (with_reducible refine Kd.C_drew ?_))); (case side2 => exact HC0.out); (case side3 => repeat (first | exact HR1.out | (with_reducible refine Kd.C_alloc ?_ _) | (with_reducible refine Kd.C_drewN ?_ _) | (with_reducible refine Kd.C_drew ?_))); (case side4 => exact HC1.out); rintro e w' ⟨rfl, ⟨nd, rfl⟩⟩; refine ⟨_, rfl, ?_⟩))
  go_ret
  exact ⟨by first | rfl | (simp [errW_none, errW_some] <;> rfl) | (simp [*, errW_none, errW_some] <;> rfl), bw HB⟩
 replace c4 := Bool.eq_false_iff.mpr c4
 subst c4
 have H1 : ((spec_DrawRunRow.f k l0).bind fun bt605 => ((impl_RunRow.f k bt605.1 bt605.2).bind fun bt611 => ((spec_RunRow.f k bt605.1 bt605.2).bind fun bt615 => ((impl_RowAfter.f k bt605.1 bt605.2).bind fun bt619 => ((spec_RowAfter.f k bt605.1 bt605.2).bind fun bt623 => ((impl_SpillsOf.f k bt605.1 bt605.2).bind fun bt627 => ((spec_SpillsOf.f k bt605.1 bt605.2).bind fun bt631 => ((impl_FirstSpill.f k bt605.1 bt605.2).bind fun bt635 => ((spec_FirstSpill.f k bt605.1 bt605.2).bind fun bt638 => ((impl_PeakOut.f k bt605.1 bt605.2).bind fun bt641 => ((spec_PeakOut.f k bt605.1 bt605.2).bind fun bt643 => ((impl_IsHeldBack.f k bt605.1 bt605.2).bind fun bt645 => ((spec_IsHeldBack.f k bt605.1 bt605.2).bind fun bt647 => (if (bt611.2 != bt615.2) = true then (laws_FnRowsKeepWater.j0 k l1 bt605.1 bt605.2 bt611.1 bt611.2 bt619.1 bt627.1 bt635.2.2 bt641.1 bt645.1 true) else ((laws_hSame.f k bt611.1 bt615.1).bind fun t649 => (if t649 = true then (if (bt619.2 != bt623.2) = true then (laws_FnRowsKeepWater.j0 k l1 bt605.1 bt605.2 bt611.1 bt611.2 bt619.1 bt627.1 bt635.2.2 bt641.1 bt645.1 true) else ((laws_hBasins.f k bt619.1 bt623.1).bind fun t650 => (if t650 = true then (if (bt627.2 != bt631.2) = true then (laws_FnRowsKeepWater.j0 k l1 bt605.1 bt605.2 bt611.1 bt611.2 bt619.1 bt627.1 bt635.2.2 bt641.1 bt645.1 true) else ((laws_hSame.f k bt627.1 bt631.1).bind fun t651 => (if t651 = true then (if (bt635.2.2 != bt638.2.2) = true then (laws_FnRowsKeepWater.j0 k l1 bt605.1 bt605.2 bt611.1 bt611.2 bt619.1 bt627.1 bt635.2.2 bt641.1 bt645.1 true) else (if bt635.1 = bt638.1 then (if bt635.2.1 = bt638.2.1 then (if (bt641.2 != bt643.2) = true then (laws_FnRowsKeepWater.j0 k l1 bt605.1 bt605.2 bt611.1 bt611.2 bt619.1 bt627.1 bt635.2.2 bt641.1 bt645.1 true) else (if bt641.1 = bt643.1 then (if (bt645.2 != bt647.2) = true then (laws_FnRowsKeepWater.j0 k l1 bt605.1 bt605.2 bt611.1 bt611.2 bt619.1 bt627.1 bt635.2.2 bt641.1 bt645.1 true) else (if (bt645.1 != bt647.1) = true then (laws_FnRowsKeepWater.j0 k l1 bt605.1 bt605.2 bt611.1 bt611.2 bt619.1 bt627.1 bt635.2.2 bt641.1 bt645.1 true) else (if (bt619.2 != bt611.2) = true then (laws_FnRowsKeepWater.j0 k l1 bt605.1 bt605.2 bt611.1 bt611.2 bt619.1 bt627.1 bt635.2.2 bt641.1 bt645.1 true) else (if (bt627.2 != bt611.2) = true then (laws_FnRowsKeepWater.j0 k l1 bt605.1 bt605.2 bt611.1 bt611.2 bt619.1 bt627.1 bt635.2.2 bt641.1 bt645.1 true) else (if (bt641.2 != bt611.2) = true then (laws_FnRowsKeepWater.j0 k l1 bt605.1 bt605.2 bt611.1 bt611.2 bt619.1 bt627.1 bt635.2.2 bt641.1 bt645.1 true) else (if (bt645.2 != bt611.2) = true then (laws_FnRowsKeepWater.j0 k l1 bt605.1 bt605.2 bt611.1 bt611.2 bt619.1 bt627.1 bt635.2.2 bt641.1 bt645.1 true) else ((impl_IsRow.f bt605.1).bind fun t652 => (if t652 = true then ((impl_AreFlows.f bt605.2).bind fun t653 => (laws_FnRowsKeepWater.j0 k l1 bt605.1 bt605.2 bt611.1 bt611.2 bt619.1 bt627.1 bt635.2.2 bt641.1 bt645.1 (bt611.2 != t653))) else (laws_FnRowsKeepWater.j0 k l1 bt605.1 bt605.2 bt611.1 bt611.2 bt619.1 bt627.1 bt635.2.2 bt641.1 bt645.1 (bt611.2 != false)))))))))) else (laws_FnRowsKeepWater.j0 k l1 bt605.1 bt605.2 bt611.1 bt611.2 bt619.1 bt627.1 bt635.2.2 bt641.1 bt645.1 true))) else (laws_FnRowsKeepWater.j0 k l1 bt605.1 bt605.2 bt611.1 bt611.2 bt619.1 bt627.1 bt635.2.2 bt641.1 bt645.1 true)) else (laws_FnRowsKeepWater.j0 k l1 bt605.1 bt605.2 bt611.1 bt611.2 bt619.1 bt627.1 bt635.2.2 bt641.1 bt645.1 true))) else (laws_FnRowsKeepWater.j0 k l1 bt605.1 bt605.2 bt611.1 bt611.2 bt619.1 bt627.1 bt635.2.2 bt641.1 bt645.1 true)))) else (laws_FnRowsKeepWater.j0 k l1 bt605.1 bt605.2 bt611.1 bt611.2 bt619.1 bt627.1 bt635.2.2 bt641.1 bt645.1 true)))) else (laws_FnRowsKeepWater.j0 k l1 bt605.1 bt605.2 bt611.1 bt611.2 bt619.1 bt627.1 bt635.2.2 bt641.1 bt645.1 true))))))))))))))))) = some r := by rw [if_neg (show ¬ (false = true) by decide)] at H; exact H
 clear H
 have H := H1
 clear H1
 replace H := Option.bind_eq_some_iff.mp H
 obtain ⟨⟨t605, t606⟩, A50, H⟩ := H
 (try dsimp only at H)
 have A5 := Aside0.mk A50
 clear A50
 replace H := Option.bind_eq_some_iff.mp H
 obtain ⟨⟨t611, t612⟩, A60, H⟩ := H
 (try dsimp only at H)
 have A6 := Aside0.mk A60
 clear A60
 replace H := Option.bind_eq_some_iff.mp H
 obtain ⟨⟨t615, t616⟩, A70, H⟩ := H
 (try dsimp only at H)
 have A7 := Aside0.mk A70
 clear A70
 replace H := Option.bind_eq_some_iff.mp H
 obtain ⟨⟨t619, t622⟩, A80, H⟩ := H
 (try dsimp only at H)
 have A8 := Aside0.mk A80
 clear A80
 replace H := Option.bind_eq_some_iff.mp H
 obtain ⟨⟨t623, t624⟩, A90, H⟩ := H
 (try dsimp only at H)
 have A9 := Aside0.mk A90
 clear A90
 replace H := Option.bind_eq_some_iff.mp H
 obtain ⟨⟨t627, t628⟩, A100, H⟩ := H
 (try dsimp only at H)
 have A10 := Aside0.mk A100
 clear A100
 replace H := Option.bind_eq_some_iff.mp H
 obtain ⟨⟨t631, t632⟩, A110, H⟩ := H
 (try dsimp only at H)
 have A11 := Aside0.mk A110
 clear A110
 replace H := Option.bind_eq_some_iff.mp H
 obtain ⟨⟨t635, t636, t637⟩, A120, H⟩ := H
 (try dsimp only at H)
 have A12 := Aside0.mk A120
 clear A120
 replace H := Option.bind_eq_some_iff.mp H
 obtain ⟨⟨t638, t639, t640⟩, A130, H⟩ := H
 (try dsimp only at H)
 have A13 := Aside0.mk A130
 clear A130
 replace H := Option.bind_eq_some_iff.mp H
 obtain ⟨⟨t641, t642⟩, A140, H⟩ := H
 (try dsimp only at H)
 have A14 := Aside0.mk A140
 clear A140
 replace H := Option.bind_eq_some_iff.mp H
 obtain ⟨⟨t643, t644⟩, A150, H⟩ := H
 (try dsimp only at H)
 have A15 := Aside0.mk A150
 clear A150
 replace H := Option.bind_eq_some_iff.mp H
 obtain ⟨⟨t645, t646⟩, A160, H⟩ := H
 (try dsimp only at H)
 have A16 := Aside0.mk A160
 clear A160
 replace H := Option.bind_eq_some_iff.mp H
 obtain ⟨⟨t647, t648⟩, A170, H⟩ := H
 (try dsimp only at H)
 have A17 := Aside0.mk A170
 clear A170
 have HC18 := Aside0.mk H
 clear H
 go_enter Try.func4, Try.ntmps4
 go_upto_region 16 with (first | ((with_reducible refine gate_callee (f := 5) rfl ?_); refine gl 66 Try.func5 #[.slice A0 l0.length c0, .slice A1 l1.length c1] ?_; (with_reducible refine (laws_big.calls _ _ l0 _ _ l1 false _ ?side1 ?side2 ?side3 ?side4 A3.out).mono ?_); (case side1 => repeat (first | exact HR0.out | (with_reducible refine Kd.C_alloc ?_ _) | (with_reducible refine Kd.C_drewN ?_ _) | (with_reducible refine Kd.C_drew ?_))); (case side2 => exact HC0.out); (case side3 => repeat (first | exact HR1.out | (with_reducible refine Kd.C_alloc ?_ _) | (with_reducible refine Kd.C_drewN ?_ _) | (with_reducible refine Kd.C_drew ?_))); (case side4 => exact HC1.out); rintro e w' ⟨rfl, ⟨nd, rfl⟩⟩; refine ⟨_, rfl, ?_⟩) | ((with_reducible refine gate_callee (f := 28) rfl ?_); refine gl 69 Try.func28 #[.slice A0 l0.length c0] ?_; (with_reducible refine (spec_DrawRunRow.calls k _ _ l0 t605 t606 _ ?side1 ?side2 A5.out).mono ?_); (case side1 => repeat (first | exact HR0.out | (with_reducible refine Kd.C_alloc ?_ _) | (with_reducible refine Kd.C_drewN ?_ _) | (with_reducible refine Kd.C_drew ?_))); (case side2 => exact HC0.out); rintro e w19 ⟨v607, v609, rfl, ho0, ho1, hb⟩; refine ⟨_, rfl, ?_⟩; have HO608 := lo ho0 HB; have HO610 := lo ho1 HB; replace HB := bs HB hb; (try clear hb); (try clear ho0); (try clear ho1); obtain ⟨Ao20, co20, eo20⟩ := Kd.R_slice HO608.out; subst eo20; obtain ⟨Ao21, co21, eo21⟩ := Kd.R_slice HO610.out; subst eo21) | ((with_reducible refine gate_callee (f := 29) rfl ?_); refine gl 75 Try.func29 #[.slice Ao20 t605.length co20, .slice Ao21 t606.length co21] ?_; (with_reducible refine (impl_RunRow.calls k _ _ t605 _ _ t606 t611 t612 _ ?side1 ?side2 ?side3 ?side4 A6.out).mono ?_); (case side1 => exact cr HO608); (case side2 => exact (Kd.R_reads' HO608.out).2.1); (case side3 => exact cr HO610); (case side4 => exact (Kd.R_reads' HO610.out).2.1); rintro e w22 ⟨v613, rfl, ho0, hb⟩; refine ⟨_, rfl, ?_⟩; replace HO608 := rb HO608 hb; have HO614 := Aside0.mk (Kd.R_lower (Kd.R_new' ho0 (Kd.R_lt (rk HO610))) (below_size (bw HB))); replace HO610 := Aside0.mk (Kd.R_elder' (rk HO610) (Kd.R_base ho0) hb); replace HB := bs HB hb; (try clear hb); (try clear ho0)) | ((with_reducible refine gate_callee (f := 30) rfl ?_); refine gl 81 Try.func30 #[.slice Ao20 t605.length co20, .slice Ao21 t606.length co21] ?_; (with_reducible refine (spec_RunRow.calls k _ _ t605 _ _ t606 t615 t616 _ ?side1 ?side2 ?side3 ?side4 A7.out).mono ?_); (case side1 => exact cr HO608); (case side2 => exact (Kd.R_reads' HO608.out).2.1); (case side3 => exact cr HO610); (case side4 => exact (Kd.R_reads' HO610.out).2.1); rintro e w23 ⟨v617, rfl, ho0, hb⟩; refine ⟨_, rfl, ?_⟩; replace HO608 := rb HO608 hb; have HO618 := Aside0.mk (Kd.R_lower (Kd.R_new' (Kd.R_new' ho0 (Kd.R_lt (rk HO610))) (Kd.R_lt (rk HO614))) (below_size (bw HB))); replace HO610 := Aside0.mk (Kd.R_elder' (rk HO610) (Kd.R_base ho0) hb); replace HO614 := Aside0.mk (Kd.R_elder' (rk HO614) (Kd.R_base ho0) hb); replace HB := bs HB hb; (try clear hb); (try clear ho0)) | ((with_reducible refine gate_callee (f := 13) rfl ?_); refine gl 87 Try.func13 #[.slice Ao20 t605.length co20, .slice Ao21 t606.length co21] ?_; (with_reducible refine (impl_RowAfter.calls k _ _ t605 _ _ t606 t619 t622 _ ?side1 ?side2 ?side3 ?side4 A8.out).mono ?_); (case side1 => exact cr HO608); (case side2 => exact (Kd.R_reads' HO608.out).2.1); (case side3 => exact cr HO610); (case side4 => exact (Kd.R_reads' HO610.out).2.1); rintro e w24 ⟨v620, rfl, ho0, hb⟩; refine ⟨_, rfl, ?_⟩; have HO621 := Aside0.mk (Kd.V_lower (Kd.V_mono (ok' := fun k_ => some k_ ≠ (.slice Ao20 t605.length co20 : Value).ownBlock ∧ some k_ ≠ (.slice Ao21 t606.length co21 : Value).ownBlock ∧ some k_ ≠ (v613 : Value).ownBlock ∧ some k_ ≠ (v617 : Value).ownBlock) ho0 (fun k_ hk_ => ⟨(Kd.fresh' (Kd.R_lt (rk HO608)) k_ hk_), (Kd.fresh' (Kd.R_lt (rk HO610)) k_ hk_), (Kd.fresh' (Kd.R_lt (rk HO614)) k_ hk_), (Kd.fresh' (Kd.R_lt (rk HO618)) k_ hk_)⟩)) (below_size (bw HB))); replace HO608 := rb HO608 hb; replace HO610 := rb HO610 hb; replace HO614 := rb HO614 hb; replace HO618 := rb HO618 hb; replace HB := bs HB hb; (try clear hb); (try clear ho0)) | ((with_reducible refine gate_callee (f := 31) rfl ?_); refine gl 93 Try.func31 #[.slice Ao20 t605.length co20, .slice Ao21 t606.length co21] ?_; (with_reducible refine (spec_RowAfter.calls k _ _ t605 _ _ t606 t623 t624 _ ?side1 ?side2 ?side3 ?side4 A9.out).mono ?_); (case side1 => exact cr HO608); (case side2 => exact (Kd.R_reads' HO608.out).2.1); (case side3 => exact cr HO610); (case side4 => exact (Kd.R_reads' HO610.out).2.1); rintro e w25 ⟨v625, rfl, ho0, hb⟩; refine ⟨_, rfl, ?_⟩; replace HO610 := rb HO610 hb; replace HO614 := rb HO614 hb; replace HO618 := rb HO618 hb; replace HO621 := Aside0.mk (Kd.V_elder' HO621.out (Kd.R_base ho0) hb); have HO626 := Aside0.mk (Kd.R_lower (Kd.R_new' ho0 (Kd.R_lt (rk HO608))) (below_size (bw HB))); replace HO608 := Aside0.mk (Kd.R_elder' (rk HO608) (Kd.R_base ho0) hb); replace HB := bs HB hb; (try clear hb); (try clear ho0)) | ((with_reducible refine gate_callee (f := 27) rfl ?_); refine gl 99 Try.func27 #[.slice Ao20 t605.length co20, .slice Ao21 t606.length co21] ?_; (with_reducible refine (impl_SpillsOf.calls k _ _ t605 _ _ t606 t627 t628 _ ?side1 ?side2 ?side3 ?side4 A10.out).mono ?_); (case side1 => exact cr HO608); (case side2 => exact (Kd.R_reads' HO608.out).2.1); (case side3 => exact cr HO610); (case side4 => exact (Kd.R_reads' HO610.out).2.1); rintro e w26 ⟨v629, rfl, ho0, hb⟩; refine ⟨_, rfl, ?_⟩; replace HO608 := rb HO608 hb; replace HO621 := Aside0.mk (Kd.V_elder' HO621.out (Kd.R_base ho0) hb); replace HO626 := rb HO626 hb; have HO630 := Aside0.mk (Kd.R_lower (Kd.R_new' (Kd.R_new' (Kd.R_new' ho0 (Kd.R_lt (rk HO610))) (Kd.R_lt (rk HO614))) (Kd.R_lt (rk HO618))) (below_size (bw HB))); replace HO610 := Aside0.mk (Kd.R_elder' (rk HO610) (Kd.R_base ho0) hb); replace HO614 := Aside0.mk (Kd.R_elder' (rk HO614) (Kd.R_base ho0) hb); replace HO618 := Aside0.mk (Kd.R_elder' (rk HO618) (Kd.R_base ho0) hb); replace HB := bs HB hb; (try clear hb); (try clear ho0)) | ((with_reducible refine gate_callee (f := 32) rfl ?_); refine gl 105 Try.func32 #[.slice Ao20 t605.length co20, .slice Ao21 t606.length co21] ?_; (with_reducible refine (spec_SpillsOf.calls k _ _ t605 _ _ t606 t631 t632 _ ?side1 ?side2 ?side3 ?side4 A11.out).mono ?_); (case side1 => exact cr HO608); (case side2 => exact (Kd.R_reads' HO608.out).2.1); (case side3 => exact cr HO610); (case side4 => exact (Kd.R_reads' HO610.out).2.1); rintro e w27 ⟨v633, rfl, ho0, hb⟩; refine ⟨_, rfl, ?_⟩; replace HO608 := rb HO608 hb; replace HO621 := Aside0.mk (Kd.V_elder' HO621.out (Kd.R_base ho0) hb); replace HO626 := rb HO626 hb; have HO634 := Aside0.mk (Kd.R_lower (Kd.R_new' (Kd.R_new' (Kd.R_new' (Kd.R_new' ho0 (Kd.R_lt (rk HO610))) (Kd.R_lt (rk HO614))) (Kd.R_lt (rk HO618))) (Kd.R_lt (rk HO630))) (below_size (bw HB))); replace HO610 := Aside0.mk (Kd.R_elder' (rk HO610) (Kd.R_base ho0) hb); replace HO614 := Aside0.mk (Kd.R_elder' (rk HO614) (Kd.R_base ho0) hb); replace HO618 := Aside0.mk (Kd.R_elder' (rk HO618) (Kd.R_base ho0) hb); replace HO630 := Aside0.mk (Kd.R_elder' (rk HO630) (Kd.R_base ho0) hb); replace HB := bs HB hb; (try clear hb); (try clear ho0)) | ((with_reducible refine gate_callee (f := 33) rfl ?_); refine gl 111 Try.func33 #[.slice Ao20 t605.length co20, .slice Ao21 t606.length co21] ?_; (with_reducible refine (impl_FirstSpill.calls k _ _ t605 _ _ t606 t635 t636 t637 _ ?side1 ?side2 ?side3 ?side4 A12.out).mono ?_); (case side1 => exact cr HO608); (case side2 => exact (Kd.R_reads' HO608.out).2.1); (case side3 => exact cr HO610); (case side4 => exact (Kd.R_reads' HO610.out).2.1); rintro e w28 ⟨rfl, hb⟩; refine ⟨_, rfl, ?_⟩; replace HO608 := rb HO608 hb; replace HO610 := rb HO610 hb; replace HO614 := rb HO614 hb; replace HO618 := rb HO618 hb; replace HO621 := Aside0.mk (Kd.V_below HO621.out hb); replace HO626 := rb HO626 hb; replace HO630 := rb HO630 hb; replace HO634 := rb HO634 hb; replace HB := bs HB hb; (try clear hb)) | ((with_reducible refine gate_callee (f := 34) rfl ?_); refine gl 118 Try.func34 #[.slice Ao20 t605.length co20, .slice Ao21 t606.length co21] ?_; (with_reducible refine (spec_FirstSpill.calls k _ _ t605 _ _ t606 t638 t639 t640 _ ?side1 ?side2 ?side3 ?side4 A13.out).mono ?_); (case side1 => exact cr HO608); (case side2 => exact (Kd.R_reads' HO608.out).2.1); (case side3 => exact cr HO610); (case side4 => exact (Kd.R_reads' HO610.out).2.1); rintro e w29 ⟨rfl, hb⟩; refine ⟨_, rfl, ?_⟩; replace HO608 := rb HO608 hb; replace HO610 := rb HO610 hb; replace HO614 := rb HO614 hb; replace HO618 := rb HO618 hb; replace HO621 := Aside0.mk (Kd.V_below HO621.out hb); replace HO626 := rb HO626 hb; replace HO630 := rb HO630 hb; replace HO634 := rb HO634 hb; replace HB := bs HB hb; (try clear hb)) | ((with_reducible refine gate_callee (f := 35) rfl ?_); refine gl 125 Try.func35 #[.slice Ao20 t605.length co20, .slice Ao21 t606.length co21] ?_; (with_reducible refine (impl_PeakOut.calls k _ _ t605 _ _ t606 t641 t642 _ ?side1 ?side2 ?side3 ?side4 A14.out).mono ?_); (case side1 => exact cr HO608); (case side2 => exact (Kd.R_reads' HO608.out).2.1); (case side3 => exact cr HO610); (case side4 => exact (Kd.R_reads' HO610.out).2.1); rintro e w30 ⟨rfl, hb⟩; refine ⟨_, rfl, ?_⟩; replace HO608 := rb HO608 hb; replace HO610 := rb HO610 hb; replace HO614 := rb HO614 hb; replace HO618 := rb HO618 hb; replace HO621 := Aside0.mk (Kd.V_below HO621.out hb); replace HO626 := rb HO626 hb; replace HO630 := rb HO630 hb; replace HO634 := rb HO634 hb; replace HB := bs HB hb; (try clear hb)) | ((with_reducible refine gate_callee (f := 36) rfl ?_); refine gl 131 Try.func36 #[.slice Ao20 t605.length co20, .slice Ao21 t606.length co21] ?_; (with_reducible refine (spec_PeakOut.calls k _ _ t605 _ _ t606 t643 t644 _ ?side1 ?side2 ?side3 ?side4 A15.out).mono ?_); (case side1 => exact cr HO608); (case side2 => exact (Kd.R_reads' HO608.out).2.1); (case side3 => exact cr HO610); (case side4 => exact (Kd.R_reads' HO610.out).2.1); rintro e w31 ⟨rfl, hb⟩; refine ⟨_, rfl, ?_⟩; replace HO608 := rb HO608 hb; replace HO610 := rb HO610 hb; replace HO614 := rb HO614 hb; replace HO618 := rb HO618 hb; replace HO621 := Aside0.mk (Kd.V_below HO621.out hb); replace HO626 := rb HO626 hb; replace HO630 := rb HO630 hb; replace HO634 := rb HO634 hb; replace HB := bs HB hb; (try clear hb)) | ((with_reducible refine gate_callee (f := 37) rfl ?_); refine gl 137 Try.func37 #[.slice Ao20 t605.length co20, .slice Ao21 t606.length co21] ?_; (with_reducible refine (impl_IsHeldBack.calls k _ _ t605 _ _ t606 t645 t646 _ ?side1 ?side2 ?side3 ?side4 A16.out).mono ?_); (case side1 => exact cr HO608); (case side2 => exact (Kd.R_reads' HO608.out).2.1); (case side3 => exact cr HO610); (case side4 => exact (Kd.R_reads' HO610.out).2.1); rintro e w32 ⟨rfl, hb⟩; refine ⟨_, rfl, ?_⟩; replace HO608 := rb HO608 hb; replace HO610 := rb HO610 hb; replace HO614 := rb HO614 hb; replace HO618 := rb HO618 hb; replace HO621 := Aside0.mk (Kd.V_below HO621.out hb); replace HO626 := rb HO626 hb; replace HO630 := rb HO630 hb; replace HO634 := rb HO634 hb; replace HB := bs HB hb; (try clear hb)) | ((with_reducible refine gate_callee (f := 38) rfl ?_); refine gl 143 Try.func38 #[.slice Ao20 t605.length co20, .slice Ao21 t606.length co21] ?_; (with_reducible refine (spec_IsHeldBack.calls k _ _ t605 _ _ t606 t647 t648 _ ?side1 ?side2 ?side3 ?side4 A17.out).mono ?_); (case side1 => exact cr HO608); (case side2 => exact (Kd.R_reads' HO608.out).2.1); (case side3 => exact cr HO610); (case side4 => exact (Kd.R_reads' HO610.out).2.1); rintro e w33 ⟨rfl, hb⟩; refine ⟨_, rfl, ?_⟩; replace HO608 := rb HO608 hb; replace HO610 := rb HO610 hb; replace HO614 := rb HO614 hb; replace HO618 := rb HO618 hb; replace HO621 := Aside0.mk (Kd.V_below HO621.out hb); replace HO626 := rb HO626 hb; replace HO630 := rb HO630 hb; replace HO634 := rb HO634 hb; replace HB := bs HB hb; (try clear hb)))
 (try simp only [Act.put, List.setIfInBounds_toArray, List.set_cons_zero, List.set_cons_succ])
 refine cutF (rl [64, 225, 3, 42, 2, 152] false) (fun u_ wc => ∃ (kq : Nat) (x241_17 : Bool), (u_ 241) = .bool x241_17 ∧ Aside0 (laws_FnRowsKeepWater.j0 kq l1 t605 t606 t611 t612 t619 t627 t637 t641 t645 x241_17 = some r) ∧ Aside0 (kq ≤ k) ∧ Aside0 (Kd.R k30 30 wc w.heap.size (fun _ => True) (.slice Ao20 t605.length co20) t605) ∧ Aside0 (Kd.R (Kd.int .i64) 3 wc w.heap.size (fun k_ => some k_ ≠ (v613 : Value).ownBlock ∧ some k_ ≠ (v629 : Value).ownBlock) (.slice Ao21 t606.length co21) t606) ∧ Aside0 (Kd.R (Kd.int .i64) 3 wc w.heap.size (fun k_ => some k_ ≠ ((.slice Ao21 t606.length co21) : Value).ownBlock ∧ some k_ ≠ (v629 : Value).ownBlock) v613 t611) ∧ Aside0 (Kd.V k30 30 wc w.heap.size (fun k_ => some k_ ≠ ((.slice Ao20 t605.length co20) : Value).ownBlock ∧ some k_ ≠ ((.slice Ao21 t606.length co21) : Value).ownBlock ∧ some k_ ≠ (v613 : Value).ownBlock ∧ some k_ ≠ (v629 : Value).ownBlock) v620 t619) ∧ Aside0 (Kd.R (Kd.int .i64) 3 wc w.heap.size (fun k_ => some k_ ≠ ((.slice Ao21 t606.length co21) : Value).ownBlock ∧ some k_ ≠ (v613 : Value).ownBlock) v629 t627) ∧ Aside0 (Below w.heap.size w wc)) ?first1 ?rest1
 case first1 =>
  as_aux_lemma =>
   intro J_ K_ hJ_ hK_
   have H := HC18.out
   clear HC18
   by_cases c34 : (t612 != t616) = true
   ·rw [if_pos c34] at H
    have c34b0 : (t612 != t616) = true := c34
    (try (have c34b1 : decide (t612 = t616) = false := by simpa using c34))
    (try (have c34b2 : (t612 == t616) = false := by simpa using c34))
    (try (have c34b3 : ¬ (t612 = t616) := by simpa using c34))
    clear c34
    (first | rw [c34b0] | (simp only [i64_w, i32_w]; rw [c34b0]) | skip)
    exact absurd H (by rw [hrt.out]; cases k <;> simp [laws_FnRowsKeepWater.j0])
   rw [if_neg c34] at H
   have c34b0 : (t612 != t616) = false := by simpa using c34
   (try (have c34b1 : decide (t612 = t616) = true := by simpa using c34))
   (try (have c34b2 : (t612 == t616) = true := by simpa using c34))
   clear c34
   (first | rw [c34b0] | (simp only [i64_w, i32_w]; rw [c34b0]) | skip)
   replace H := Option.bind_eq_some_iff.mp H
   obtain ⟨t649, A350, H⟩ := H
   (try dsimp only at H)
   have A35 := Aside0.mk A350
   clear A350
   by_cases c36 : t649 = true
   rotate_left
   ·replace c36 := Bool.eq_false_iff.mpr c36
    subst c36
    have H1 : (laws_FnRowsKeepWater.j0 k l1 t605 t606 t611 t612 t619 t627 t637 t641 t645 true) = some r := by rw [if_neg (show ¬ (false = true) by decide)] at H; exact H
    clear H
    have H := H1
    clear H1
    exact absurd H (by rw [hrt.out]; cases k <;> simp [laws_FnRowsKeepWater.j0])
   subst c36
   have H1 : (if (t622 != t624) = true then (laws_FnRowsKeepWater.j0 k l1 t605 t606 t611 t612 t619 t627 t637 t641 t645 true) else ((laws_hBasins.f k t619 t623).bind fun t650 => (if t650 = true then (if (t628 != t632) = true then (laws_FnRowsKeepWater.j0 k l1 t605 t606 t611 t612 t619 t627 t637 t641 t645 true) else ((laws_hSame.f k t627 t631).bind fun t651 => (if t651 = true then (if (t637 != t640) = true then (laws_FnRowsKeepWater.j0 k l1 t605 t606 t611 t612 t619 t627 t637 t641 t645 true) else (if t635 = t638 then (if t636 = t639 then (if (t642 != t644) = true then (laws_FnRowsKeepWater.j0 k l1 t605 t606 t611 t612 t619 t627 t637 t641 t645 true) else (if t641 = t643 then (if (t646 != t648) = true then (laws_FnRowsKeepWater.j0 k l1 t605 t606 t611 t612 t619 t627 t637 t641 t645 true) else (if (t645 != t647) = true then (laws_FnRowsKeepWater.j0 k l1 t605 t606 t611 t612 t619 t627 t637 t641 t645 true) else (if (t622 != t612) = true then (laws_FnRowsKeepWater.j0 k l1 t605 t606 t611 t612 t619 t627 t637 t641 t645 true) else (if (t628 != t612) = true then (laws_FnRowsKeepWater.j0 k l1 t605 t606 t611 t612 t619 t627 t637 t641 t645 true) else (if (t642 != t612) = true then (laws_FnRowsKeepWater.j0 k l1 t605 t606 t611 t612 t619 t627 t637 t641 t645 true) else (if (t646 != t612) = true then (laws_FnRowsKeepWater.j0 k l1 t605 t606 t611 t612 t619 t627 t637 t641 t645 true) else ((impl_IsRow.f t605).bind fun t652 => (if t652 = true then ((impl_AreFlows.f t606).bind fun t653 => (laws_FnRowsKeepWater.j0 k l1 t605 t606 t611 t612 t619 t627 t637 t641 t645 (t612 != t653))) else (laws_FnRowsKeepWater.j0 k l1 t605 t606 t611 t612 t619 t627 t637 t641 t645 (t612 != false)))))))))) else (laws_FnRowsKeepWater.j0 k l1 t605 t606 t611 t612 t619 t627 t637 t641 t645 true))) else (laws_FnRowsKeepWater.j0 k l1 t605 t606 t611 t612 t619 t627 t637 t641 t645 true)) else (laws_FnRowsKeepWater.j0 k l1 t605 t606 t611 t612 t619 t627 t637 t641 t645 true))) else (laws_FnRowsKeepWater.j0 k l1 t605 t606 t611 t612 t619 t627 t637 t641 t645 true)))) else (laws_FnRowsKeepWater.j0 k l1 t605 t606 t611 t612 t619 t627 t637 t641 t645 true)))) = some r := by rw [if_pos rfl] at H; exact H
   clear H
   have H := H1
   clear H1
   by_cases c37 : (t622 != t624) = true
   ·rw [if_pos c37] at H
    have c37b0 : (t622 != t624) = true := c37
    (try (have c37b1 : decide (t622 = t624) = false := by simpa using c37))
    (try (have c37b2 : (t622 == t624) = false := by simpa using c37))
    (try (have c37b3 : ¬ (t622 = t624) := by simpa using c37))
    clear c37
    exact absurd H (by rw [hrt.out]; cases k <;> simp [laws_FnRowsKeepWater.j0])
   rw [if_neg c37] at H
   have c37b0 : (t622 != t624) = false := by simpa using c37
   (try (have c37b1 : decide (t622 = t624) = true := by simpa using c37))
   (try (have c37b2 : (t622 == t624) = true := by simpa using c37))
   clear c37
   replace H := Option.bind_eq_some_iff.mp H
   obtain ⟨t650, A380, H⟩ := H
   (try dsimp only at H)
   have A38 := Aside0.mk A380
   clear A380
   by_cases c39 : t650 = true
   rotate_left
   ·replace c39 := Bool.eq_false_iff.mpr c39
    subst c39
    have H1 : (laws_FnRowsKeepWater.j0 k l1 t605 t606 t611 t612 t619 t627 t637 t641 t645 true) = some r := by rw [if_neg (show ¬ (false = true) by decide)] at H; exact H
    clear H
    have H := H1
    clear H1
    exact absurd H (by rw [hrt.out]; cases k <;> simp [laws_FnRowsKeepWater.j0])
   subst c39
   have H1 : (if (t628 != t632) = true then (laws_FnRowsKeepWater.j0 k l1 t605 t606 t611 t612 t619 t627 t637 t641 t645 true) else ((laws_hSame.f k t627 t631).bind fun t651 => (if t651 = true then (if (t637 != t640) = true then (laws_FnRowsKeepWater.j0 k l1 t605 t606 t611 t612 t619 t627 t637 t641 t645 true) else (if t635 = t638 then (if t636 = t639 then (if (t642 != t644) = true then (laws_FnRowsKeepWater.j0 k l1 t605 t606 t611 t612 t619 t627 t637 t641 t645 true) else (if t641 = t643 then (if (t646 != t648) = true then (laws_FnRowsKeepWater.j0 k l1 t605 t606 t611 t612 t619 t627 t637 t641 t645 true) else (if (t645 != t647) = true then (laws_FnRowsKeepWater.j0 k l1 t605 t606 t611 t612 t619 t627 t637 t641 t645 true) else (if (t622 != t612) = true then (laws_FnRowsKeepWater.j0 k l1 t605 t606 t611 t612 t619 t627 t637 t641 t645 true) else (if (t628 != t612) = true then (laws_FnRowsKeepWater.j0 k l1 t605 t606 t611 t612 t619 t627 t637 t641 t645 true) else (if (t642 != t612) = true then (laws_FnRowsKeepWater.j0 k l1 t605 t606 t611 t612 t619 t627 t637 t641 t645 true) else (if (t646 != t612) = true then (laws_FnRowsKeepWater.j0 k l1 t605 t606 t611 t612 t619 t627 t637 t641 t645 true) else ((impl_IsRow.f t605).bind fun t652 => (if t652 = true then ((impl_AreFlows.f t606).bind fun t653 => (laws_FnRowsKeepWater.j0 k l1 t605 t606 t611 t612 t619 t627 t637 t641 t645 (t612 != t653))) else (laws_FnRowsKeepWater.j0 k l1 t605 t606 t611 t612 t619 t627 t637 t641 t645 (t612 != false)))))))))) else (laws_FnRowsKeepWater.j0 k l1 t605 t606 t611 t612 t619 t627 t637 t641 t645 true))) else (laws_FnRowsKeepWater.j0 k l1 t605 t606 t611 t612 t619 t627 t637 t641 t645 true)) else (laws_FnRowsKeepWater.j0 k l1 t605 t606 t611 t612 t619 t627 t637 t641 t645 true))) else (laws_FnRowsKeepWater.j0 k l1 t605 t606 t611 t612 t619 t627 t637 t641 t645 true)))) = some r := by rw [if_pos rfl] at H; exact H
   clear H
   have H := H1
   clear H1
   by_cases c40 : (t628 != t632) = true
   ·rw [if_pos c40] at H
    have c40b0 : (t628 != t632) = true := c40
    (try (have c40b1 : decide (t628 = t632) = false := by simpa using c40))
    (try (have c40b2 : (t628 == t632) = false := by simpa using c40))
    (try (have c40b3 : ¬ (t628 = t632) := by simpa using c40))
    clear c40
    exact absurd H (by rw [hrt.out]; cases k <;> simp [laws_FnRowsKeepWater.j0])
   rw [if_neg c40] at H
   have c40b0 : (t628 != t632) = false := by simpa using c40
   (try (have c40b1 : decide (t628 = t632) = true := by simpa using c40))
   (try (have c40b2 : (t628 == t632) = true := by simpa using c40))
   clear c40
   replace H := Option.bind_eq_some_iff.mp H
   obtain ⟨t651, A410, H⟩ := H
   (try dsimp only at H)
   have A41 := Aside0.mk A410
   clear A410
   by_cases c42 : t651 = true
   rotate_left
   ·replace c42 := Bool.eq_false_iff.mpr c42
    subst c42
    have H1 : (laws_FnRowsKeepWater.j0 k l1 t605 t606 t611 t612 t619 t627 t637 t641 t645 true) = some r := by rw [if_neg (show ¬ (false = true) by decide)] at H; exact H
    clear H
    have H := H1
    clear H1
    exact absurd H (by rw [hrt.out]; cases k <;> simp [laws_FnRowsKeepWater.j0])
   subst c42
   have H1 : (if (t637 != t640) = true then (laws_FnRowsKeepWater.j0 k l1 t605 t606 t611 t612 t619 t627 t637 t641 t645 true) else (if t635 = t638 then (if t636 = t639 then (if (t642 != t644) = true then (laws_FnRowsKeepWater.j0 k l1 t605 t606 t611 t612 t619 t627 t637 t641 t645 true) else (if t641 = t643 then (if (t646 != t648) = true then (laws_FnRowsKeepWater.j0 k l1 t605 t606 t611 t612 t619 t627 t637 t641 t645 true) else (if (t645 != t647) = true then (laws_FnRowsKeepWater.j0 k l1 t605 t606 t611 t612 t619 t627 t637 t641 t645 true) else (if (t622 != t612) = true then (laws_FnRowsKeepWater.j0 k l1 t605 t606 t611 t612 t619 t627 t637 t641 t645 true) else (if (t628 != t612) = true then (laws_FnRowsKeepWater.j0 k l1 t605 t606 t611 t612 t619 t627 t637 t641 t645 true) else (if (t642 != t612) = true then (laws_FnRowsKeepWater.j0 k l1 t605 t606 t611 t612 t619 t627 t637 t641 t645 true) else (if (t646 != t612) = true then (laws_FnRowsKeepWater.j0 k l1 t605 t606 t611 t612 t619 t627 t637 t641 t645 true) else ((impl_IsRow.f t605).bind fun t652 => (if t652 = true then ((impl_AreFlows.f t606).bind fun t653 => (laws_FnRowsKeepWater.j0 k l1 t605 t606 t611 t612 t619 t627 t637 t641 t645 (t612 != t653))) else (laws_FnRowsKeepWater.j0 k l1 t605 t606 t611 t612 t619 t627 t637 t641 t645 (t612 != false)))))))))) else (laws_FnRowsKeepWater.j0 k l1 t605 t606 t611 t612 t619 t627 t637 t641 t645 true))) else (laws_FnRowsKeepWater.j0 k l1 t605 t606 t611 t612 t619 t627 t637 t641 t645 true)) else (laws_FnRowsKeepWater.j0 k l1 t605 t606 t611 t612 t619 t627 t637 t641 t645 true))) = some r := by rw [if_pos rfl] at H; exact H
   clear H
   have H := H1
   clear H1
   by_cases c43 : (t637 != t640) = true
   ·rw [if_pos c43] at H
    have c43b0 : (t637 != t640) = true := c43
    (try (have c43b1 : decide (t637 = t640) = false := by simpa using c43))
    (try (have c43b2 : (t637 == t640) = false := by simpa using c43))
    (try (have c43b3 : ¬ (t637 = t640) := by simpa using c43))
    clear c43
    exact absurd H (by rw [hrt.out]; cases k <;> simp [laws_FnRowsKeepWater.j0])
   rw [if_neg c43] at H
   have c43b0 : (t637 != t640) = false := by simpa using c43
   (try (have c43b1 : decide (t637 = t640) = true := by simpa using c43))
   (try (have c43b2 : (t637 == t640) = true := by simpa using c43))
   clear c43
   by_cases c44 : t635 = t638
   rotate_left
   ·rw [if_neg c44] at H
    have c44b0 : (t635 == t638) = false := beq_eq_false_iff_ne.mpr c44
    have c44b1 : (t635 != t638) = true := bne_iff_ne.mpr c44
    exact absurd H (by rw [hrt.out]; cases k <;> simp [laws_FnRowsKeepWater.j0])
   rw [if_pos c44] at H
   have c44b0 : (t635 == t638) = true := beq_iff_eq.mpr c44
   have c44b1 : (t635 != t638) = false := bne_eq_false_iff_eq.mpr c44
   clear c44
   by_cases c45 : t636 = t639
   rotate_left
   ·rw [if_neg c45] at H
    have c45b0 : (t636 == t639) = false := beq_eq_false_iff_ne.mpr c45
    have c45b1 : (t636 != t639) = true := bne_iff_ne.mpr c45
    exact absurd H (by rw [hrt.out]; cases k <;> simp [laws_FnRowsKeepWater.j0])
   rw [if_pos c45] at H
   have c45b0 : (t636 == t639) = true := beq_iff_eq.mpr c45
   have c45b1 : (t636 != t639) = false := bne_eq_false_iff_eq.mpr c45
   clear c45
   by_cases c46 : (t642 != t644) = true
   ·rw [if_pos c46] at H
    have c46b0 : (t642 != t644) = true := c46
    (try (have c46b1 : decide (t642 = t644) = false := by simpa using c46))
    (try (have c46b2 : (t642 == t644) = false := by simpa using c46))
    (try (have c46b3 : ¬ (t642 = t644) := by simpa using c46))
    clear c46
    exact absurd H (by rw [hrt.out]; cases k <;> simp [laws_FnRowsKeepWater.j0])
   rw [if_neg c46] at H
   have c46b0 : (t642 != t644) = false := by simpa using c46
   (try (have c46b1 : decide (t642 = t644) = true := by simpa using c46))
   (try (have c46b2 : (t642 == t644) = true := by simpa using c46))
   clear c46
   by_cases c47 : t641 = t643
   rotate_left
   ·rw [if_neg c47] at H
    have c47b0 : (t641 == t643) = false := beq_eq_false_iff_ne.mpr c47
    have c47b1 : (t641 != t643) = true := bne_iff_ne.mpr c47
    exact absurd H (by rw [hrt.out]; cases k <;> simp [laws_FnRowsKeepWater.j0])
   rw [if_pos c47] at H
   have c47b0 : (t641 == t643) = true := beq_iff_eq.mpr c47
   have c47b1 : (t641 != t643) = false := bne_eq_false_iff_eq.mpr c47
   clear c47
   by_cases c48 : (t646 != t648) = true
   ·rw [if_pos c48] at H
    have c48b0 : (t646 != t648) = true := c48
    (try (have c48b1 : decide (t646 = t648) = false := by simpa using c48))
    (try (have c48b2 : (t646 == t648) = false := by simpa using c48))
    (try (have c48b3 : ¬ (t646 = t648) := by simpa using c48))
    clear c48
    exact absurd H (by rw [hrt.out]; cases k <;> simp [laws_FnRowsKeepWater.j0])
   rw [if_neg c48] at H
   have c48b0 : (t646 != t648) = false := by simpa using c48
   (try (have c48b1 : decide (t646 = t648) = true := by simpa using c48))
   (try (have c48b2 : (t646 == t648) = true := by simpa using c48))
   clear c48
   by_cases c49 : (t645 != t647) = true
   ·rw [if_pos c49] at H
    have c49b0 : (t645 != t647) = true := c49
    (try (have c49b1 : decide (t645 = t647) = false := by simpa using c49))
    (try (have c49b2 : (t645 == t647) = false := by simpa using c49))
    (try (have c49b3 : ¬ (t645 = t647) := by simpa using c49))
    clear c49
    exact absurd H (by rw [hrt.out]; cases k <;> simp [laws_FnRowsKeepWater.j0])
   rw [if_neg c49] at H
   have c49b0 : (t645 != t647) = false := by simpa using c49
   (try (have c49b1 : decide (t645 = t647) = true := by simpa using c49))
   (try (have c49b2 : (t645 == t647) = true := by simpa using c49))
   clear c49
   by_cases c50 : (t622 != t612) = true
   ·rw [if_pos c50] at H
    have c50b0 : (t622 != t612) = true := c50
    (try (have c50b1 : decide (t622 = t612) = false := by simpa using c50))
    (try (have c50b2 : (t622 == t612) = false := by simpa using c50))
    (try (have c50b3 : ¬ (t622 = t612) := by simpa using c50))
    clear c50
    exact absurd H (by rw [hrt.out]; cases k <;> simp [laws_FnRowsKeepWater.j0])
   rw [if_neg c50] at H
   have c50b0 : (t622 != t612) = false := by simpa using c50
   (try (have c50b1 : decide (t622 = t612) = true := by simpa using c50))
   (try (have c50b2 : (t622 == t612) = true := by simpa using c50))
   clear c50
   by_cases c51 : (t628 != t612) = true
   ·rw [if_pos c51] at H
    have c51b0 : (t628 != t612) = true := c51
    (try (have c51b1 : decide (t628 = t612) = false := by simpa using c51))
    (try (have c51b2 : (t628 == t612) = false := by simpa using c51))
    (try (have c51b3 : ¬ (t628 = t612) := by simpa using c51))
    clear c51
    exact absurd H (by rw [hrt.out]; cases k <;> simp [laws_FnRowsKeepWater.j0])
   rw [if_neg c51] at H
   have c51b0 : (t628 != t612) = false := by simpa using c51
   (try (have c51b1 : decide (t628 = t612) = true := by simpa using c51))
   (try (have c51b2 : (t628 == t612) = true := by simpa using c51))
   clear c51
   by_cases c52 : (t642 != t612) = true
   ·rw [if_pos c52] at H
    have c52b0 : (t642 != t612) = true := c52
    (try (have c52b1 : decide (t642 = t612) = false := by simpa using c52))
    (try (have c52b2 : (t642 == t612) = false := by simpa using c52))
    (try (have c52b3 : ¬ (t642 = t612) := by simpa using c52))
    clear c52
    exact absurd H (by rw [hrt.out]; cases k <;> simp [laws_FnRowsKeepWater.j0])
   rw [if_neg c52] at H
   have c52b0 : (t642 != t612) = false := by simpa using c52
   (try (have c52b1 : decide (t642 = t612) = true := by simpa using c52))
   (try (have c52b2 : (t642 == t612) = true := by simpa using c52))
   clear c52
   by_cases c53 : (t646 != t612) = true
   ·rw [if_pos c53] at H
    have c53b0 : (t646 != t612) = true := c53
    (try (have c53b1 : decide (t646 = t612) = false := by simpa using c53))
    (try (have c53b2 : (t646 == t612) = false := by simpa using c53))
    (try (have c53b3 : ¬ (t646 = t612) := by simpa using c53))
    clear c53
    exact absurd H (by rw [hrt.out]; cases k <;> simp [laws_FnRowsKeepWater.j0])
   rw [if_neg c53] at H
   have c53b0 : (t646 != t612) = false := by simpa using c53
   (try (have c53b1 : decide (t646 = t612) = true := by simpa using c53))
   (try (have c53b2 : (t646 == t612) = true := by simpa using c53))
   clear c53
   replace H := Option.bind_eq_some_iff.mp H
   obtain ⟨t652, A540, H⟩ := H
   (try dsimp only at H)
   have A54 := Aside0.mk A540
   clear A540
   by_cases c55 : t652 = true
   rotate_left
   ·replace c55 := Bool.eq_false_iff.mpr c55
    subst c55
    have H1 : (laws_FnRowsKeepWater.j0 k l1 t605 t606 t611 t612 t619 t627 t637 t641 t645 (t612 != false)) = some r := by rw [if_neg (show ¬ (false = true) by decide)] at H; exact H
    clear H
    have H := H1
    clear H1
    have H' := Aside0.mk H
    clear H
    obtain ⟨Ao65, co65, eo65⟩ := Kd.R_slice HO614.out
    subst eo65
    obtain ⟨Ao66, co66, eo66⟩ := Kd.R_slice HO618.out
    subst eo66
    go_wp2_with (first | (go_at_call 17; (with_reducible refine (laws_hSame.calls k _ _ t611 _ _ t615 true _ ?side1 ?side2 ?side3 ?side4 A35.out).mono ?_); (case side1 => exact cr HO614); (case side2 => exact (Kd.R_reads' HO614.out).2.1); (case side3 => exact cr HO618); (case side4 => exact (Kd.R_reads' HO618.out).2.1); rintro e w' ⟨rfl, ⟨nd, rfl⟩⟩; obtain ⟨Ao67, co67, eo67⟩ := Kd.V_slice HO621.out; subst eo67; obtain ⟨Ao68, co68, eo68⟩ := Kd.R_slice HO626.out; subst eo68) | (go_at_call 19; (with_reducible refine (laws_hBasins.calls k _ _ t619 _ _ t623 true _ ?side1 ?side2 ?side3 ?side4 A38.out).mono ?_); (case side1 => repeat (first | exact (Kd.V_reads' HO621.out).2.2 | (with_reducible refine Kd.C_alloc ?_ _) | (with_reducible refine Kd.C_drewN ?_ _) | (with_reducible refine Kd.C_drew ?_))); (case side2 => exact (Kd.V_reads' HO621.out).2.1); (case side3 => exact cr HO626); (case side4 => exact (Kd.R_reads' HO626.out).2.1); rintro e w' ⟨rfl, ⟨nd, rfl⟩⟩; obtain ⟨Ao69, co69, eo69⟩ := Kd.R_slice HO630.out; subst eo69; obtain ⟨Ao70, co70, eo70⟩ := Kd.R_slice HO634.out; subst eo70) | (go_at_call 17; (with_reducible refine (laws_hSame.calls k _ _ t627 _ _ t631 true _ ?side1 ?side2 ?side3 ?side4 A41.out).mono ?_); (case side1 => exact cr HO630); (case side2 => exact (Kd.R_reads' HO630.out).2.1); (case side3 => exact cr HO634); (case side4 => exact (Kd.R_reads' HO634.out).2.1); rintro e w' ⟨rfl, ⟨nd, rfl⟩⟩) | (go_at_call 11; (with_reducible refine (impl_IsRow.calls _ _ t605 false _ ?side1 ?side2 A54.out).mono ?_); (case side1 => exact cr HO608); (case side2 => exact (Kd.R_reads' HO608.out).2.1); rintro e w71 ⟨rfl, hb⟩; replace HO608 := rb HO608 hb; replace HO610 := rb HO610 hb; replace HO614 := rb HO614 hb; replace HO618 := rb HO618 hb; replace HO621 := Aside0.mk (Kd.V_below (by (with_reducible repeat (first | apply Kd.V_alloc | apply Kd.V_drewN | apply Kd.V_drew)); exact HO621.out) hb); replace HO626 := rb HO626 hb; replace HO630 := rb HO630 hb; replace HO634 := rb HO634 hb; replace HB := bs HB hb; (try clear hb)))
    (refine Met.intro ?_; go_step; refine Cut_mk (by kernel_rfl) ?rel2)
    case rel2 => exact ⟨_, ((t612 != false)), (by first | rfl | (simp; done) | (simp [*]; done)), H', ⟨by first | exact Nat.le_refl _ | (omega)⟩, ⟨by exact Kd.R_mono HO608.out (fun _ hk => trivial)⟩, ⟨by exact Kd.R_mono HO610.out (fun _ hk => ⟨hk.1.1.1.2, hk.1.2⟩)⟩, ⟨by exact Kd.R_mono HO614.out (fun _ hk => ⟨hk.1.1.1.2, hk.1.2⟩)⟩, ⟨by exact Kd.V_mono HO621.out (fun _ hk => ⟨hk.1.1.1.1, ⟨hk.1.1.1.2.1, ⟨hk.1.1.1.2.2.1, hk.1.2⟩⟩⟩)⟩, ⟨by exact Kd.R_mono HO630.out (fun _ hk => ⟨hk.1.1.1.2, hk.1.1.2⟩)⟩, ⟨bw HB⟩⟩
   subst c55
   have H1 : ((impl_AreFlows.f t606).bind fun t653 => (laws_FnRowsKeepWater.j0 k l1 t605 t606 t611 t612 t619 t627 t637 t641 t645 (t612 != t653))) = some r := by rw [if_pos rfl] at H; exact H
   clear H
   have H := H1
   clear H1
   replace H := Option.bind_eq_some_iff.mp H
   obtain ⟨t653, A560, H⟩ := H
   (try dsimp only at H)
   have A56 := Aside0.mk A560
   clear A560
   have H' := Aside0.mk H
   clear H
   obtain ⟨Ao57, co57, eo57⟩ := Kd.R_slice HO614.out
   subst eo57
   obtain ⟨Ao58, co58, eo58⟩ := Kd.R_slice HO618.out
   subst eo58
   go_wp2_with (first | (go_at_call 17; (with_reducible refine (laws_hSame.calls k _ _ t611 _ _ t615 true _ ?side1 ?side2 ?side3 ?side4 A35.out).mono ?_); (case side1 => exact cr HO614); (case side2 => exact (Kd.R_reads' HO614.out).2.1); (case side3 => exact cr HO618); (case side4 => exact (Kd.R_reads' HO618.out).2.1); rintro e w' ⟨rfl, ⟨nd, rfl⟩⟩; obtain ⟨Ao59, co59, eo59⟩ := Kd.V_slice HO621.out; subst eo59; obtain ⟨Ao60, co60, eo60⟩ := Kd.R_slice HO626.out; subst eo60) | (go_at_call 19; (with_reducible refine (laws_hBasins.calls k _ _ t619 _ _ t623 true _ ?side1 ?side2 ?side3 ?side4 A38.out).mono ?_); (case side1 => repeat (first | exact (Kd.V_reads' HO621.out).2.2 | (with_reducible refine Kd.C_alloc ?_ _) | (with_reducible refine Kd.C_drewN ?_ _) | (with_reducible refine Kd.C_drew ?_))); (case side2 => exact (Kd.V_reads' HO621.out).2.1); (case side3 => exact cr HO626); (case side4 => exact (Kd.R_reads' HO626.out).2.1); rintro e w' ⟨rfl, ⟨nd, rfl⟩⟩; obtain ⟨Ao61, co61, eo61⟩ := Kd.R_slice HO630.out; subst eo61; obtain ⟨Ao62, co62, eo62⟩ := Kd.R_slice HO634.out; subst eo62) | (go_at_call 17; (with_reducible refine (laws_hSame.calls k _ _ t627 _ _ t631 true _ ?side1 ?side2 ?side3 ?side4 A41.out).mono ?_); (case side1 => exact cr HO630); (case side2 => exact (Kd.R_reads' HO630.out).2.1); (case side3 => exact cr HO634); (case side4 => exact (Kd.R_reads' HO634.out).2.1); rintro e w' ⟨rfl, ⟨nd, rfl⟩⟩) | (go_at_call 11; (with_reducible refine (impl_IsRow.calls _ _ t605 true _ ?side1 ?side2 A54.out).mono ?_); (case side1 => exact cr HO608); (case side2 => exact (Kd.R_reads' HO608.out).2.1); rintro e w63 ⟨rfl, hb⟩; replace HO608 := rb HO608 hb; replace HO610 := rb HO610 hb; replace HO614 := rb HO614 hb; replace HO618 := rb HO618 hb; replace HO621 := Aside0.mk (Kd.V_below (by (with_reducible repeat (first | apply Kd.V_alloc | apply Kd.V_drewN | apply Kd.V_drew)); exact HO621.out) hb); replace HO626 := rb HO626 hb; replace HO630 := rb HO630 hb; replace HO634 := rb HO634 hb; replace HB := bs HB hb; (try clear hb)) | (go_at_call 39; (with_reducible refine (impl_AreFlows.calls _ _ t606 t653 _ ?side1 ?side2 A56.out).mono ?_); (case side1 => exact cr HO610); (case side2 => exact (Kd.R_reads' HO610.out).2.1); rintro e w64 ⟨rfl, hb⟩; replace HO608 := rb HO608 hb; replace HO610 := rb HO610 hb; replace HO614 := rb HO614 hb; replace HO618 := rb HO618 hb; replace HO621 := Aside0.mk (Kd.V_below (by (with_reducible repeat (first | apply Kd.V_alloc | apply Kd.V_drewN | apply Kd.V_drew)); exact HO621.out) hb); replace HO626 := rb HO626 hb; replace HO630 := rb HO630 hb; replace HO634 := rb HO634 hb; replace HB := bs HB hb; (try clear hb)))
   (refine Met.intro ?_; go_step; refine Cut_mk (by kernel_rfl) ?rel3)
   case rel3 => exact ⟨_, ((t612 != t653)), (by first | rfl | (simp; done) | (simp [*]; done)), H', ⟨by first | exact Nat.le_refl _ | (omega)⟩, ⟨by exact Kd.R_mono HO608.out (fun _ hk => trivial)⟩, ⟨by exact Kd.R_mono HO610.out (fun _ hk => ⟨hk.1.1.1.2, hk.1.2⟩)⟩, ⟨by exact Kd.R_mono HO614.out (fun _ hk => ⟨hk.1.1.1.2, hk.1.2⟩)⟩, ⟨by exact Kd.V_mono HO621.out (fun _ hk => ⟨hk.1.1.1.1, ⟨hk.1.1.1.2.1, ⟨hk.1.1.1.2.2.1, hk.1.2⟩⟩⟩)⟩, ⟨by exact Kd.R_mono HO630.out (fun _ hk => ⟨hk.1.1.1.2, hk.1.1.2⟩)⟩, ⟨bw HB⟩⟩
 case rest1 =>
   intro u_ wc hcut l_ hl_; (simp only [rl, List.reduceReplicate, List.cons_append, List.nil_append, List.append_nil, Bool.not_true, Bool.not_false, fu, Nat.reduceAdd] at hl_); subst hl_; generalize u_ 241 = v241 at hcut ⊢
   clear HC18
   (try clear c1); (try clear c4)
   obtain ⟨kq, x241_17, rfl, HA, HJ17, HO_5, HO_6, HO_7, HO_11, HO_15, HB⟩ := hcut
   cases kq with
   | zero => exact absurd HA.out (by simp [laws_FnRowsKeepWater.j0])
   | succ kj17 =>
    have H := HA.out
    clear HA
    simp only [laws_FnRowsKeepWater.j0] at H
    by_cases c72 : x241_17 = true
    ·subst c72
     have H1 : (some false) = some r := by rw [if_pos rfl] at H; exact H
     clear H
     have H := H1
     clear H1
     exact absurd ((Option.some.inj H).trans hrt.out) (by decide)
    replace c72 := Bool.eq_false_iff.mpr c72
    subst c72
    have H1 : (if t612 = true then ((impl_HeldInRow.f kj17 t605).bind fun bt654 => ((impl_HeldInRow.f kj17 t619).bind fun bt656 => (if bt654.2 = true then (if bt656.2 = true then ((laws_hSum.f kj17 t606).bind fun t658 => ((laws_hSum.f kj17 t611).bind fun t659 => (if (wrap64 ((wrap64 (bt654.1 + t658)) - t659)) = bt656.1 then (if t645 = true then (if (t611.length : Int) = (t606.length : Int) then ((laws_hSum.f kj17 t627).bind fun t660 => (laws_FnRowsKeepWater.j1 kj17 l1 t605 t606 t611 t619 t641 (t637 != (decide (t660 > 0))))) else (laws_FnRowsKeepWater.j1 kj17 l1 t605 t606 t611 t619 t641 true)) else (laws_FnRowsKeepWater.j1 kj17 l1 t605 t606 t611 t619 t641 true)) else (laws_FnRowsKeepWater.j1 kj17 l1 t605 t606 t611 t619 t641 true)))) else (laws_FnRowsKeepWater.j1 kj17 l1 t605 t606 t611 t619 t641 true)) else (laws_FnRowsKeepWater.j1 kj17 l1 t605 t606 t611 t619 t641 true)))) else (laws_FnRowsKeepWater.j6 kj17 l1 t606)) = some r := by rw [if_neg (show ¬ (false = true) by decide)] at H; exact H
    clear H
    have H := H1
    clear H1
    have HC73 := Aside0.mk H
    clear H
    go_upto_if 242 with (fail)
    refine cutF (rl [4, 1, 28, 14, 17, 424] false) (fun u_ wc => ∃ (kq : Nat), Aside0 (laws_FnRowsKeepWater.j6 kq l1 t606 = some r) ∧ Aside0 (kq ≤ kj17) ∧ Aside0 (Kd.R (Kd.int .i64) 3 wc w.heap.size (fun _ => True) (.slice Ao21 t606.length co21) t606) ∧ Aside0 (Below w.heap.size w wc)) ?first4 ?rest4
    case first4 =>
     as_aux_lemma =>
      intro J_ K_ hJ_ hK_
      have H := HC73.out
      clear HC73
      by_cases c74 : t612 = true
      rotate_left
      ·replace c74 := Bool.eq_false_iff.mpr c74
       subst c74
       have H1 : (laws_FnRowsKeepWater.j6 kj17 l1 t606) = some r := by rw [if_neg (show ¬ (false = true) by decide)] at H; exact H
       clear H
       have H := H1
       clear H1
       have H' := Aside0.mk H
       clear H
       go_wp2
       (refine Met.intro ?_; go_step; refine Cut_mk (by kernel_rfl) ?rel5)
       case rel5 => exact ⟨_, H', ⟨by first | exact Nat.le_refl _ | exact Nat.le_of_succ_le HJ17.out | (have := HJ17.out; omega)⟩, ⟨by exact Kd.R_mono HO_6.out (fun _ hk => trivial)⟩, ⟨bw HB⟩⟩
      subst c74
      have H1 : ((impl_HeldInRow.f kj17 t605).bind fun bt654 => ((impl_HeldInRow.f kj17 t619).bind fun bt656 => (if bt654.2 = true then (if bt656.2 = true then ((laws_hSum.f kj17 t606).bind fun t658 => ((laws_hSum.f kj17 t611).bind fun t659 => (if (wrap64 ((wrap64 (bt654.1 + t658)) - t659)) = bt656.1 then (if t645 = true then (if (t611.length : Int) = (t606.length : Int) then ((laws_hSum.f kj17 t627).bind fun t660 => (laws_FnRowsKeepWater.j1 kj17 l1 t605 t606 t611 t619 t641 (t637 != (decide (t660 > 0))))) else (laws_FnRowsKeepWater.j1 kj17 l1 t605 t606 t611 t619 t641 true)) else (laws_FnRowsKeepWater.j1 kj17 l1 t605 t606 t611 t619 t641 true)) else (laws_FnRowsKeepWater.j1 kj17 l1 t605 t606 t611 t619 t641 true)))) else (laws_FnRowsKeepWater.j1 kj17 l1 t605 t606 t611 t619 t641 true)) else (laws_FnRowsKeepWater.j1 kj17 l1 t605 t606 t611 t619 t641 true)))) = some r := by rw [if_pos rfl] at H; exact H
      clear H
      have H := H1
      clear H1
      replace H := Option.bind_eq_some_iff.mp H
      obtain ⟨⟨t654, t655⟩, A750, H⟩ := H
      (try dsimp only at H)
      have A75 := Aside0.mk A750
      clear A750
      replace H := Option.bind_eq_some_iff.mp H
      obtain ⟨⟨t656, t657⟩, A760, H⟩ := H
      (try dsimp only at H)
      have A76 := Aside0.mk A760
      clear A760
      have HC77 := Aside0.mk H
      clear H
      go_upto_region 21 with (first | ((with_reducible refine gate_callee (f := 9) rfl ?_); refine gl 245 Try.func9 #[.slice Ao20 t605.length co20] ?_; (with_reducible refine (impl_HeldInRow.calls kj17 _ _ t605 t654 t655 _ ?side1 ?side2 A75.out).mono ?_); (case side1 => exact cr HO_5); (case side2 => exact (Kd.R_reads' HO_5.out).2.1); rintro e w78 ⟨rfl, hb⟩; refine ⟨_, rfl, ?_⟩; replace HO_5 := rb HO_5 hb; replace HO_6 := rb HO_6 hb; replace HO_7 := rb HO_7 hb; replace HO_11 := Aside0.mk (Kd.V_below HO_11.out hb); replace HO_15 := rb HO_15 hb; replace HB := bs HB hb; (try clear hb); obtain ⟨Ao79, co79, eo79⟩ := Kd.V_slice HO_11.out; subst eo79) | ((with_reducible refine gate_callee (f := 9) rfl ?_); refine gl 250 Try.func9 #[.slice Ao79 t619.length co79] ?_; (with_reducible refine (impl_HeldInRow.calls kj17 _ _ t619 t656 t657 _ ?side1 ?side2 A76.out).mono ?_); (case side1 => repeat (first | exact (Kd.V_reads' HO_11.out).2.2 | (with_reducible refine Kd.C_alloc ?_ _) | (with_reducible refine Kd.C_drewN ?_ _) | (with_reducible refine Kd.C_drew ?_))); (case side2 => exact (Kd.V_reads' HO_11.out).2.1); rintro e w80 ⟨rfl, hb⟩; refine ⟨_, rfl, ?_⟩; replace HO_5 := rb HO_5 hb; replace HO_6 := rb HO_6 hb; replace HO_7 := rb HO_7 hb; replace HO_11 := Aside0.mk (Kd.V_below HO_11.out hb); replace HO_15 := rb HO_15 hb; replace HB := bs HB hb; (try clear hb)))
      (try simp only [Act.put, List.setIfInBounds_toArray, List.set_cons_zero, List.set_cons_succ])
      refine cutF (rl [64, 225, 3, 42, 2, 152] false) (fun u_ wc => ∃ (kq : Nat) (x287_76 : Bool), (u_ 287) = .bool x287_76 ∧ Aside0 (laws_FnRowsKeepWater.j1 kq l1 t605 t606 t611 t619 t641 x287_76 = some r) ∧ Aside0 (kq ≤ kj17) ∧ Aside0 (Kd.R k30 30 wc w.heap.size (fun _ => True) (.slice Ao20 t605.length co20) t605) ∧ Aside0 (Kd.R (Kd.int .i64) 3 wc w.heap.size (fun k_ => some k_ ≠ (v613 : Value).ownBlock) (.slice Ao21 t606.length co21) t606) ∧ Aside0 (Kd.R (Kd.int .i64) 3 wc w.heap.size (fun k_ => some k_ ≠ ((.slice Ao21 t606.length co21) : Value).ownBlock) v613 t611) ∧ Aside0 (Kd.V k30 30 wc w.heap.size (fun k_ => some k_ ≠ ((.slice Ao20 t605.length co20) : Value).ownBlock ∧ some k_ ≠ ((.slice Ao21 t606.length co21) : Value).ownBlock ∧ some k_ ≠ (v613 : Value).ownBlock) (.slice Ao79 t619.length co79) t619) ∧ Aside0 (Below w.heap.size w wc)) ?first6 ?rest6
      case first6 =>
       as_aux_lemma =>
        intro J_ K_ hJ_ hK_
        have H := HC77.out
        clear HC77
        by_cases c81 : t655 = true
        rotate_left
        ·replace c81 := Bool.eq_false_iff.mpr c81
         subst c81
         have H1 : (laws_FnRowsKeepWater.j1 kj17 l1 t605 t606 t611 t619 t641 true) = some r := by rw [if_neg (show ¬ (false = true) by decide)] at H; exact H
         clear H
         have H := H1
         clear H1
         exact absurd H (by rw [hrt.out]; cases kj17 <;> simp [laws_FnRowsKeepWater.j1])
        subst c81
        have H1 : (if t657 = true then ((laws_hSum.f kj17 t606).bind fun t658 => ((laws_hSum.f kj17 t611).bind fun t659 => (if (wrap64 ((wrap64 (t654 + t658)) - t659)) = t656 then (if t645 = true then (if (t611.length : Int) = (t606.length : Int) then ((laws_hSum.f kj17 t627).bind fun t660 => (laws_FnRowsKeepWater.j1 kj17 l1 t605 t606 t611 t619 t641 (t637 != (decide (t660 > 0))))) else (laws_FnRowsKeepWater.j1 kj17 l1 t605 t606 t611 t619 t641 true)) else (laws_FnRowsKeepWater.j1 kj17 l1 t605 t606 t611 t619 t641 true)) else (laws_FnRowsKeepWater.j1 kj17 l1 t605 t606 t611 t619 t641 true)))) else (laws_FnRowsKeepWater.j1 kj17 l1 t605 t606 t611 t619 t641 true)) = some r := by rw [if_pos rfl] at H; exact H
        clear H
        have H := H1
        clear H1
        by_cases c82 : t657 = true
        rotate_left
        ·replace c82 := Bool.eq_false_iff.mpr c82
         subst c82
         have H1 : (laws_FnRowsKeepWater.j1 kj17 l1 t605 t606 t611 t619 t641 true) = some r := by rw [if_neg (show ¬ (false = true) by decide)] at H; exact H
         clear H
         have H := H1
         clear H1
         exact absurd H (by rw [hrt.out]; cases kj17 <;> simp [laws_FnRowsKeepWater.j1])
        subst c82
        have H1 : ((laws_hSum.f kj17 t606).bind fun t658 => ((laws_hSum.f kj17 t611).bind fun t659 => (if (wrap64 ((wrap64 (t654 + t658)) - t659)) = t656 then (if t645 = true then (if (t611.length : Int) = (t606.length : Int) then ((laws_hSum.f kj17 t627).bind fun t660 => (laws_FnRowsKeepWater.j1 kj17 l1 t605 t606 t611 t619 t641 (t637 != (decide (t660 > 0))))) else (laws_FnRowsKeepWater.j1 kj17 l1 t605 t606 t611 t619 t641 true)) else (laws_FnRowsKeepWater.j1 kj17 l1 t605 t606 t611 t619 t641 true)) else (laws_FnRowsKeepWater.j1 kj17 l1 t605 t606 t611 t619 t641 true)))) = some r := by rw [if_pos rfl] at H; exact H
        clear H
        have H := H1
        clear H1
        replace H := Option.bind_eq_some_iff.mp H
        obtain ⟨t658, A830, H⟩ := H
        (try dsimp only at H)
        have A83 := Aside0.mk A830
        clear A830
        replace H := Option.bind_eq_some_iff.mp H
        obtain ⟨t659, A840, H⟩ := H
        (try dsimp only at H)
        have A84 := Aside0.mk A840
        clear A840
        by_cases c85 : (wrap64 ((wrap64 (t654 + t658)) - t659)) = t656
        rotate_left
        ·rw [if_neg c85] at H
         have c85b0 : ((wrap64 ((wrap64 (t654 + t658)) - t659)) == t656) = false := beq_eq_false_iff_ne.mpr c85
         have c85b1 : ((wrap64 ((wrap64 (t654 + t658)) - t659)) != t656) = true := bne_iff_ne.mpr c85
         (first | rw [c85b0] | (simp only [i64_w, i32_w]; rw [c85b0]) | skip)
         exact absurd H (by rw [hrt.out]; cases kj17 <;> simp [laws_FnRowsKeepWater.j1])
        rw [if_pos c85] at H
        have c85b0 : ((wrap64 ((wrap64 (t654 + t658)) - t659)) == t656) = true := beq_iff_eq.mpr c85
        have c85b1 : ((wrap64 ((wrap64 (t654 + t658)) - t659)) != t656) = false := bne_eq_false_iff_eq.mpr c85
        clear c85
        (first | rw [c85b0] | (simp only [i64_w, i32_w]; rw [c85b0]) | skip)
        by_cases c86 : t645 = true
        rotate_left
        ·replace c86 := Bool.eq_false_iff.mpr c86
         subst c86
         have H1 : (laws_FnRowsKeepWater.j1 kj17 l1 t605 t606 t611 t619 t641 true) = some r := by rw [if_neg (show ¬ (false = true) by decide)] at H; exact H
         clear H
         have H := H1
         clear H1
         exact absurd H (by rw [hrt.out]; cases kj17 <;> simp [laws_FnRowsKeepWater.j1])
        subst c86
        have H1 : (if (t611.length : Int) = (t606.length : Int) then ((laws_hSum.f kj17 t627).bind fun t660 => (laws_FnRowsKeepWater.j1 kj17 l1 t605 t606 t611 t619 t641 (t637 != (decide (t660 > 0))))) else (laws_FnRowsKeepWater.j1 kj17 l1 t605 t606 t611 t619 t641 true)) = some r := by rw [if_pos rfl] at H; exact H
        clear H
        have H := H1
        clear H1
        by_cases c87 : (t611.length : Int) = (t606.length : Int)
        rotate_left
        ·rw [if_neg c87] at H
         have c87b0 : ((t611.length : Int) == (t606.length : Int)) = false := beq_eq_false_iff_ne.mpr c87
         have c87b1 : ((t611.length : Int) != (t606.length : Int)) = true := bne_iff_ne.mpr c87
         have c87b2 : (t611.length == t606.length) = false := by first | simpa using c87 | (simp at c87 ⊢; omega)
         exact absurd H (by rw [hrt.out]; cases kj17 <;> simp [laws_FnRowsKeepWater.j1])
        rw [if_pos c87] at H
        have c87b0 : ((t611.length : Int) == (t606.length : Int)) = true := beq_iff_eq.mpr c87
        have c87b1 : ((t611.length : Int) != (t606.length : Int)) = false := bne_eq_false_iff_eq.mpr c87
        have c87b2 : (t611.length == t606.length) = true := by first | simpa using c87 | (simp at c87 ⊢; omega)
        clear c87
        replace H := Option.bind_eq_some_iff.mp H
        obtain ⟨t660, A880, H⟩ := H
        (try dsimp only at H)
        have A88 := Aside0.mk A880
        clear A880
        have H' := Aside0.mk H
        clear H
        go_wp2_with (first | (go_at_call 40; (with_reducible refine (laws_hSum.calls kj17 _ _ t606 t658 _ ?side1 ?side2 A83.out).mono ?_); (case side1 => exact cr HO_6); (case side2 => exact (Kd.R_reads' HO_6.out).2.1); rintro e w' ⟨rfl, ⟨nd, rfl⟩⟩; obtain ⟨Ao89, co89, eo89⟩ := Kd.R_slice HO_7.out; subst eo89) | (go_at_call 40; (with_reducible refine (laws_hSum.calls kj17 _ _ t611 t659 _ ?side1 ?side2 A84.out).mono ?_); (case side1 => exact cr HO_7); (case side2 => exact (Kd.R_reads' HO_7.out).2.1); rintro e w' ⟨rfl, ⟨nd, rfl⟩⟩; obtain ⟨Ao90, co90, eo90⟩ := Kd.R_slice HO_15.out; subst eo90) | (go_at_call 40; (with_reducible refine (laws_hSum.calls kj17 _ _ t627 t660 _ ?side1 ?side2 A88.out).mono ?_); (case side1 => exact cr HO_15); (case side2 => exact (Kd.R_reads' HO_15.out).2.1); rintro e w' ⟨rfl, ⟨nd, rfl⟩⟩))
        (refine Met.intro ?_; go_step; refine Cut_mk (by kernel_rfl) ?rel7)
        case rel7 => exact ⟨_, ((t637 != (decide (t660 > 0)))), (by first | rfl | (simp; done) | (simp [*]; done)), H', ⟨by first | exact Nat.le_refl _ | exact Nat.le_of_succ_le HJ17.out | (have := HJ17.out; omega)⟩, ⟨rk HO_5⟩, ⟨by exact Kd.R_mono HO_6.out (fun _ hk => hk.1)⟩, ⟨by exact Kd.R_mono HO_7.out (fun _ hk => hk.1)⟩, ⟨by exact Kd.V_mono HO_11.out (fun _ hk => ⟨hk.1, ⟨hk.2.1, hk.2.2.1⟩⟩)⟩, ⟨bw HB⟩⟩
      case rest6 =>
        intro u_ wc hcut l_ hl_; (simp only [rl, List.reduceReplicate, List.cons_append, List.nil_append, List.append_nil, Bool.not_true, Bool.not_false, fu, Nat.reduceAdd] at hl_); subst hl_; generalize u_ 287 = v287 at hcut ⊢
        clear HC77
        (try clear c1); (try clear c4); (try clear c72); (try clear c74)
        obtain ⟨kq, x287_76, rfl, HA, HJ76, HO_5, HO_6, HO_7, HO_11, HB⟩ := hcut
        cases kq with
        | zero => exact absurd HA.out (by simp [laws_FnRowsKeepWater.j1])
        | succ kj76 =>
         have H := HA.out
         clear HA
         simp only [laws_FnRowsKeepWater.j1] at H
         by_cases c91 : x287_76 = true
         ·subst c91
          have H1 : (some false) = some r := by rw [if_pos rfl] at H; exact H
          clear H
          have H := H1
          clear H1
          exact absurd ((Option.some.inj H).trans hrt.out) (by decide)
         replace c91 := Bool.eq_false_iff.mpr c91
         subst c91
         have H1 : (laws_FnRowsKeepWater.l0 kj76 l1 t605 t606 t611 t619 t641 t605 0 t606 (t606.length : Int) 0) = some r := by rw [if_neg (show ¬ (false = true) by decide)] at H; exact H
         clear H
         have H := H1
         clear H1
         have H' := Aside0.mk H
         clear H
         go_wp2
         try simp only [Act.put, List.setIfInBounds_toArray, List.set_cons_zero, List.set_cons_succ]
         refine loopF (rl [4, 1, 32, 7, 247, 33, 164] false) kj76 (fun kq u_ w' => ∃ (x37_3 : List (S30)) (x38_3 : Int) (x291_3 : Int), (u_ 38) = .int .i64 x38_3 ∧ (u_ 291) = .int .i64 x291_3 ∧ Aside0 (laws_FnRowsKeepWater.l0 kq l1 t605 t606 t611 t619 t641 x37_3 x38_3 t606 (t606.length : Int) x291_3 = some r) ∧ Aside0 (kq ≤ kj76) ∧ Aside0 (Kd.R k30 30 w' w.heap.size (fun _ => True) (.slice Ao20 t605.length co20) t605) ∧ Aside0 (Kd.R (Kd.int .i64) 3 w' w.heap.size (fun k_ => some k_ ≠ (v613 : Value).ownBlock) (.slice Ao21 t606.length co21) t606) ∧ Aside0 (Kd.R (Kd.int .i64) 3 w' w.heap.size (fun k_ => some k_ ≠ ((.slice Ao21 t606.length co21) : Value).ownBlock ∧ some k_ ≠ ((.slice Ao21 t606.length co21) : Value).ownBlock) v613 t611) ∧ Aside0 (Kd.V k30 30 w' w.heap.size (fun k_ => some k_ ≠ ((.slice Ao20 t605.length co20) : Value).ownBlock ∧ some k_ ≠ ((.slice Ao21 t606.length co21) : Value).ownBlock ∧ some k_ ≠ (v613 : Value).ownBlock ∧ some k_ ≠ ((u_ 37) : Value).ownBlock ∧ some k_ ≠ ((.slice Ao21 t606.length co21) : Value).ownBlock) (.slice Ao79 t619.length co79) t619) ∧ Aside0 (Kd.R k30 30 w' w.heap.size (fun _ => True) (u_ 37) x37_3) ∧ Aside0 (Kd.R (Kd.int .i64) 3 w' w.heap.size (fun k_ => some k_ ≠ (v613 : Value).ownBlock) (.slice Ao21 t606.length co21) t606) ∧ Aside0 (Below w.heap.size w w')) ?atStart8 ?round8
         case atStart8 => exact ⟨(t605), (0), (0), (by first | rfl | (simp; done) | (simp [*]; done)), (by first | rfl | (simp; done) | (simp [*]; done)), H', ⟨Nat.le_refl _⟩, ⟨rk HO_5⟩, ⟨rk HO_6⟩, ⟨by exact Kd.R_mono HO_7.out (fun _ hk => ⟨hk, hk⟩)⟩, ⟨by exact Kd.V_mono HO_11.out (fun _ hk => ⟨hk.1, ⟨hk.2.1, ⟨hk.2.2, ⟨hk.1, hk.2.1⟩⟩⟩⟩)⟩, ⟨rk HO_5⟩, ⟨rk HO_6⟩, ⟨bw HB⟩⟩
         case round8 =>
          intro gk u_ wr hrel l_ hl_; (simp only [rl, List.reduceReplicate, List.cons_append, List.nil_append, List.append_nil, Bool.not_true, Bool.not_false, fu, Nat.reduceAdd] at hl_); subst hl_; generalize u_ 37 = v37 at hrel ⊢; generalize u_ 38 = v38 at hrel ⊢; generalize u_ 291 = v291 at hrel ⊢
          intro J_ K_ hJ_ hK_
          clear H'
          (try clear c1); (try clear c4); (try clear c72); (try clear c74); (try clear c91)
          obtain ⟨x37_3, x38_3, x291_3, rfl, rfl, HA, HK3, HO_5, HO_6, HO_7, HO_11, HO_37, HO_289, HB⟩ := hrel
          cases gk with
          | zero => exact absurd HA.out (by simp [laws_FnRowsKeepWater.l0])
          | succ k3 =>
           have H := HA.out
           clear HA
           simp only [laws_FnRowsKeepWater.l0] at H
           by_cases c92 : x291_3 < (t606.length : Int)
           ·rw [if_pos c92] at H
            have c92b0 : decide (x291_3 < (t606.length : Int)) = true := decide_eq_true c92
            clear c92
            by_cases c93 : 0 ≤ x291_3
            rotate_left
            ·rw [if_neg c93] at H
             exact absurd H (by simp)
            rw [if_pos c93] at H
            have c93b0 : decide (0 ≤ x291_3) = true := decide_eq_true c93
            clear c93
            by_cases c94 : x291_3 < (t606.length : Int)
            rotate_left
            ·rw [if_neg c94] at H
             exact absurd H (by simp)
            rw [if_pos c94] at H
            have c94b0 : decide (x291_3 < (t606.length : Int)) = true := decide_eq_true c94
            clear c94
            replace H := Option.bind_eq_some_iff.mp H
            obtain ⟨⟨t662, t663, t664⟩, A950, H⟩ := H
            (try dsimp only at H)
            have A95 := Aside0.mk A950
            clear A950
            have HC96 := Aside0.mk H
            clear H
            have p661 : 0 ≤ (x291_3 : Int) := of_decide_eq_true ‹_›
            have q661 : x291_3 < (t606.length : Int) := of_decide_eq_true ‹_›
            obtain ⟨ad661, e661, hx661_0⟩ := Kd.at_int (Kd.R_reads' HO_289.out).2.2 x291_3 p661 q661
            cases e661
            replace p661 := eq_true p661
            replace q661 := eq_true q661
            obtain ⟨Ao97, co97, eo97⟩ := Kd.R_slice HO_37.out
            subst eo97
            go_upto_region 29 with (first | ((with_reducible refine gate_callee (f := 18) rfl ?_); refine gl 299 Try.func18 #[.slice Ao97 x37_3.length co97, .int .i64 (rd t606 x291_3)] ?_; (with_reducible refine (impl_TickRow.calls k3 _ _ x37_3 (rd t606 x291_3) t662 t663 t664 _ ?side1 ?side2 A95.out).mono ?_); (case side1 => exact cr HO_37); (case side2 => exact (Kd.R_reads' HO_37.out).2.1); rintro e w98 ⟨v665, rfl, ho0, hb⟩; refine ⟨_, rfl, ?_⟩; replace HO_6 := rb HO_6 hb; replace HO_7 := rb HO_7 hb; replace HO_11 := Aside0.mk (Kd.V_elder' HO_11.out (Kd.R_base ho0) hb); replace HO_289 := rb HO_289 hb; have HO666 := Aside0.mk (Kd.R_lower (Kd.R_new' (Kd.R_new' ho0 (Kd.R_lt (rk HO_5))) (Kd.R_lt (rk HO_37))) (below_size (bw HB))); replace HO_5 := Aside0.mk (Kd.R_elder' (rk HO_5) (Kd.R_base ho0) hb); replace HO_37 := Aside0.mk (Kd.R_elder' (rk HO_37) (Kd.R_base ho0) hb); replace HB := bs HB hb; (try clear hb); (try clear ho0)))
            (try simp only [Act.put, List.setIfInBounds_toArray, List.set_cons_zero, List.set_cons_succ])
            refine cutF (rl [292, 32, 164] false) (fun u_ wc => ∃ (kq : Nat) (x317_95 : Bool), (u_ 317) = .bool x317_95 ∧ Aside0 (laws_FnRowsKeepWater.j3 kq l1 t605 t606 t611 t619 t641 x38_3 t662 t663 t606 (t606.length : Int) x291_3 x317_95 = some r) ∧ Aside0 (kq ≤ k3) ∧ Aside0 (Kd.R k30 30 wc w.heap.size (fun k_ => some k_ ≠ (v665 : Value).ownBlock) (.slice Ao20 t605.length co20) t605) ∧ Aside0 (Kd.R (Kd.int .i64) 3 wc w.heap.size (fun k_ => some k_ ≠ (v613 : Value).ownBlock) (.slice (some ad661) t606.length co21) t606) ∧ Aside0 (Kd.R (Kd.int .i64) 3 wc w.heap.size (fun k_ => some k_ ≠ ((.slice (some ad661) t606.length co21) : Value).ownBlock ∧ some k_ ≠ ((.slice (some ad661) t606.length co21) : Value).ownBlock) v613 t611) ∧ Aside0 (Kd.V k30 30 wc w.heap.size (fun k_ => some k_ ≠ ((.slice Ao20 t605.length co20) : Value).ownBlock ∧ some k_ ≠ ((.slice (some ad661) t606.length co21) : Value).ownBlock ∧ some k_ ≠ (v613 : Value).ownBlock ∧ some k_ ≠ (v665 : Value).ownBlock ∧ some k_ ≠ ((.slice (some ad661) t606.length co21) : Value).ownBlock) (.slice Ao79 t619.length co79) t619) ∧ Aside0 (Kd.R k30 30 wc w.heap.size (fun k_ => some k_ ≠ ((.slice Ao20 t605.length co20) : Value).ownBlock) v665 t662) ∧ Aside0 (Kd.R (Kd.int .i64) 3 wc w.heap.size (fun k_ => some k_ ≠ (v613 : Value).ownBlock) (.slice (some ad661) t606.length co21) t606) ∧ Aside0 (Below w.heap.size w wc)) ?first9 ?rest9
            case first9 =>
             as_aux_lemma =>
              intro J_ K_ hJ_ hK_
              have H := HC96.out
              clear HC96
              by_cases c99 : t664 = true
              rotate_left
              ·replace c99 := Bool.eq_false_iff.mpr c99
               subst c99
               have H1 : (laws_FnRowsKeepWater.j3 k3 l1 t605 t606 t611 t619 t641 x38_3 t662 t663 t606 (t606.length : Int) x291_3 true) = some r := by rw [if_neg (show ¬ (false = true) by decide)] at H; exact H
               clear H
               have H := H1
               clear H1
               exact absurd H (by rw [hrt.out]; cases k3 <;> simp [laws_FnRowsKeepWater.j3])
              subst c99
              have H1 : (if x291_3 < (t611.length : Int) then (if t663 = (rd t611 x291_3) then ((impl_IsRow.f t662).bind fun t668 => (laws_FnRowsKeepWater.j3 k3 l1 t605 t606 t611 t619 t641 x38_3 t662 t663 t606 (t606.length : Int) x291_3 (!t668))) else (laws_FnRowsKeepWater.j3 k3 l1 t605 t606 t611 t619 t641 x38_3 t662 t663 t606 (t606.length : Int) x291_3 true)) else (none)) = some r := by rw [if_pos rfl] at H; exact H
              clear H
              have H := H1
              clear H1
              by_cases c100 : x291_3 < (t611.length : Int)
              rotate_left
              ·rw [if_neg c100] at H
               exact absurd H (by simp)
              rw [if_pos c100] at H
              have c100b0 : decide (x291_3 < (t611.length : Int)) = true := decide_eq_true c100
              clear c100
              (first | rw [c100b0] | (simp only [i64_w, i32_w]; rw [c100b0]) | skip)
              by_cases c101 : t663 = (rd t611 x291_3)
              rotate_left
              ·rw [if_neg c101] at H
               have c101b0 : (t663 == (rd t611 x291_3)) = false := beq_eq_false_iff_ne.mpr c101
               have c101b1 : (t663 != (rd t611 x291_3)) = true := bne_iff_ne.mpr c101
               exact absurd H (by rw [hrt.out]; cases k3 <;> simp [laws_FnRowsKeepWater.j3])
              rw [if_pos c101] at H
              have c101b0 : (t663 == (rd t611 x291_3)) = true := beq_iff_eq.mpr c101
              have c101b1 : (t663 != (rd t611 x291_3)) = false := bne_eq_false_iff_eq.mpr c101
              clear c101
              replace H := Option.bind_eq_some_iff.mp H
              obtain ⟨t668, A1020, H⟩ := H
              (try dsimp only at H)
              have A102 := Aside0.mk A1020
              clear A1020
              have H' := Aside0.mk H
              clear H
              obtain ⟨Ao103, co103, eo103⟩ := Kd.R_slice HO_7.out
              subst eo103
              have p667 : 0 ≤ (x291_3 : Int) := of_decide_eq_true ‹_›
              have q667 : x291_3 < (t611.length : Int) := of_decide_eq_true ‹_›
              obtain ⟨ad667, e667, hx667_0⟩ := Kd.at_int (Kd.R_reads' HO_7.out).2.2 x291_3 p667 q667
              cases e667
              replace p667 := eq_true p667
              replace q667 := eq_true q667
              obtain ⟨Ao104, co104, eo104⟩ := Kd.R_slice HO666.out
              subst eo104
              go_wp2_with (first | (go_at_call 11; (with_reducible refine (impl_IsRow.calls _ _ t662 t668 _ ?side1 ?side2 A102.out).mono ?_); (case side1 => exact cr HO666); (case side2 => exact (Kd.R_reads' HO666.out).2.1); rintro e w105 ⟨rfl, hb⟩; replace HO_5 := rb HO_5 hb; replace HO_6 := rb HO_6 hb; replace HO_7 := rb HO_7 hb; replace HO_11 := Aside0.mk (Kd.V_below HO_11.out hb); replace HO_37 := rb HO_37 hb; replace HO_289 := rb HO_289 hb; replace HO666 := rb HO666 hb; replace HB := bs HB hb; (try clear hb)))
              (refine Met.intro ?_; go_step; refine Cut_mk (by kernel_rfl) ?rel10)
              case rel10 => exact ⟨_, (!t668), (by first | rfl | (simp; done) | (simp [*]; done)), H', ⟨by first | exact Nat.le_refl _ | exact Nat.le_of_succ_le HK3.out | exact Nat.le_of_succ_le (Nat.le_trans HK3.out (Nat.le_of_succ_le HJ76.out)) | exact Nat.le_of_succ_le (Nat.le_trans (Nat.le_trans HK3.out (Nat.le_of_succ_le HJ76.out)) (Nat.le_of_succ_le HJ17.out)) | exact Nat.le_of_succ_le HJ76.out | exact Nat.le_of_succ_le (Nat.le_trans HJ76.out (Nat.le_of_succ_le HJ17.out)) | exact Nat.le_of_succ_le HJ17.out | (have := HJ17.out; have := HJ76.out; have := HK3.out; omega)⟩, ⟨by exact Kd.R_mono HO_5.out (fun _ hk => hk.2)⟩, ⟨rk HO_6⟩, ⟨rk HO_7⟩, ⟨by exact Kd.V_mono HO_11.out (fun _ hk => ⟨hk.1.1, ⟨hk.1.2.1, ⟨hk.1.2.2.1, ⟨hk.2, hk.1.2.2.2.2⟩⟩⟩⟩)⟩, ⟨by exact Kd.R_mono HO666.out (fun _ hk => hk.1.2)⟩, ⟨rk HO_289⟩, ⟨bw HB⟩⟩
            case rest9 =>
              intro u_ wc hcut l_ hl_; (simp only [rl, List.reduceReplicate, List.cons_append, List.nil_append, List.append_nil, Bool.not_true, Bool.not_false, fu, Nat.reduceAdd] at hl_); subst hl_; generalize u_ 317 = v317 at hcut ⊢
              clear HC96
              (try clear c1); (try clear c4); (try clear c72); (try clear c74); (try clear c91); (try clear c92); (try clear c92b0); (try clear c93); (try clear c93b0); (try clear c94); (try clear c94b0); (try clear hx661_0); (try clear p661); (try clear q661)
              obtain ⟨kq, x317_95, rfl, HA, HJ95, HO_5, HO_6, HO_7, HO_11, HO_41, HO_289, HB⟩ := hcut
              cases kq with
              | zero => exact absurd HA.out (by simp [laws_FnRowsKeepWater.j3])
              | succ kj95 =>
               have H := HA.out
               clear HA
               simp only [laws_FnRowsKeepWater.j3] at H
               by_cases c106 : x317_95 = true
               ·subst c106
                have H1 : (some false) = some r := by rw [if_pos rfl] at H; exact H
                clear H
                have H := H1
                clear H1
                exact absurd ((Option.some.inj H).trans hrt.out) (by decide)
               replace c106 := Bool.eq_false_iff.mpr c106
               subst c106
               have H1 : (if t663 > x38_3 then (laws_FnRowsKeepWater.l0 kj95 l1 t605 t606 t611 t619 t641 t662 t663 t606 (t606.length : Int) (wrap64 (x291_3 + 1))) else (laws_FnRowsKeepWater.l0 kj95 l1 t605 t606 t611 t619 t641 t662 x38_3 t606 (t606.length : Int) (wrap64 (x291_3 + 1)))) = some r := by rw [if_neg (show ¬ (false = true) by decide)] at H; exact H
               clear H
               have H := H1
               clear H1
               by_cases c107 : t663 > x38_3
               rotate_left
               ·rw [if_neg c107] at H
                have c107b0 : decide (x38_3 < t663) = false := decide_eq_false c107
                clear c107
                have H' := Aside0.mk H
                clear H
                go_wp2
                (refine Handed.intro kj95 ?measure11 ?_; rotate_left; go_step; refine LoopI_mk (by kernel_rfl) ?rel11)
                case measure11 => have := HJ17.out; have := HJ76.out; have := HK3.out; have := HJ95.out; omega
                case rel11 => exact ⟨(t662), (x38_3), (wrap64 (x291_3 + 1)), (by first | rfl | (simp; done) | (simp [*]; done)), (by first | rfl | (simp; done) | (simp [*]; done)), H', ⟨by have := HJ17.out; have := HJ76.out; have := HK3.out; have := HJ95.out; omega⟩, ⟨by first | exact rk HO_5 | exact rk (Aside0.mk (Kd.R_mono (ok' := fun _ => True) HO_5.out (fun _ _ => trivial)))⟩, ⟨by first | exact rk HO_6 | exact rk (Aside0.mk (Kd.R_mono (ok' := fun _ => True) HO_6.out (fun _ _ => trivial)))⟩, ⟨by first | exact rk HO_7 | exact rk (Aside0.mk (Kd.R_mono (ok' := fun _ => True) HO_7.out (fun _ _ => trivial)))⟩, ⟨by exact HO_11.out⟩, ⟨by first | exact rk HO_41 | exact rk (Aside0.mk (Kd.R_mono (ok' := fun _ => True) HO_41.out (fun _ _ => trivial)))⟩, ⟨by first | exact rk HO_289 | exact rk (Aside0.mk (Kd.R_mono (ok' := fun _ => True) HO_289.out (fun _ _ => trivial)))⟩, ⟨bw HB⟩⟩
               rw [if_pos c107] at H
               have c107b0 : decide (x38_3 < t663) = true := decide_eq_true c107
               clear c107
               have H' := Aside0.mk H
               clear H
               go_wp2
               (refine Handed.intro kj95 ?measure12 ?_; rotate_left; go_step; refine LoopI_mk (by kernel_rfl) ?rel12)
               case measure12 => have := HJ17.out; have := HJ76.out; have := HK3.out; have := HJ95.out; omega
               case rel12 => exact ⟨(t662), (t663), (wrap64 (x291_3 + 1)), (by first | rfl | (simp; done) | (simp [*]; done)), (by first | rfl | (simp; done) | (simp [*]; done)), H', ⟨by have := HJ17.out; have := HJ76.out; have := HK3.out; have := HJ95.out; omega⟩, ⟨by first | exact rk HO_5 | exact rk (Aside0.mk (Kd.R_mono (ok' := fun _ => True) HO_5.out (fun _ _ => trivial)))⟩, ⟨by first | exact rk HO_6 | exact rk (Aside0.mk (Kd.R_mono (ok' := fun _ => True) HO_6.out (fun _ _ => trivial)))⟩, ⟨by first | exact rk HO_7 | exact rk (Aside0.mk (Kd.R_mono (ok' := fun _ => True) HO_7.out (fun _ _ => trivial)))⟩, ⟨by exact HO_11.out⟩, ⟨by first | exact rk HO_41 | exact rk (Aside0.mk (Kd.R_mono (ok' := fun _ => True) HO_41.out (fun _ _ => trivial)))⟩, ⟨by first | exact rk HO_289 | exact rk (Aside0.mk (Kd.R_mono (ok' := fun _ => True) HO_289.out (fun _ _ => trivial)))⟩, ⟨bw HB⟩⟩
           rw [if_neg c92] at H
           have c92b0 : decide (x291_3 < (t606.length : Int)) = false := decide_eq_false c92
           clear c92
           have HC108 := Aside0.mk H
           clear H
           go_upto_region 35 with (fail)
           refine cutF (rl [64, 225, 3, 42, 2, 152] false) (fun u_ wc => ∃ (kq : Nat) (x332_107 : Bool), (u_ 332) = .bool x332_107 ∧ Aside0 (laws_FnRowsKeepWater.j4 kq l1 t605 t606 t619 x332_107 = some r) ∧ Aside0 (kq ≤ k3) ∧ Aside0 (Kd.R k30 30 wc w.heap.size (fun _ => True) (.slice Ao20 t605.length co20) t605) ∧ Aside0 (Kd.R (Kd.int .i64) 3 wc w.heap.size (fun _ => True) (.slice Ao21 t606.length co21) t606) ∧ Aside0 (Kd.V k30 30 wc w.heap.size (fun k_ => some k_ ≠ ((.slice Ao20 t605.length co20) : Value).ownBlock ∧ some k_ ≠ ((.slice Ao21 t606.length co21) : Value).ownBlock) (.slice Ao79 t619.length co79) t619) ∧ Aside0 (Below w.heap.size w wc)) ?first13 ?rest13
           case first13 =>
            as_aux_lemma =>
             intro J_ K_ hJ_ hK_
             have H := HC108.out
             clear HC108
             replace H := Option.bind_eq_some_iff.mp H
             obtain ⟨t669, A1090, H⟩ := H
             (try dsimp only at H)
             have A109 := Aside0.mk A1090
             clear A1090
             by_cases c110 : t669 = true
             rotate_left
             ·replace c110 := Bool.eq_false_iff.mpr c110
              subst c110
              have H1 : (laws_FnRowsKeepWater.j4 k3 l1 t605 t606 t619 true) = some r := by rw [if_neg (show ¬ (false = true) by decide)] at H; exact H
              clear H
              have H := H1
              clear H1
              exact absurd H (by rw [hrt.out]; cases k3 <;> simp [laws_FnRowsKeepWater.j4])
             subst c110
             have H1 : (laws_FnRowsKeepWater.j4 k3 l1 t605 t606 t619 (x38_3 != t641)) = some r := by rw [if_pos rfl] at H; exact H
             clear H
             have H := H1
             clear H1
             have H' := Aside0.mk H
             clear H
             obtain ⟨Ao111, co111, eo111⟩ := Kd.R_slice HO_37.out
             subst eo111
             go_wp2_with (first | ((with_reducible refine gate_callee (f := 19) rfl ?_); refine gl 326 Try.func19 #[.slice Ao111 x37_3.length co111, .slice Ao79 t619.length co79] ?_; (with_reducible refine (laws_hBasins.calls k3 _ _ x37_3 _ _ t619 true _ ?side1 ?side2 ?side3 ?side4 A109.out).mono ?_); (case side1 => exact cr HO_37); (case side2 => exact (Kd.R_reads' HO_37.out).2.1); (case side3 => repeat (first | exact (Kd.V_reads' HO_11.out).2.2 | (with_reducible refine Kd.C_alloc ?_ _) | (with_reducible refine Kd.C_drewN ?_ _) | (with_reducible refine Kd.C_drew ?_))); (case side4 => exact (Kd.V_reads' HO_11.out).2.1); rintro e w' ⟨rfl, ⟨nd, rfl⟩⟩; refine ⟨_, rfl, ?_⟩))
             (refine Met.intro ?_; go_step; refine Cut_mk (by kernel_rfl) ?rel14)
             case rel14 => exact ⟨_, ((x38_3 != t641)), (by first | rfl | (simp; done) | (simp [*]; done)), H', ⟨by first | exact Nat.le_refl _ | exact Nat.le_of_succ_le HK3.out | exact Nat.le_of_succ_le (Nat.le_trans HK3.out (Nat.le_of_succ_le HJ76.out)) | exact Nat.le_of_succ_le (Nat.le_trans (Nat.le_trans HK3.out (Nat.le_of_succ_le HJ76.out)) (Nat.le_of_succ_le HJ17.out)) | exact Nat.le_of_succ_le HJ76.out | exact Nat.le_of_succ_le (Nat.le_trans HJ76.out (Nat.le_of_succ_le HJ17.out)) | exact Nat.le_of_succ_le HJ17.out | (have := HJ17.out; have := HJ76.out; have := HK3.out; omega)⟩, ⟨rk HO_5⟩, ⟨by exact Kd.R_mono HO_6.out (fun _ hk => trivial)⟩, ⟨by exact Kd.V_mono HO_11.out (fun _ hk => ⟨hk.1, hk.2.1⟩)⟩, ⟨bw HB⟩⟩
           case rest13 =>
             intro u_ wc hcut l_ hl_; (simp only [rl, List.reduceReplicate, List.cons_append, List.nil_append, List.append_nil, Bool.not_true, Bool.not_false, fu, Nat.reduceAdd] at hl_); subst hl_; generalize u_ 332 = v332 at hcut ⊢
             clear HC108
             (try clear c1); (try clear c4); (try clear c72); (try clear c74); (try clear c91); (try clear c92); (try clear c92b0)
             obtain ⟨kq, x332_107, rfl, HA, HJ107, HO_5, HO_6, HO_11, HB⟩ := hcut
             cases kq with
             | zero => exact absurd HA.out (by simp [laws_FnRowsKeepWater.j4])
             | succ kj107 =>
              have H := HA.out
              clear HA
              simp only [laws_FnRowsKeepWater.j4] at H
              by_cases c112 : x332_107 = true
              ·subst c112
               have H1 : (some false) = some r := by rw [if_pos rfl] at H; exact H
               clear H
               have H := H1
               clear H1
               exact absurd ((Option.some.inj H).trans hrt.out) (by decide)
              replace c112 := Bool.eq_false_iff.mpr c112
              subst c112
              have H1 : (laws_FnRowsKeepWater.l1 kj107 l1 t605 t606 t619 (t605.length : Int) 0) = some r := by rw [if_neg (show ¬ (false = true) by decide)] at H; exact H
              clear H
              have H := H1
              clear H1
              have H' := Aside0.mk H
              clear H
              go_wp2
              try simp only [Act.put, List.setIfInBounds_toArray, List.set_cons_zero, List.set_cons_succ]
              refine loopF (rl [4, 1, 39, 3, 288, 39, 114] false) kj107 (fun kq u_ w' => ∃ (x335_5 : Int), (u_ 335) = .int .i64 x335_5 ∧ Aside0 (laws_FnRowsKeepWater.l1 kq l1 t605 t606 t619 (t605.length : Int) x335_5 = some r) ∧ Aside0 (kq ≤ kj107) ∧ Aside0 (Kd.R k30 30 w' w.heap.size (fun _ => True) (.slice Ao20 t605.length co20) t605) ∧ Aside0 (Kd.R (Kd.int .i64) 3 w' w.heap.size (fun _ => True) (.slice Ao21 t606.length co21) t606) ∧ Aside0 (Kd.V k30 30 w' w.heap.size (fun k_ => some k_ ≠ ((.slice Ao20 t605.length co20) : Value).ownBlock ∧ some k_ ≠ ((.slice Ao21 t606.length co21) : Value).ownBlock) (.slice Ao79 t619.length co79) t619) ∧ Aside0 (Below w.heap.size w w')) ?atStart15 ?round15
              case atStart15 => exact ⟨(0), (by first | rfl | (simp; done) | (simp [*]; done)), H', ⟨Nat.le_refl _⟩, ⟨rk HO_5⟩, ⟨rk HO_6⟩, ⟨by exact HO_11.out⟩, ⟨bw HB⟩⟩
              case round15 =>
               intro gk u_ wr hrel l_ hl_; (simp only [rl, List.reduceReplicate, List.cons_append, List.nil_append, List.append_nil, Bool.not_true, Bool.not_false, fu, Nat.reduceAdd] at hl_); subst hl_; generalize u_ 335 = v335 at hrel ⊢
               intro J_ K_ hJ_ hK_
               clear H'
               (try clear c1); (try clear c4); (try clear c72); (try clear c74); (try clear c91); (try clear c92); (try clear c92b0); (try clear c112)
               obtain ⟨x335_5, rfl, HA, HK5, HO_5, HO_6, HO_11, HB⟩ := hrel
               cases gk with
               | zero => exact absurd HA.out (by simp [laws_FnRowsKeepWater.l1])
               | succ k5 =>
                have H := HA.out
                clear HA
                simp only [laws_FnRowsKeepWater.l1] at H
                by_cases c113 : x335_5 < (t605.length : Int)
                rotate_left
                ·rw [if_neg c113] at H
                 have c113b0 : decide (x335_5 < (t605.length : Int)) = false := decide_eq_false c113
                 clear c113
                 have H' := Aside0.mk H
                 clear H
                 go_wp2
                 (refine Met.intro ?_; go_step; refine Cut_mk (by kernel_rfl) ?rel16)
                 case rel16 => exact ⟨_, H', ⟨by first | exact Nat.le_refl _ | exact Nat.le_of_succ_le HK5.out | exact Nat.le_of_succ_le (Nat.le_trans HK5.out (Nat.le_of_succ_le HJ107.out)) | exact Nat.le_of_succ_le (Nat.le_trans (Nat.le_trans HK5.out (Nat.le_of_succ_le HJ107.out)) (Nat.le_of_succ_le HK3.out)) | exact Nat.le_of_succ_le (Nat.le_trans (Nat.le_trans (Nat.le_trans HK5.out (Nat.le_of_succ_le HJ107.out)) (Nat.le_of_succ_le HK3.out)) (Nat.le_of_succ_le HJ76.out)) | exact Nat.le_of_succ_le (Nat.le_trans (Nat.le_trans (Nat.le_trans (Nat.le_trans HK5.out (Nat.le_of_succ_le HJ107.out)) (Nat.le_of_succ_le HK3.out)) (Nat.le_of_succ_le HJ76.out)) (Nat.le_of_succ_le HJ17.out)) | exact Nat.le_of_succ_le HJ107.out | exact Nat.le_of_succ_le (Nat.le_trans HJ107.out (Nat.le_of_succ_le HK3.out)) | (have := HJ17.out; have := HJ76.out; have := HK3.out; have := HJ107.out; have := HK5.out; omega)⟩, ⟨rk HO_6⟩, ⟨bw HB⟩⟩
                rw [if_pos c113] at H
                have c113b0 : decide (x335_5 < (t605.length : Int)) = true := decide_eq_true c113
                clear c113
                replace H := Option.bind_eq_some_iff.mp H
                obtain ⟨⟨t670, t671⟩, A1140, H⟩ := H
                (try dsimp only at H)
                have A114 := Aside0.mk A1140
                clear A1140
                by_cases c115 : t671 = true
                rotate_left
                ·replace c115 := Bool.eq_false_iff.mpr c115
                 subst c115
                 have H1 : (some false) = some r := by rw [if_neg (show ¬ (false = true) by decide)] at H; exact H
                 clear H
                 have H := H1
                 clear H1
                 exact absurd ((Option.some.inj H).trans hrt.out) (by decide)
                subst c115
                have H1 : (if (t670.length : Int) = (t606.length : Int) then (if (t670.length : Int) > 0 then (if 0 ≤ (wrap64 ((t670.length : Int) - 1)) then (if (wrap64 ((t670.length : Int) - 1)) < (t670.length : Int) then (if 0 ≤ x335_5 then (if x335_5 < (t619.length : Int) then (if (rd t670 (wrap64 ((t670.length : Int) - 1))) = ((rd_T30 t619 x335_5).f2) then (laws_FnRowsKeepWater.l1 k5 l1 t605 t606 t619 (t605.length : Int) (wrap64 (x335_5 + 1))) else (some false)) else (none)) else (none)) else (none)) else (none)) else (laws_FnRowsKeepWater.l1 k5 l1 t605 t606 t619 (t605.length : Int) (wrap64 (x335_5 + 1)))) else (some false)) = some r := by rw [if_pos rfl] at H; exact H
                clear H
                have H := H1
                clear H1
                by_cases c116 : (t670.length : Int) = (t606.length : Int)
                rotate_left
                ·rw [if_neg c116] at H
                 have c116b0 : ((t670.length : Int) == (t606.length : Int)) = false := beq_eq_false_iff_ne.mpr c116
                 have c116b1 : ((t670.length : Int) != (t606.length : Int)) = true := bne_iff_ne.mpr c116
                 have c116b2 : (t670.length == t606.length) = false := by first | simpa using c116 | (simp at c116 ⊢; omega)
                 exact absurd ((Option.some.inj H).trans hrt.out) (by decide)
                rw [if_pos c116] at H
                have c116b0 : ((t670.length : Int) == (t606.length : Int)) = true := beq_iff_eq.mpr c116
                have c116b1 : ((t670.length : Int) != (t606.length : Int)) = false := bne_eq_false_iff_eq.mpr c116
                have c116b2 : (t670.length == t606.length) = true := by first | simpa using c116 | (simp at c116 ⊢; omega)
                clear c116
                by_cases c117 : (t670.length : Int) > 0
                rotate_left
                ·rw [if_neg c117] at H
                 have c117b0 : decide (0 < (t670.length : Int)) = false := decide_eq_false c117
                 have c117b1 : decide (0 < t670.length) = false := decide_eq_false (by omega)
                 clear c117
                 have H' := Aside0.mk H
                 clear H
                 try go_wp2_with (first | ((with_reducible refine gate_callee (f := 23) rfl ?_); refine gl 342 Try.func23 #[.slice Ao20 t605.length co20, .int .i64 x335_5, .slice Ao21 t606.length co21] ?_; (with_reducible refine (impl_HeldAlong.calls k5 _ _ t605 x335_5 _ _ t606 t670 true _ ?side1 ?side2 ?side3 ?side4 A114.out).mono ?_); (case side1 => exact cr HO_5); (case side2 => exact (Kd.R_reads' HO_5.out).2.1); (case side3 => exact cr HO_6); (case side4 => exact (Kd.R_reads' HO_6.out).2.1); rintro e w127 ⟨v672, rfl, ho0, hb⟩; refine ⟨_, rfl, ?_⟩; replace HO_5 := rb HO_5 hb; replace HO_11 := Aside0.mk (Kd.V_elder' HO_11.out (Kd.R_base ho0) hb); have HO673 := Aside0.mk (Kd.R_lower (Kd.R_new' ho0 (Kd.R_lt (rk HO_6))) (below_size (bw HB))); replace HO_6 := Aside0.mk (Kd.R_elder' (rk HO_6) (Kd.R_base ho0) hb); replace HB := bs HB hb; (try clear hb); (try clear ho0)))
                 replace HO_5 := Aside0.mk (Kd.R_drew HO_5.out)
                 replace HO_6 := Aside0.mk (Kd.R_drew HO_6.out)
                 replace HO_11 := Aside0.mk (Kd.V_drew HO_11.out)
                 replace HO673 := Aside0.mk (Kd.R_drew HO673.out)
                 replace HB := Aside0.mk (below_drew1 HB.out)
                 obtain ⟨Ao129, co129, eo129⟩ := Kd.R_slice HO673.out
                 (first | subst eo129 | (injection eo129 with f1_ f2_ f3_; have f4_ := f1_.symm; have f5_ := f3_.symm; clear f1_ f2_ f3_; subst f4_; subst f5_))
                 refine start_ (n := 28) (S := fun w' => True) (ds := []) (bl 28 0) (by kernel_rfl) rfl rfl trivial (fun hHeld => ?_); refine with_tabW laws_FnRowsKeepWater.tab41 laws_FnRowsKeepWater.bits41 (fun HT_ HW_ => ?_)
                 generalize w127.drew = w128 at HO_5 HO_6 HO_11 HO673 HB hHeld ⊢
                 refine pu 0 345 (bl 28 1) HT_.out (v := ?_) (a' := ?_) ?_ ?_ ?_
                 rotate_left; (intro w'; go_simp; with_reducible rfl); rotate_left; (simp only [sqa, sqb, sqc, sqd, i64_w, i32_w]; rfl)
                 refine pu 1 346 (bl 28 3) HT_.out (v := ?_) (a' := ?_) ?_ ?_ ?_
                 rotate_left; (intro w'; go_simp; with_reducible rfl); rotate_left; (simp only [sqa, sqb, sqc, sqd, i64_w, i32_w]; rfl)
                 refine pu 2 347 (bl 28 7) HT_.out (v := ?_) (a' := ?_) ?_ ?_ ?_
                 rotate_left; (intro w'; go_simp; with_reducible rfl); rotate_left; (simp only [sqa, sqb, sqc, sqd, i64_w, i32_w]; rfl)
                 refine pu 3 348 (bl 28 15) HT_.out (v := ?_) (a' := ?_) ?_ ?_ ?_
                 rotate_left; (intro w'; go_simp; with_reducible rfl); rotate_left; (simp only [sqa, sqb, sqc, sqd, i64_w, i32_w]; rfl)
                 refine pu 4 349 (bl 28 31) HT_.out (v := ?_) (a' := ?_) ?_ ?_ ?_
                 rotate_left; (intro w'; go_simp; with_reducible rfl); rotate_left; (simp only [sqa, sqb, sqc, sqd, i64_w, i32_w]; rfl)
                 refine pu 5 350 (bl 28 63) HT_.out (v := ?_) (a' := ?_) ?_ ?_ ?_
                 rotate_left; (intro w'; go_simp; with_reducible rfl); rotate_left; (simp only [sqa, sqb, sqc, sqd, i64_w, i32_w]; rfl)
                 refine pu 6 351 (bl 28 127) HT_.out (v := ?_) (a' := ?_) ?_ ?_ ?_
                 rotate_left; (intro w'; go_simp; with_reducible rfl); rotate_left; (simp only [sqa, sqb, sqc, sqd, i64_w, i32_w]; rfl)
                 refine pu 7 352 (bl 28 255) HT_.out (v := ?_) (a' := ?_) ?_ ?_ ?_
                 rotate_left; (intro w'; go_simp; with_reducible rfl); rotate_left; (simp only [sqa, sqb, sqc, sqd, i64_w, i32_w]; rfl)
                 refine pu 8 353 (bl 28 511) HT_.out (v := ?_) (a' := ?_) ?_ ?_ ?_
                 rotate_left; (intro w'; go_simp; with_reducible rfl); rotate_left; (simp only [sqa, sqb, sqc, sqd, i64_w, i32_w]; rfl)
                 refine pu 9 354 (bl 28 1023) HT_.out (v := ?_) (a' := ?_) ?_ ?_ ?_
                 rotate_left; (intro w'; go_simp; with_reducible rfl); rotate_left; (simp only [sqa, sqb, sqc, sqd, i64_w, i32_w]; rfl)
                 refine pu 10 355 (bl 28 2047) HT_.out (v := ?_) (a' := ?_) ?_ ?_ ?_
                 rotate_left; (intro w'; go_simp; with_reducible rfl); rotate_left; (simp only [sqa, sqb, sqc, sqd, i64_w, i32_w]; rfl)
                 refine pu 11 356 (bl 28 4095) HT_.out (v := ?_) (a' := ?_) ?_ ?_ ?_
                 rotate_left; (intro w'; go_simp; with_reducible rfl); rotate_left; (simp only [sqa, sqb, sqc, sqd, i64_w, i32_w]; rfl)
                 refine pu 12 357 (bl 28 8191) HT_.out (v := ?_) (a' := ?_) ?_ ?_ ?_
                 rotate_left; (intro w'; go_simp; with_reducible rfl); rotate_left; (simp only [sqa, sqb, sqc, sqd, i64_w, i32_w]; rfl)
                 refine pu 13 358 (bl 28 16383) HT_.out (v := ?_) (a' := ?_) ?_ ?_ ?_
                 rotate_left; (intro w'; go_simp; with_reducible rfl); rotate_left; (simp only [sqa, sqb, sqc, sqd, i64_w, i32_w]; rfl)
                 refine pure_ (i := 14) (N := some 359) (v := undef) (a' := ?_) (bl 28 32767) rfl rfl (any_of HT_.out (by kernel_rfl)) (fun _ _ _ h => h) (Or.inr ⟨by rfl, rfl⟩) ?_ ?_
                 rotate_left
                 ·simp only [sqa, sqb, sqc, sqd, i64_w, i32_w]
                  rfl
                 refine pure_ (i := 15) (N := some 360) (v := undef) (a' := ?_) (bl 28 65535) rfl rfl (any_of HT_.out (by kernel_rfl)) (fun _ _ _ h => h) (Or.inr ⟨by rfl, rfl⟩) ?_ ?_
                 rotate_left
                 ·simp only [sqa, sqb, sqc, sqd, i64_w, i32_w]
                  rfl
                 refine pure_ (i := 16) (N := some 361) (v := undef) (a' := ?_) (bl 28 131071) rfl rfl (any_of HT_.out (by kernel_rfl)) (fun _ _ _ h => h) (Or.inr ⟨by rfl, rfl⟩) ?_ ?_
                 rotate_left
                 ·simp only [sqa, sqb, sqc, sqd, i64_w, i32_w]
                  rfl
                 refine pure_ (i := 17) (N := some 362) (v := undef) (a' := ?_) (bl 28 262143) rfl rfl (any_of HT_.out (by kernel_rfl)) (fun _ _ _ h => h) (Or.inr ⟨by rfl, rfl⟩) ?_ ?_
                 rotate_left
                 ·simp only [sqa, sqb, sqc, sqd, i64_w, i32_w]
                  rfl
                 refine pure_ (i := 18) (N := some 363) (v := undef) (a' := ?_) (bl 28 524287) rfl rfl (any_of HT_.out (by kernel_rfl)) (fun _ _ _ h => h) (Or.inr ⟨by rfl, rfl⟩) ?_ ?_
                 rotate_left
                 ·simp only [sqa, sqb, sqc, sqd, i64_w, i32_w]
                  rfl
                 refine pure_ (i := 19) (N := some 364) (v := undef) (a' := ?_) (bl 28 1048575) rfl rfl (any_of HT_.out (by kernel_rfl)) (fun _ _ _ h => h) (Or.inr ⟨by rfl, rfl⟩) ?_ ?_
                 rotate_left
                 ·simp only [sqa, sqb, sqc, sqd, i64_w, i32_w]
                  rfl
                 refine pure_ (i := 20) (N := some 365) (v := undef) (a' := ?_) (bl 28 2097151) rfl rfl (any_of HT_.out (by kernel_rfl)) (fun _ _ _ h => h) (Or.inr ⟨by rfl, rfl⟩) ?_ ?_
                 rotate_left
                 ·simp only [sqa, sqb, sqc, sqd, i64_w, i32_w]
                  rfl
                 refine pure_ (i := 21) (N := some 366) (v := undef) (a' := ?_) (bl 28 4194303) rfl rfl (any_of HT_.out (by kernel_rfl)) (fun _ _ _ h => h) (Or.inr ⟨by rfl, rfl⟩) ?_ ?_
                 rotate_left
                 ·simp only [sqa, sqb, sqc, sqd, i64_w, i32_w]
                  rfl
                 refine pure_ (i := 22) (N := some 367) (v := undef) (a' := ?_) (bl 28 8388607) rfl rfl (any_of HT_.out (by kernel_rfl)) (fun _ _ _ h => h) (Or.inr ⟨by rfl, rfl⟩) ?_ ?_
                 rotate_left
                 ·simp only [sqa, sqb, sqc, sqd, i64_w, i32_w]
                  rfl
                 refine pure_ (i := 23) (N := some 368) (v := undef) (a' := ?_) (bl 28 16777215) rfl rfl (any_of HT_.out (by kernel_rfl)) (fun _ _ _ h => h) (Or.inr ⟨by rfl, rfl⟩) ?_ ?_
                 rotate_left
                 ·simp only [sqa, sqb, sqc, sqd, i64_w, i32_w]
                  rfl
                 refine pure_ (i := 24) (N := some 369) (v := undef) (a' := ?_) (bl 28 33554431) rfl rfl (any_of HT_.out (by kernel_rfl)) (fun _ _ _ h => h) (Or.inr ⟨by rfl, rfl⟩) ?_ ?_
                 rotate_left
                 ·simp only [sqa, sqb, sqc, sqd, i64_w, i32_w]
                  rfl
                 refine pure_ (i := 25) (N := some 370) (v := undef) (a' := ?_) (bl 28 67108863) rfl rfl (any_of HT_.out (by kernel_rfl)) (fun _ _ _ h => h) (Or.inr ⟨by rfl, rfl⟩) ?_ ?_
                 rotate_left
                 ·simp only [sqa, sqb, sqc, sqd, i64_w, i32_w]
                  rfl
                 refine pu 26 371 (bl 28 134217727) HT_.out (v := ?_) (a' := ?_) ?_ ?_ ?_
                 rotate_left; (intro w'; go_simp; with_reducible rfl); rotate_left; (simp only [sqa, sqb, sqc, sqd, i64_w, i32_w]; rfl)
                 refine pu 27 372 (bl 28 268435455) HT_.out (v := ?_) (a' := ?_) ?_ ?_ ?_
                 rotate_left; (intro w'; go_simp; with_reducible rfl); rotate_left; (simp only [sqa, sqb, sqc, sqd, i64_w, i32_w]; rfl)
                 refine done_ (done_of HT_.out (by kernel_rfl)) ?_
                 try go_wp2
                 (refine Handed.intro k5 ?measure17 ?_; rotate_left; go_step; refine LoopI_mk (by kernel_rfl) ?rel17)
                 case measure17 => have := HJ17.out; have := HJ76.out; have := HK3.out; have := HJ107.out; have := HK5.out; omega
                 case rel17 => exact ⟨(wrap64 (x335_5 + 1)), (by first | rfl | (simp; done) | (simp [*]; done)), H', ⟨by have := HJ17.out; have := HJ76.out; have := HK3.out; have := HJ107.out; have := HK5.out; omega⟩, ⟨rk HO_5⟩, ⟨by exact Kd.R_mono HO_6.out (fun _ hk => trivial)⟩, ⟨by exact Kd.V_mono HO_11.out (fun _ hk => ⟨hk.1.1, hk.1.2⟩)⟩, ⟨bw HB⟩⟩
                rw [if_pos c117] at H
                have c117b0 : decide (0 < (t670.length : Int)) = true := decide_eq_true c117
                have c117b1 : decide (0 < t670.length) = true := decide_eq_true (by omega)
                clear c117
                obtain ⟨ji118, hji118⟩ : ∃ j_ : Int, (wrap64 ((t670.length : Int) - 1)) = j_ := ⟨_, rfl⟩
                replace H : (if 0 ≤ (ji118) then (if (ji118) < (t670.length : Int) then (if 0 ≤ x335_5 then (if x335_5 < (t619.length : Int) then (if (rd t670 (ji118)) = ((rd_T30 t619 x335_5).f2) then (laws_FnRowsKeepWater.l1 k5 l1 t605 t606 t619 (t605.length : Int) (wrap64 (x335_5 + 1))) else (some false)) else (none)) else (none)) else (none)) else (none)) = some r := by first | (rw [hji118] at H; exact H) | (simp only [hji118] at H ⊢; exact H)
                (try rw [hji118] at A114)
                have hji118w : (IntKind.i64.wrap ((t670.length : Int) - 1)) = ji118 := (i64_w _).trans hji118
                by_cases c119 : 0 ≤ (ji118)
                rotate_left
                ·rw [if_neg c119] at H
                 exact absurd H (by simp)
                rw [if_pos c119] at H
                have c119b0 : decide (0 ≤ (ji118)) = true := decide_eq_true c119
                clear c119
                by_cases c120 : (ji118) < (t670.length : Int)
                rotate_left
                ·rw [if_neg c120] at H
                 exact absurd H (by simp)
                rw [if_pos c120] at H
                have c120b0 : decide ((ji118) < (t670.length : Int)) = true := decide_eq_true c120
                clear c120
                by_cases c121 : 0 ≤ x335_5
                rotate_left
                ·rw [if_neg c121] at H
                 exact absurd H (by simp)
                rw [if_pos c121] at H
                have c121b0 : decide (0 ≤ x335_5) = true := decide_eq_true c121
                clear c121
                by_cases c122 : x335_5 < (t619.length : Int)
                rotate_left
                ·rw [if_neg c122] at H
                 exact absurd H (by simp)
                rw [if_pos c122] at H
                have c122b0 : decide (x335_5 < (t619.length : Int)) = true := decide_eq_true c122
                clear c122
                by_cases c123 : (rd t670 (ji118)) = ((rd_T30 t619 x335_5).f2)
                rotate_left
                ·rw [if_neg c123] at H
                 have c123b0 : ((rd t670 (ji118)) == ((rd_T30 t619 x335_5).f2)) = false := beq_eq_false_iff_ne.mpr c123
                 have c123b1 : ((rd t670 (ji118)) != ((rd_T30 t619 x335_5).f2)) = true := bne_iff_ne.mpr c123
                 exact absurd ((Option.some.inj H).trans hrt.out) (by decide)
                rw [if_pos c123] at H
                have c123b0 : ((rd t670 (ji118)) == ((rd_T30 t619 x335_5).f2)) = true := beq_iff_eq.mpr c123
                have c123b1 : ((rd t670 (ji118)) != ((rd_T30 t619 x335_5).f2)) = false := bne_eq_false_iff_eq.mpr c123
                clear c123
                have H' := Aside0.mk H
                clear H
                try go_wp2_with (first | ((with_reducible refine gate_callee (f := 23) rfl ?_); refine gl 342 Try.func23 #[.slice Ao20 t605.length co20, .int .i64 x335_5, .slice Ao21 t606.length co21] ?_; (with_reducible refine (impl_HeldAlong.calls k5 _ _ t605 x335_5 _ _ t606 t670 true _ ?side1 ?side2 ?side3 ?side4 A114.out).mono ?_); (case side1 => exact cr HO_5); (case side2 => exact (Kd.R_reads' HO_5.out).2.1); (case side3 => exact cr HO_6); (case side4 => exact (Kd.R_reads' HO_6.out).2.1); rintro e w124 ⟨v672, rfl, ho0, hb⟩; refine ⟨_, rfl, ?_⟩; replace HO_5 := rb HO_5 hb; replace HO_11 := Aside0.mk (Kd.V_elder' HO_11.out (Kd.R_base ho0) hb); have HO673 := Aside0.mk (Kd.R_lower (Kd.R_new' ho0 (Kd.R_lt (rk HO_6))) (below_size (bw HB))); replace HO_6 := Aside0.mk (Kd.R_elder' (rk HO_6) (Kd.R_base ho0) hb); replace HB := bs HB hb; (try clear hb); (try clear ho0)))
                replace HO_5 := Aside0.mk (Kd.R_drew HO_5.out)
                replace HO_6 := Aside0.mk (Kd.R_drew HO_6.out)
                replace HO_11 := Aside0.mk (Kd.V_drew HO_11.out)
                replace HO673 := Aside0.mk (Kd.R_drew HO673.out)
                replace HB := Aside0.mk (below_drew1 HB.out)
                obtain ⟨Ao126, co126, eo126⟩ := Kd.R_slice HO673.out
                (first | subst eo126 | (injection eo126 with f1_ f2_ f3_; have f4_ := f1_.symm; have f5_ := f3_.symm; clear f1_ f2_ f3_; subst f4_; subst f5_))
                have p674 : 0 ≤ ((ji118) : Int) := of_decide_eq_true ‹_›
                have q674 : (ji118) < (t670.length : Int) := of_decide_eq_true ‹_›
                obtain ⟨ad674, e674, hx674_0⟩ := Kd.at_int (Kd.R_reads' HO673.out).2.2 (ji118) p674 q674
                cases e674
                replace p674 := eq_true p674
                replace q674 := eq_true q674
                have p675 : 0 ≤ (x335_5 : Int) := of_decide_eq_true ‹_›
                have q675 : x335_5 < (t619.length : Int) := of_decide_eq_true ‹_›
                obtain ⟨ad675, e675, hx675_0, hx675_1, hx675_2⟩ := at_T30 (Kd.V_reads' HO_11.out).2.2 x335_5 p675 q675
                cases e675
                replace p675 := eq_true p675
                replace q675 := eq_true q675
                refine start_ (n := 28) (S := fun w' => w'.cell? (ad674.add ((ji118)).toNat) = some (.int .i64 (rd t670 (ji118))) ∧ w'.cell? (ad675.add ((x335_5).toNat * 3)) = some (.int .i64 ((rd_T30 t619 x335_5).f0)) ∧ w'.cell? ⟨(ad675.add ((x335_5).toNat * 3)).block, (ad675.add ((x335_5).toNat * 3)).off + 1, none⟩ = some (.int .i64 ((rd_T30 t619 x335_5).f1)) ∧ w'.cell? ⟨(ad675.add ((x335_5).toNat * 3)).block, (ad675.add ((x335_5).toNat * 3)).off + 2, none⟩ = some (.int .i64 ((rd_T30 t619 x335_5).f2))) (ds := []) (bl 28 0) (by kernel_rfl) rfl rfl ⟨hx674_0, hx675_0, hx675_1, hx675_2⟩ (fun hHeld => ?_); refine with_tabW laws_FnRowsKeepWater.tab41 laws_FnRowsKeepWater.bits41 (fun HT_ HW_ => ?_)
                generalize w124.drew = w125 at HO_5 HO_6 HO_11 HO673 HB hx674_0 hx675_0 hx675_1 hx675_2 hHeld ⊢
                refine pu 0 345 (bl 28 1) HT_.out (v := ?_) (a' := ?_) ?_ ?_ ?_
                rotate_left; (intro w'; go_simp; with_reducible rfl); rotate_left; (simp only [sqa, sqb, sqc, sqd, i64_w, i32_w]; rfl)
                refine pu 1 346 (bl 28 3) HT_.out (v := ?_) (a' := ?_) ?_ ?_ ?_
                rotate_left; (intro w'; go_simp; with_reducible rfl); rotate_left; (simp only [sqa, sqb, sqc, sqd, i64_w, i32_w]; rfl)
                refine pu 2 347 (bl 28 7) HT_.out (v := ?_) (a' := ?_) ?_ ?_ ?_
                rotate_left; (intro w'; go_simp; with_reducible rfl); rotate_left; (simp only [sqa, sqb, sqc, sqd, i64_w, i32_w]; rfl)
                refine pu 3 348 (bl 28 15) HT_.out (v := ?_) (a' := ?_) ?_ ?_ ?_
                rotate_left; (intro w'; go_simp; with_reducible rfl); rotate_left; (simp only [sqa, sqb, sqc, sqd, i64_w, i32_w]; rfl)
                refine pu 4 349 (bl 28 31) HT_.out (v := ?_) (a' := ?_) ?_ ?_ ?_
                rotate_left; (intro w'; go_simp; with_reducible rfl); rotate_left; (simp only [sqa, sqb, sqc, sqd, i64_w, i32_w]; rfl)
                refine pu 5 350 (bl 28 63) HT_.out (v := ?_) (a' := ?_) ?_ ?_ ?_
                rotate_left; (intro w'; go_simp; with_reducible rfl); rotate_left; (simp only [sqa, sqb, sqc, sqd, i64_w, i32_w]; rfl)
                refine pu 6 351 (bl 28 127) HT_.out (v := ?_) (a' := ?_) ?_ ?_ ?_
                rotate_left; (intro w'; go_simp; with_reducible rfl); rotate_left; (simp only [sqa, sqb, sqc, sqd, i64_w, i32_w]; rfl)
                refine pu 7 352 (bl 28 255) HT_.out (v := ?_) (a' := ?_) ?_ ?_ ?_
                rotate_left; (intro w'; go_simp; with_reducible rfl); rotate_left; (simp only [sqa, sqb, sqc, sqd, i64_w, i32_w]; rfl)
                refine pu 8 353 (bl 28 511) HT_.out (v := ?_) (a' := ?_) ?_ ?_ ?_
                rotate_left; (intro w'; go_simp; with_reducible rfl); rotate_left; (simp only [sqa, sqb, sqc, sqd, i64_w, i32_w]; rfl)
                refine pu 9 354 (bl 28 1023) HT_.out (v := ?_) (a' := ?_) ?_ ?_ ?_
                rotate_left; (intro w'; go_simp; with_reducible rfl); rotate_left; (simp only [sqa, sqb, sqc, sqd, i64_w, i32_w]; rfl)
                refine pu 10 355 (bl 28 2047) HT_.out (v := ?_) (a' := ?_) ?_ ?_ ?_
                rotate_left; (intro w'; go_simp; with_reducible rfl); rotate_left; (simp only [sqa, sqb, sqc, sqd, i64_w, i32_w]; rfl)
                refine pu 11 356 (bl 28 4095) HT_.out (v := ?_) (a' := ?_) ?_ ?_ ?_
                rotate_left; (intro w'; go_simp; with_reducible rfl); rotate_left; (simp only [sqa, sqb, sqc, sqd, i64_w, i32_w]; rfl)
                refine pu 12 357 (bl 28 8191) HT_.out (v := ?_) (a' := ?_) ?_ ?_ ?_
                rotate_left; (intro w'; go_simp; with_reducible rfl); rotate_left; (simp only [sqa, sqb, sqc, sqd, i64_w, i32_w]; rfl)
                refine pu 13 358 (bl 28 16383) HT_.out (v := ?_) (a' := ?_) ?_ ?_ ?_
                rotate_left; (intro w'; go_simp; with_reducible rfl); rotate_left; (simp only [sqa, sqb, sqc, sqd, i64_w, i32_w]; rfl)
                refine pu 14 359 (bl 28 32767) HT_.out (v := ?_) (a' := ?_) ?_ ?_ ?_
                rotate_left; (intro w'; go_simp; with_reducible rfl); rotate_left; (simp only [sqa, sqb, sqc, sqd, i64_w, i32_w]; rfl)
                refine pu 15 360 (bl 28 65535) HT_.out (v := ?_) (a' := ?_) ?_ ?_ ?_
                rotate_left; (intro w'; go_simp; with_reducible rfl); rotate_left; (simp only [sqa, sqb, sqc, sqd, i64_w, i32_w]; rfl)
                refine pu 16 361 (bl 28 131071) HT_.out (v := ?_) (a' := ?_) ?_ ?_ ?_
                rotate_left; (intro w'; go_simp; with_reducible rfl); rotate_left; (simp only [sqa, sqb, sqc, sqd, i64_w, i32_w]; rfl)
                refine pu 17 362 (bl 28 262143) HT_.out (v := ?_) (a' := ?_) ?_ ?_ ?_
                rotate_left; (intro w'; go_simp; with_reducible rfl); rotate_left; (simp only [sqa, sqb, sqc, sqd, i64_w, i32_w]; rfl)
                refine pu 18 363 (bl 28 524287) HT_.out (v := ?_) (a' := ?_) ?_ ?_ ?_
                rotate_left; (intro w'; go_simp; with_reducible rfl); rotate_left; (simp only [sqa, sqb, sqc, sqd, i64_w, i32_w]; rfl)
                refine pu 20 365 (bl 28 1572863) HT_.out (v := ?_) (a' := ?_) ?_ ?_ ?_
                rotate_left; (intro w'; go_simp; with_reducible rfl); rotate_left; (simp only [sqa, sqb, sqc, sqd, i64_w, i32_w]; rfl)
                refine pu 21 366 (bl 28 3670015) HT_.out (v := ?_) (a' := ?_) ?_ ?_ ?_
                rotate_left; (intro w'; go_simp; with_reducible rfl); rotate_left; (simp only [sqa, sqb, sqc, sqd, i64_w, i32_w]; rfl)
                refine pu 22 367 (bl 28 7864319) HT_.out (v := ?_) (a' := ?_) ?_ ?_ ?_
                rotate_left; (intro w'; go_simp; with_reducible rfl); rotate_left; (simp only [sqa, sqb, sqc, sqd, i64_w, i32_w]; rfl)
                refine pu 23 368 (bl 28 16252927) HT_.out (v := ?_) (a' := ?_) ?_ ?_ ?_
                rotate_left; (intro w'; go_simp; with_reducible rfl); rotate_left; (simp only [sqa, sqb, sqc, sqd, i64_w, i32_w]; rfl)
                refine tk 19 364 (bl 28 16777215) HT_.out HW_.out hHeld (v := ?_) (a' := ?_) ?_ ?_ ?_
                rotate_left; (rintro w' ⟨s0, s1, s2, s3⟩; go_simp; with_reducible rfl); rotate_left; (simp only [sqa, sqb, sqc, sqd, i64_w, i32_w]; rfl)
                refine tk 24 369 (bl 28 33554431) HT_.out HW_.out hHeld (v := ?_) (a' := ?_) ?_ ?_ ?_
                rotate_left; (rintro w' ⟨s0, s1, s2, s3⟩; go_simp; with_reducible rfl); rotate_left; (simp only [sqa, sqb, sqc, sqd, i64_w, i32_w]; rfl)
                refine pu 25 370 (bl 28 67108863) HT_.out (v := ?_) (a' := ?_) ?_ ?_ ?_
                rotate_left; (intro w'; go_simp; with_reducible rfl); rotate_left; (simp only [sqa, sqb, sqc, sqd, i64_w, i32_w]; rfl)
                refine pu 26 371 (bl 28 134217727) HT_.out (v := ?_) (a' := ?_) ?_ ?_ ?_
                rotate_left; (intro w'; go_simp; with_reducible rfl); rotate_left; (simp only [sqa, sqb, sqc, sqd, i64_w, i32_w]; rfl)
                refine pu 27 372 (bl 28 268435455) HT_.out (v := ?_) (a' := ?_) ?_ ?_ ?_
                rotate_left; (intro w'; go_simp; with_reducible rfl); rotate_left; (simp only [sqa, sqb, sqc, sqd, i64_w, i32_w]; rfl)
                refine done_ (done_of HT_.out (by kernel_rfl)) ?_
                try go_wp2
                (refine Handed.intro k5 ?measure18 ?_; rotate_left; go_step; refine LoopI_mk (by kernel_rfl) ?rel18)
                case measure18 => have := HJ17.out; have := HJ76.out; have := HK3.out; have := HJ107.out; have := HK5.out; omega
                case rel18 => exact ⟨(wrap64 (x335_5 + 1)), (by first | rfl | (simp; done) | (simp [*]; done)), H', ⟨by have := HJ17.out; have := HJ76.out; have := HK3.out; have := HJ107.out; have := HK5.out; omega⟩, ⟨rk HO_5⟩, ⟨by exact Kd.R_mono HO_6.out (fun _ hk => trivial)⟩, ⟨by exact Kd.V_mono HO_11.out (fun _ hk => ⟨hk.1.1, hk.1.2⟩)⟩, ⟨bw HB⟩⟩
    case rest4 =>
      intro u_ wc hcut l_ hl_; (simp only [rl, List.reduceReplicate, List.cons_append, List.nil_append, List.append_nil, Bool.not_true, Bool.not_false, fu, Nat.reduceAdd] at hl_); subst hl_
      clear HC73
      (try clear c1)
      obtain ⟨kq, HA, HJ72, HO_6, HB⟩ := hcut
      cases kq with
      | zero => exact absurd HA.out (by simp [laws_FnRowsKeepWater.j6])
      | succ kj72 =>
       have H := HA.out
       clear HA
       simp only [laws_FnRowsKeepWater.j6] at H
       replace H := Option.bind_eq_some_iff.mp H
       obtain ⟨⟨t676, t677⟩, A1300, H⟩ := H
       (try dsimp only at H)
       have A130 := Aside0.mk A1300
       clear A1300
       replace H := Option.bind_eq_some_iff.mp H
       obtain ⟨⟨t682, t685⟩, A1310, H⟩ := H
       (try dsimp only at H)
       have A131 := Aside0.mk A1310
       clear A1310
       replace H := Option.bind_eq_some_iff.mp H
       obtain ⟨⟨t686, t687⟩, A1320, H⟩ := H
       (try dsimp only at H)
       have A132 := Aside0.mk A1320
       clear A1320
       have HC133 := Aside0.mk H
       clear H
       go_upto_region 47 with (first | ((with_reducible refine gate_callee (f := 41) rfl ?_); refine gl 376 Try.func41 #[.slice A1 l1.length c1] ?_; (with_reducible refine (spec_DrawJoinRows.calls kj72 _ _ l1 t676 t677 _ ?side1 ?side2 A130.out).mono ?_); (case side1 => exact ck HR1 HB); (case side2 => exact HC1.out); rintro e w134 ⟨v678, v680, rfl, ho0, ho1, hb⟩; refine ⟨_, rfl, ?_⟩; replace HO_6 := rb HO_6 hb; have HO679 := lo ho0 HB; have HO681 := lo ho1 HB; replace HB := bs HB hb; (try clear hb); (try clear ho0); (try clear ho1); obtain ⟨Ao135, co135, eo135⟩ := Kd.R_slice HO679.out; subst eo135; obtain ⟨Ao136, co136, eo136⟩ := Kd.R_slice HO681.out; subst eo136) | ((with_reducible refine gate_callee (f := 42) rfl ?_); refine gl 382 Try.func42 #[.slice Ao135 t676.length co135, .slice Ao136 t677.length co136] ?_; (with_reducible refine (impl_JoinRows.calls kj72 (fun k_ => some k_ = (.slice Ao135 t676.length co135 : Value).ownBlock) _ _ t676 (fun k_ => some k_ = (.slice Ao136 t677.length co136 : Value).ownBlock) _ _ t677 t682 t685 _ ?side1 ?side2 A131.out).mono ?_); (case side1 => exact Kd.R_V (Kd.R_tight rfl (Kd.R_apart' (HO679.out) (Kd.R_typed HO_6.out) (by decide)))); (case side2 => exact Kd.R_V (Kd.R_tight rfl (Kd.R_apart' (HO681.out) (Kd.R_typed HO_6.out) (by decide)))); rintro e w137 ⟨v683, rfl, ho0, hb⟩; refine ⟨_, rfl, ?_⟩; replace HO_6 := rb HO_6 hb; have HO684 := Aside0.mk (Kd.R_lower (Kd.R_new' (Kd.R_new' (Kd.R_mono (ok' := fun k_ => True) ho0 (fun _ hk_ => trivial)) (Kd.R_lt (rk HO679))) (Kd.R_lt (rk HO681))) (below_size (bw HB))); replace HO679 := Aside0.mk (Kd.R_elder' (rk HO679) (Kd.R_base ho0) hb); replace HO681 := Aside0.mk (Kd.R_elder' (rk HO681) (Kd.R_base ho0) hb); replace HB := bs HB hb; (try clear hb); (try clear ho0)) | ((with_reducible refine gate_callee (f := 43) rfl ?_); refine gl 388 Try.func43 #[.slice Ao135 t676.length co135, .slice Ao136 t677.length co136] ?_; (with_reducible refine (spec_JoinRows.calls kj72 _ _ t676 _ _ t677 t686 t687 _ ?side1 ?side2 ?side3 ?side4 A132.out).mono ?_); (case side1 => exact cr HO679); (case side2 => exact (Kd.R_reads' HO679.out).2.1); (case side3 => exact cr HO681); (case side4 => exact (Kd.R_reads' HO681.out).2.1); rintro e w138 ⟨v688, rfl, ho0, hb⟩; refine ⟨_, rfl, ?_⟩; replace HO_6 := rb HO_6 hb; have HO689 := Aside0.mk (Kd.R_lower (Kd.R_new' (Kd.R_new' (Kd.R_new' ho0 (Kd.R_lt (rk HO679))) (Kd.R_lt (rk HO681))) (Kd.R_lt (rk HO684))) (below_size (bw HB))); replace HO679 := Aside0.mk (Kd.R_elder' (rk HO679) (Kd.R_base ho0) hb); replace HO681 := Aside0.mk (Kd.R_elder' (rk HO681) (Kd.R_base ho0) hb); replace HO684 := Aside0.mk (Kd.R_elder' (rk HO684) (Kd.R_base ho0) hb); replace HB := bs HB hb; (try clear hb); (try clear ho0)))
       (try simp only [Act.put, List.setIfInBounds_toArray, List.set_cons_zero, List.set_cons_succ])
       refine cutF (rl [64, 225, 3, 42, 2, 152] false) (fun u_ wc => ∃ (kq : Nat) (x399_132 : Bool), (u_ 399) = .bool x399_132 ∧ Aside0 (laws_FnRowsKeepWater.j7 kq l1 t606 t676 t677 t682 t685 x399_132 = some r) ∧ Aside0 (kq ≤ kj72) ∧ Aside0 (Kd.R (Kd.int .i64) 3 wc w.heap.size (fun _ => True) (.slice Ao21 t606.length co21) t606) ∧ Aside0 (Kd.R k30 30 wc w.heap.size (fun k_ => some k_ ≠ ((.slice Ao136 t677.length co136) : Value).ownBlock ∧ some k_ ≠ (v683 : Value).ownBlock) (.slice Ao135 t676.length co135) t676) ∧ Aside0 (Kd.R k30 30 wc w.heap.size (fun k_ => some k_ ≠ ((.slice Ao135 t676.length co135) : Value).ownBlock ∧ some k_ ≠ (v683 : Value).ownBlock) (.slice Ao136 t677.length co136) t677) ∧ Aside0 (Kd.R k30 30 wc w.heap.size (fun k_ => some k_ ≠ ((.slice Ao135 t676.length co135) : Value).ownBlock ∧ some k_ ≠ ((.slice Ao136 t677.length co136) : Value).ownBlock) v683 t682) ∧ Aside0 (Below w.heap.size w wc)) ?first19 ?rest19
       case first19 =>
        as_aux_lemma =>
         intro J_ K_ hJ_ hK_
         have H := HC133.out
         clear HC133
         by_cases c139 : (t685 != t687) = true
         ·rw [if_pos c139] at H
          have c139b0 : (t685 != t687) = true := c139
          (try (have c139b1 : decide (t685 = t687) = false := by simpa using c139))
          (try (have c139b2 : (t685 == t687) = false := by simpa using c139))
          (try (have c139b3 : ¬ (t685 = t687) := by simpa using c139))
          clear c139
          (first | rw [c139b0] | (simp only [i64_w, i32_w]; rw [c139b0]) | skip)
          exact absurd H (by rw [hrt.out]; cases kj72 <;> simp [laws_FnRowsKeepWater.j7])
         rw [if_neg c139] at H
         have c139b0 : (t685 != t687) = false := by simpa using c139
         (try (have c139b1 : decide (t685 = t687) = true := by simpa using c139))
         (try (have c139b2 : (t685 == t687) = true := by simpa using c139))
         clear c139
         (first | rw [c139b0] | (simp only [i64_w, i32_w]; rw [c139b0]) | skip)
         replace H := Option.bind_eq_some_iff.mp H
         obtain ⟨t690, A1400, H⟩ := H
         (try dsimp only at H)
         have A140 := Aside0.mk A1400
         clear A1400
         have H' := Aside0.mk H
         clear H
         obtain ⟨Ao141, co141, eo141⟩ := Kd.R_slice HO684.out
         subst eo141
         obtain ⟨Ao142, co142, eo142⟩ := Kd.R_slice HO689.out
         subst eo142
         go_wp2_with (first | (go_at_call 19; (with_reducible refine (laws_hBasins.calls kj72 _ _ t682 _ _ t686 t690 _ ?side1 ?side2 ?side3 ?side4 A140.out).mono ?_); (case side1 => exact cr HO684); (case side2 => exact (Kd.R_reads' HO684.out).2.1); (case side3 => exact cr HO689); (case side4 => exact (Kd.R_reads' HO689.out).2.1); rintro e w' ⟨rfl, ⟨nd, rfl⟩⟩))
         (refine Met.intro ?_; go_step; refine Cut_mk (by kernel_rfl) ?rel20)
         case rel20 => exact ⟨_, (!t690), (by first | rfl | (simp; done) | (simp [*]; done)), H', ⟨by first | exact Nat.le_refl _ | exact Nat.le_of_succ_le HJ72.out | exact Nat.le_of_succ_le (Nat.le_trans HJ72.out (Nat.le_of_succ_le HJ17.out)) | exact Nat.le_of_succ_le HJ17.out | (have := HJ17.out; have := HJ72.out; omega)⟩, ⟨rk HO_6⟩, ⟨by exact Kd.R_mono HO679.out (fun _ hk => ⟨hk.1.1, hk.1.2⟩)⟩, ⟨by exact Kd.R_mono HO681.out (fun _ hk => ⟨hk.1.1, hk.1.2⟩)⟩, ⟨by exact Kd.R_mono HO684.out (fun _ hk => ⟨hk.1.1.2, hk.1.2⟩)⟩, ⟨bw HB⟩⟩
       case rest19 =>
         intro u_ wc hcut l_ hl_; (simp only [rl, List.reduceReplicate, List.cons_append, List.nil_append, List.append_nil, Bool.not_true, Bool.not_false, fu, Nat.reduceAdd] at hl_); subst hl_; generalize u_ 399 = v399 at hcut ⊢
         clear HC133
         (try clear c1); (try clear c4)
         obtain ⟨kq, x399_132, rfl, HA, HJ132, HO_6, HO_47, HO_48, HO_49, HB⟩ := hcut
         cases kq with
         | zero => exact absurd HA.out (by simp [laws_FnRowsKeepWater.j7])
         | succ kj132 =>
          have H := HA.out
          clear HA
          simp only [laws_FnRowsKeepWater.j7] at H
          by_cases c143 : x399_132 = true
          ·subst c143
           have H1 : (some false) = some r := by rw [if_pos rfl] at H; exact H
           clear H
           have H := H1
           clear H1
           exact absurd ((Option.some.inj H).trans hrt.out) (by decide)
          replace c143 := Bool.eq_false_iff.mpr c143
          subst c143
          have H1 : (if t685 = true then ((impl_AreFlows.f t606).bind fun t691 => (laws_FnRowsKeepWater.j8 kj132 l1 t606 t676 t677 t682 t691)) else (laws_FnRowsKeepWater.j8 kj132 l1 t606 t676 t677 t682 false)) = some r := by rw [if_neg (show ¬ (false = true) by decide)] at H; exact H
          clear H
          have H := H1
          clear H1
          have HC144 := Aside0.mk H
          clear H
          go_upto_region 49 with (fail)
          refine cutF (rl [64, 225, 3, 42, 2, 152] false) (fun u_ wc => ∃ (kq : Nat) (x404_143 : Bool), (u_ 404) = .bool x404_143 ∧ Aside0 (laws_FnRowsKeepWater.j8 kq l1 t606 t676 t677 t682 x404_143 = some r) ∧ Aside0 (kq ≤ kj132) ∧ Aside0 (Kd.R (Kd.int .i64) 3 wc w.heap.size (fun _ => True) (.slice Ao21 t606.length co21) t606) ∧ Aside0 (Kd.R k30 30 wc w.heap.size (fun k_ => some k_ ≠ ((.slice Ao136 t677.length co136) : Value).ownBlock ∧ some k_ ≠ (v683 : Value).ownBlock) (.slice Ao135 t676.length co135) t676) ∧ Aside0 (Kd.R k30 30 wc w.heap.size (fun k_ => some k_ ≠ ((.slice Ao135 t676.length co135) : Value).ownBlock ∧ some k_ ≠ (v683 : Value).ownBlock) (.slice Ao136 t677.length co136) t677) ∧ Aside0 (Kd.R k30 30 wc w.heap.size (fun k_ => some k_ ≠ ((.slice Ao135 t676.length co135) : Value).ownBlock ∧ some k_ ≠ ((.slice Ao136 t677.length co136) : Value).ownBlock) v683 t682) ∧ Aside0 (Below w.heap.size w wc)) ?first21 ?rest21
          case first21 =>
           as_aux_lemma =>
            intro J_ K_ hJ_ hK_
            have H := HC144.out
            clear HC144
            by_cases c145 : t685 = true
            rotate_left
            ·replace c145 := Bool.eq_false_iff.mpr c145
             subst c145
             have H1 : (laws_FnRowsKeepWater.j8 kj132 l1 t606 t676 t677 t682 false) = some r := by rw [if_neg (show ¬ (false = true) by decide)] at H; exact H
             clear H
             have H := H1
             clear H1
             have H' := Aside0.mk H
             clear H
             go_wp2
             (refine Met.intro ?_; go_step; refine Cut_mk (by kernel_rfl) ?rel22)
             case rel22 => exact ⟨_, (false), (by first | rfl | (simp; done) | (simp [*]; done)), H', ⟨by first | exact Nat.le_refl _ | exact Nat.le_of_succ_le HJ132.out | exact Nat.le_of_succ_le (Nat.le_trans HJ132.out (Nat.le_of_succ_le HJ72.out)) | exact Nat.le_of_succ_le (Nat.le_trans (Nat.le_trans HJ132.out (Nat.le_of_succ_le HJ72.out)) (Nat.le_of_succ_le HJ17.out)) | exact Nat.le_of_succ_le HJ72.out | exact Nat.le_of_succ_le (Nat.le_trans HJ72.out (Nat.le_of_succ_le HJ17.out)) | exact Nat.le_of_succ_le HJ17.out | (have := HJ17.out; have := HJ72.out; have := HJ132.out; omega)⟩, ⟨rk HO_6⟩, ⟨rk HO_47⟩, ⟨rk HO_48⟩, ⟨rk HO_49⟩, ⟨bw HB⟩⟩
            subst c145
            have H1 : ((impl_AreFlows.f t606).bind fun t691 => (laws_FnRowsKeepWater.j8 kj132 l1 t606 t676 t677 t682 t691)) = some r := by rw [if_pos rfl] at H; exact H
            clear H
            have H := H1
            clear H1
            replace H := Option.bind_eq_some_iff.mp H
            obtain ⟨t691, A1460, H⟩ := H
            (try dsimp only at H)
            have A146 := Aside0.mk A1460
            clear A1460
            have H' := Aside0.mk H
            clear H
            go_wp2_with (first | (go_at_call 39; (with_reducible refine (impl_AreFlows.calls _ _ t606 t691 _ ?side1 ?side2 A146.out).mono ?_); (case side1 => exact cr HO_6); (case side2 => exact (Kd.R_reads' HO_6.out).2.1); rintro e w147 ⟨rfl, hb⟩; replace HO_6 := rb HO_6 hb; replace HO_47 := rb HO_47 hb; replace HO_48 := rb HO_48 hb; replace HO_49 := rb HO_49 hb; replace HB := bs HB hb; (try clear hb)))
            (refine Met.intro ?_; go_step; refine Cut_mk (by kernel_rfl) ?rel23)
            case rel23 => exact ⟨_, (t691), (by first | rfl | (simp; done) | (simp [*]; done)), H', ⟨by first | exact Nat.le_refl _ | exact Nat.le_of_succ_le HJ132.out | exact Nat.le_of_succ_le (Nat.le_trans HJ132.out (Nat.le_of_succ_le HJ72.out)) | exact Nat.le_of_succ_le (Nat.le_trans (Nat.le_trans HJ132.out (Nat.le_of_succ_le HJ72.out)) (Nat.le_of_succ_le HJ17.out)) | exact Nat.le_of_succ_le HJ72.out | exact Nat.le_of_succ_le (Nat.le_trans HJ72.out (Nat.le_of_succ_le HJ17.out)) | exact Nat.le_of_succ_le HJ17.out | (have := HJ17.out; have := HJ72.out; have := HJ132.out; omega)⟩, ⟨rk HO_6⟩, ⟨rk HO_47⟩, ⟨rk HO_48⟩, ⟨rk HO_49⟩, ⟨bw HB⟩⟩
          case rest21 =>
            intro u_ wc hcut l_ hl_; (simp only [rl, List.reduceReplicate, List.cons_append, List.nil_append, List.append_nil, Bool.not_true, Bool.not_false, fu, Nat.reduceAdd] at hl_); subst hl_; generalize u_ 404 = v404 at hcut ⊢
            clear HC144
            (try clear c1); (try clear c4); (try clear c143)
            obtain ⟨kq, x404_143, rfl, HA, HJ143, HO_6, HO_47, HO_48, HO_49, HB⟩ := hcut
            cases kq with
            | zero => exact absurd HA.out (by simp [laws_FnRowsKeepWater.j8])
            | succ kj143 =>
             have H := HA.out
             clear HA
             simp only [laws_FnRowsKeepWater.j8] at H
             have HC148 := Aside0.mk H
             clear H
             go_upto_if 404 with (fail)
             refine cutF (rl [4, 1, 48, 6, 5, 225, 3, 42, 2, 152] false) (fun u_ wc => ∃ (kq : Nat), Aside0 (laws_FnRowsKeepWater.j10 kq l1 = some r) ∧ Aside0 (kq ≤ kj143) ∧ Aside0 (Below w.heap.size w wc)) ?first24 ?rest24
             case first24 =>
              as_aux_lemma =>
               intro J_ K_ hJ_ hK_
               have H := HC148.out
               clear HC148
               by_cases c149 : x404_143 = true
               rotate_left
               ·replace c149 := Bool.eq_false_iff.mpr c149
                subst c149
                have H1 : (laws_FnRowsKeepWater.j10 kj143 l1) = some r := by rw [if_neg (show ¬ (false = true) by decide)] at H; exact H
                clear H
                have H := H1
                clear H1
                have H' := Aside0.mk H
                clear H
                go_wp2
                (refine Met.intro ?_; go_step; refine Cut_mk (by kernel_rfl) ?rel25)
                case rel25 => exact ⟨_, H', ⟨by first | exact Nat.le_refl _ | exact Nat.le_of_succ_le HJ143.out | exact Nat.le_of_succ_le (Nat.le_trans HJ143.out (Nat.le_of_succ_le HJ132.out)) | exact Nat.le_of_succ_le (Nat.le_trans (Nat.le_trans HJ143.out (Nat.le_of_succ_le HJ132.out)) (Nat.le_of_succ_le HJ72.out)) | exact Nat.le_of_succ_le (Nat.le_trans (Nat.le_trans (Nat.le_trans HJ143.out (Nat.le_of_succ_le HJ132.out)) (Nat.le_of_succ_le HJ72.out)) (Nat.le_of_succ_le HJ17.out)) | exact Nat.le_of_succ_le HJ132.out | exact Nat.le_of_succ_le (Nat.le_trans HJ132.out (Nat.le_of_succ_le HJ72.out)) | exact Nat.le_of_succ_le (Nat.le_trans (Nat.le_trans HJ132.out (Nat.le_of_succ_le HJ72.out)) (Nat.le_of_succ_le HJ17.out)) | (have := HJ17.out; have := HJ72.out; have := HJ132.out; have := HJ143.out; omega)⟩, ⟨bw HB⟩⟩
               subst c149
               have H1 : ((impl_RunRow.f kj143 t676 t606).bind fun bt692 => ((impl_RunRow.f kj143 t682 t606).bind fun bt696 => (if bt692.2 = true then (laws_FnRowsKeepWater.j9 kj143 l1 t677 bt692.1 bt696.1 (!bt696.2)) else (laws_FnRowsKeepWater.j9 kj143 l1 t677 bt692.1 bt696.1 true)))) = some r := by rw [if_pos rfl] at H; exact H
               clear H
               have H := H1
               clear H1
               replace H := Option.bind_eq_some_iff.mp H
               obtain ⟨⟨t692, t693⟩, A1500, H⟩ := H
               (try dsimp only at H)
               have A150 := Aside0.mk A1500
               clear A1500
               replace H := Option.bind_eq_some_iff.mp H
               obtain ⟨⟨t696, t697⟩, A1510, H⟩ := H
               (try dsimp only at H)
               have A151 := Aside0.mk A1510
               clear A1510
               have HC152 := Aside0.mk H
               clear H
               go_upto_region 52 with (first | ((with_reducible refine gate_callee (f := 29) rfl ?_); refine gl 408 Try.func29 #[.slice Ao135 t676.length co135, .slice Ao21 t606.length co21] ?_; (with_reducible refine (impl_RunRow.calls kj143 _ _ t676 _ _ t606 t692 t693 _ ?side1 ?side2 ?side3 ?side4 A150.out).mono ?_); (case side1 => exact cr HO_47); (case side2 => exact (Kd.R_reads' HO_47.out).2.1); (case side3 => exact cr HO_6); (case side4 => exact (Kd.R_reads' HO_6.out).2.1); rintro e w153 ⟨v694, rfl, ho0, hb⟩; refine ⟨_, rfl, ?_⟩; replace HO_47 := rb HO_47 hb; replace HO_48 := rb HO_48 hb; replace HO_49 := rb HO_49 hb; have HO695 := Aside0.mk (Kd.R_lower (Kd.R_new' ho0 (Kd.R_lt (rk HO_6))) (below_size (bw HB))); replace HO_6 := Aside0.mk (Kd.R_elder' (rk HO_6) (Kd.R_base ho0) hb); replace HB := bs HB hb; (try clear hb); (try clear ho0); obtain ⟨Ao154, co154, eo154⟩ := Kd.R_slice HO_49.out; subst eo154) | ((with_reducible refine gate_callee (f := 29) rfl ?_); refine gl 414 Try.func29 #[.slice Ao154 t682.length co154, .slice Ao21 t606.length co21] ?_; (with_reducible refine (impl_RunRow.calls kj143 _ _ t682 _ _ t606 t696 t697 _ ?side1 ?side2 ?side3 ?side4 A151.out).mono ?_); (case side1 => exact cr HO_49); (case side2 => exact (Kd.R_reads' HO_49.out).2.1); (case side3 => exact cr HO_6); (case side4 => exact (Kd.R_reads' HO_6.out).2.1); rintro e w155 ⟨v698, rfl, ho0, hb⟩; refine ⟨_, rfl, ?_⟩; replace HO_47 := rb HO_47 hb; replace HO_48 := rb HO_48 hb; replace HO_49 := rb HO_49 hb; have HO699 := Aside0.mk (Kd.R_lower (Kd.R_new' (Kd.R_new' ho0 (Kd.R_lt (rk HO_6))) (Kd.R_lt (rk HO695))) (below_size (bw HB))); replace HO_6 := Aside0.mk (Kd.R_elder' (rk HO_6) (Kd.R_base ho0) hb); replace HO695 := Aside0.mk (Kd.R_elder' (rk HO695) (Kd.R_base ho0) hb); replace HB := bs HB hb; (try clear hb); (try clear ho0)))
               (try simp only [Act.put, List.setIfInBounds_toArray, List.set_cons_zero, List.set_cons_succ])
               refine cutF (rl [64, 225, 3, 42, 2, 152] false) (fun u_ wc => ∃ (kq : Nat) (x422_151 : Bool), (u_ 422) = .bool x422_151 ∧ Aside0 (laws_FnRowsKeepWater.j9 kq l1 t677 t692 t696 x422_151 = some r) ∧ Aside0 (kq ≤ kj143) ∧ Aside0 (Kd.R k30 30 wc w.heap.size (fun _ => True) (.slice Ao136 t677.length co136) t677) ∧ Aside0 (Kd.R (Kd.int .i64) 3 wc w.heap.size (fun k_ => some k_ ≠ (v698 : Value).ownBlock) v694 t692) ∧ Aside0 (Kd.R (Kd.int .i64) 3 wc w.heap.size (fun k_ => some k_ ≠ (v694 : Value).ownBlock) v698 t696) ∧ Aside0 (Below w.heap.size w wc)) ?first26 ?rest26
               case first26 =>
                as_aux_lemma =>
                 intro J_ K_ hJ_ hK_
                 have H := HC152.out
                 clear HC152
                 by_cases c156 : t693 = true
                 rotate_left
                 ·replace c156 := Bool.eq_false_iff.mpr c156
                  subst c156
                  have H1 : (laws_FnRowsKeepWater.j9 kj143 l1 t677 t692 t696 true) = some r := by rw [if_neg (show ¬ (false = true) by decide)] at H; exact H
                  clear H
                  have H := H1
                  clear H1
                  exact absurd H (by rw [hrt.out]; cases kj143 <;> simp [laws_FnRowsKeepWater.j9])
                 subst c156
                 have H1 : (laws_FnRowsKeepWater.j9 kj143 l1 t677 t692 t696 (!t697)) = some r := by rw [if_pos rfl] at H; exact H
                 clear H
                 have H := H1
                 clear H1
                 have H' := Aside0.mk H
                 clear H
                 go_wp2
                 (refine Met.intro ?_; go_step; refine Cut_mk (by kernel_rfl) ?rel27)
                 case rel27 => exact ⟨_, (!t697), (by first | rfl | (simp; done) | (simp [*]; done)), H', ⟨by first | exact Nat.le_refl _ | exact Nat.le_of_succ_le HJ143.out | exact Nat.le_of_succ_le (Nat.le_trans HJ143.out (Nat.le_of_succ_le HJ132.out)) | exact Nat.le_of_succ_le (Nat.le_trans (Nat.le_trans HJ143.out (Nat.le_of_succ_le HJ132.out)) (Nat.le_of_succ_le HJ72.out)) | exact Nat.le_of_succ_le (Nat.le_trans (Nat.le_trans (Nat.le_trans HJ143.out (Nat.le_of_succ_le HJ132.out)) (Nat.le_of_succ_le HJ72.out)) (Nat.le_of_succ_le HJ17.out)) | exact Nat.le_of_succ_le HJ132.out | exact Nat.le_of_succ_le (Nat.le_trans HJ132.out (Nat.le_of_succ_le HJ72.out)) | exact Nat.le_of_succ_le (Nat.le_trans (Nat.le_trans HJ132.out (Nat.le_of_succ_le HJ72.out)) (Nat.le_of_succ_le HJ17.out)) | (have := HJ17.out; have := HJ72.out; have := HJ132.out; have := HJ143.out; omega)⟩, ⟨by exact Kd.R_mono HO_48.out (fun _ hk => trivial)⟩, ⟨by exact Kd.R_mono HO695.out (fun _ hk => hk.2)⟩, ⟨by exact Kd.R_mono HO699.out (fun _ hk => hk.2)⟩, ⟨bw HB⟩⟩
               case rest26 =>
                 intro u_ wc hcut l_ hl_; (simp only [rl, List.reduceReplicate, List.cons_append, List.nil_append, List.append_nil, Bool.not_true, Bool.not_false, fu, Nat.reduceAdd] at hl_); subst hl_; generalize u_ 422 = v422 at hcut ⊢
                 clear HC152
                 (try clear c1); (try clear c4); (try clear c143); (try clear c149)
                 obtain ⟨kq, x422_151, rfl, HA, HJ151, HO_48, HO_53, HO_55, HB⟩ := hcut
                 cases kq with
                 | zero => exact absurd HA.out (by simp [laws_FnRowsKeepWater.j9])
                 | succ kj151 =>
                  have H := HA.out
                  clear HA
                  simp only [laws_FnRowsKeepWater.j9] at H
                  by_cases c157 : x422_151 = true
                  ·subst c157
                   have H1 : (some false) = some r := by rw [if_pos rfl] at H; exact H
                   clear H
                   have H := H1
                   clear H1
                   exact absurd ((Option.some.inj H).trans hrt.out) (by decide)
                  replace c157 := Bool.eq_false_iff.mpr c157
                  subst c157
                  have H1 : ((impl_AreFlows.f t692).bind fun t700 => (if t700 = true then ((impl_RunRow.f kj151 t677 t692).bind fun bt701 => (if bt701.2 = true then ((laws_hSame.f kj151 bt701.1 t696).bind fun t705 => (if t705 = true then (laws_FnRowsKeepWater.j10 kj151 l1) else (some false))) else (some false))) else (laws_FnRowsKeepWater.j10 kj151 l1))) = some r := by rw [if_neg (show ¬ (false = true) by decide)] at H; exact H
                  clear H
                  have H := H1
                  clear H1
                  replace H := Option.bind_eq_some_iff.mp H
                  obtain ⟨t700, A1580, H⟩ := H
                  (try dsimp only at H)
                  have A158 := Aside0.mk A1580
                  clear A1580
                  by_cases c159 : t700 = true
                  rotate_left
                  ·replace c159 := Bool.eq_false_iff.mpr c159
                   subst c159
                   have H1 : (laws_FnRowsKeepWater.j10 kj151 l1) = some r := by rw [if_neg (show ¬ (false = true) by decide)] at H; exact H
                   clear H
                   have H := H1
                   clear H1
                   have H' := Aside0.mk H
                   clear H
                   obtain ⟨Ao169, co169, eo169⟩ := Kd.R_slice HO_53.out
                   subst eo169
                   go_wp2_with (first | ((with_reducible refine gate_callee (f := 39) rfl ?_); refine gl 424 Try.func39 #[.slice Ao169 t692.length co169] ?_; (with_reducible refine (impl_AreFlows.calls _ _ t692 false _ ?side1 ?side2 A158.out).mono ?_); (case side1 => exact cr HO_53); (case side2 => exact (Kd.R_reads' HO_53.out).2.1); rintro e w170 ⟨rfl, hb⟩; refine ⟨_, rfl, ?_⟩; replace HO_48 := rb HO_48 hb; replace HO_53 := rb HO_53 hb; replace HO_55 := rb HO_55 hb; replace HB := bs HB hb; (try clear hb)))
                   (refine Met.intro ?_; go_step; refine Cut_mk (by kernel_rfl) ?rel28)
                   case rel28 => exact ⟨_, H', ⟨by first | exact Nat.le_refl _ | exact Nat.le_of_succ_le HJ151.out | exact Nat.le_of_succ_le (Nat.le_trans HJ151.out (Nat.le_of_succ_le HJ143.out)) | exact Nat.le_of_succ_le (Nat.le_trans (Nat.le_trans HJ151.out (Nat.le_of_succ_le HJ143.out)) (Nat.le_of_succ_le HJ132.out)) | exact Nat.le_of_succ_le (Nat.le_trans (Nat.le_trans (Nat.le_trans HJ151.out (Nat.le_of_succ_le HJ143.out)) (Nat.le_of_succ_le HJ132.out)) (Nat.le_of_succ_le HJ72.out)) | exact Nat.le_of_succ_le (Nat.le_trans (Nat.le_trans (Nat.le_trans (Nat.le_trans HJ151.out (Nat.le_of_succ_le HJ143.out)) (Nat.le_of_succ_le HJ132.out)) (Nat.le_of_succ_le HJ72.out)) (Nat.le_of_succ_le HJ17.out)) | exact Nat.le_of_succ_le HJ143.out | exact Nat.le_of_succ_le (Nat.le_trans HJ143.out (Nat.le_of_succ_le HJ132.out)) | (have := HJ17.out; have := HJ72.out; have := HJ132.out; have := HJ143.out; have := HJ151.out; omega)⟩, ⟨bw HB⟩⟩
                  subst c159
                  have H1 : ((impl_RunRow.f kj151 t677 t692).bind fun bt701 => (if bt701.2 = true then ((laws_hSame.f kj151 bt701.1 t696).bind fun t705 => (if t705 = true then (laws_FnRowsKeepWater.j10 kj151 l1) else (some false))) else (some false))) = some r := by rw [if_pos rfl] at H; exact H
                  clear H
                  have H := H1
                  clear H1
                  replace H := Option.bind_eq_some_iff.mp H
                  obtain ⟨⟨t701, t702⟩, A1600, H⟩ := H
                  (try dsimp only at H)
                  have A160 := Aside0.mk A1600
                  clear A1600
                  by_cases c161 : t702 = true
                  rotate_left
                  ·replace c161 := Bool.eq_false_iff.mpr c161
                   subst c161
                   have H1 : (some false) = some r := by rw [if_neg (show ¬ (false = true) by decide)] at H; exact H
                   clear H
                   have H := H1
                   clear H1
                   exact absurd ((Option.some.inj H).trans hrt.out) (by decide)
                  subst c161
                  have H1 : ((laws_hSame.f kj151 t701 t696).bind fun t705 => (if t705 = true then (laws_FnRowsKeepWater.j10 kj151 l1) else (some false))) = some r := by rw [if_pos rfl] at H; exact H
                  clear H
                  have H := H1
                  clear H1
                  replace H := Option.bind_eq_some_iff.mp H
                  obtain ⟨t705, A1620, H⟩ := H
                  (try dsimp only at H)
                  have A162 := Aside0.mk A1620
                  clear A1620
                  by_cases c163 : t705 = true
                  rotate_left
                  ·replace c163 := Bool.eq_false_iff.mpr c163
                   subst c163
                   have H1 : (some false) = some r := by rw [if_neg (show ¬ (false = true) by decide)] at H; exact H
                   clear H
                   have H := H1
                   clear H1
                   exact absurd ((Option.some.inj H).trans hrt.out) (by decide)
                  subst c163
                  have H1 : (laws_FnRowsKeepWater.j10 kj151 l1) = some r := by rw [if_pos rfl] at H; exact H
                  clear H
                  have H := H1
                  clear H1
                  have H' := Aside0.mk H
                  clear H
                  obtain ⟨Ao164, co164, eo164⟩ := Kd.R_slice HO_53.out
                  subst eo164
                  go_wp2_with (first | ((with_reducible refine gate_callee (f := 39) rfl ?_); refine gl 424 Try.func39 #[.slice Ao164 t692.length co164] ?_; (with_reducible refine (impl_AreFlows.calls _ _ t692 true _ ?side1 ?side2 A158.out).mono ?_); (case side1 => exact cr HO_53); (case side2 => exact (Kd.R_reads' HO_53.out).2.1); rintro e w165 ⟨rfl, hb⟩; refine ⟨_, rfl, ?_⟩; replace HO_48 := rb HO_48 hb; replace HO_53 := rb HO_53 hb; replace HO_55 := rb HO_55 hb; replace HB := bs HB hb; (try clear hb)) | ((with_reducible refine gate_callee (f := 29) rfl ?_); refine gl 428 Try.func29 #[.slice Ao136 t677.length co136, .slice Ao164 t692.length co164] ?_; (with_reducible refine (impl_RunRow.calls kj151 _ _ t677 _ _ t692 t701 true _ ?side1 ?side2 ?side3 ?side4 A160.out).mono ?_); (case side1 => exact cr HO_48); (case side2 => exact (Kd.R_reads' HO_48.out).2.1); (case side3 => exact cr HO_53); (case side4 => exact (Kd.R_reads' HO_53.out).2.1); rintro e w166 ⟨v703, rfl, ho0, hb⟩; refine ⟨_, rfl, ?_⟩; replace HO_48 := rb HO_48 hb; have HO704 := Aside0.mk (Kd.R_lower (Kd.R_new' (Kd.R_new' ho0 (Kd.R_lt (rk HO_53))) (Kd.R_lt (rk HO_55))) (below_size (bw HB))); replace HO_53 := Aside0.mk (Kd.R_elder' (rk HO_53) (Kd.R_base ho0) hb); replace HO_55 := Aside0.mk (Kd.R_elder' (rk HO_55) (Kd.R_base ho0) hb); replace HB := bs HB hb; (try clear hb); (try clear ho0); obtain ⟨Ao167, co167, eo167⟩ := Kd.R_slice HO704.out; subst eo167; obtain ⟨Ao168, co168, eo168⟩ := Kd.R_slice HO_55.out; subst eo168) | (go_at_call 17; (with_reducible refine (laws_hSame.calls kj151 _ _ t701 _ _ t696 true _ ?side1 ?side2 ?side3 ?side4 A162.out).mono ?_); (case side1 => exact cr HO704); (case side2 => exact (Kd.R_reads' HO704.out).2.1); (case side3 => exact cr HO_55); (case side4 => exact (Kd.R_reads' HO_55.out).2.1); rintro e w' ⟨rfl, ⟨nd, rfl⟩⟩))
                  (refine Met.intro ?_; go_step; refine Cut_mk (by kernel_rfl) ?rel29)
                  case rel29 => exact ⟨_, H', ⟨by first | exact Nat.le_refl _ | exact Nat.le_of_succ_le HJ151.out | exact Nat.le_of_succ_le (Nat.le_trans HJ151.out (Nat.le_of_succ_le HJ143.out)) | exact Nat.le_of_succ_le (Nat.le_trans (Nat.le_trans HJ151.out (Nat.le_of_succ_le HJ143.out)) (Nat.le_of_succ_le HJ132.out)) | exact Nat.le_of_succ_le (Nat.le_trans (Nat.le_trans (Nat.le_trans HJ151.out (Nat.le_of_succ_le HJ143.out)) (Nat.le_of_succ_le HJ132.out)) (Nat.le_of_succ_le HJ72.out)) | exact Nat.le_of_succ_le (Nat.le_trans (Nat.le_trans (Nat.le_trans (Nat.le_trans HJ151.out (Nat.le_of_succ_le HJ143.out)) (Nat.le_of_succ_le HJ132.out)) (Nat.le_of_succ_le HJ72.out)) (Nat.le_of_succ_le HJ17.out)) | exact Nat.le_of_succ_le HJ143.out | exact Nat.le_of_succ_le (Nat.le_trans HJ143.out (Nat.le_of_succ_le HJ132.out)) | (have := HJ17.out; have := HJ72.out; have := HJ132.out; have := HJ143.out; have := HJ151.out; omega)⟩, ⟨bw HB⟩⟩
             case rest24 =>
               intro u_ wc hcut l_ hl_; (simp only [rl, List.reduceReplicate, List.cons_append, List.nil_append, List.append_nil, Bool.not_true, Bool.not_false, fu, Nat.reduceAdd] at hl_); subst hl_
               clear HC148
               (try clear c1); (try clear c4); (try clear c143)
               obtain ⟨kq, HA, HJ147, HB⟩ := hcut
               cases kq with
               | zero => exact absurd HA.out (by simp [laws_FnRowsKeepWater.j10])
               | succ kj147 =>
                have H := HA.out
                clear HA
                simp only [laws_FnRowsKeepWater.j10] at H
                replace H := Option.bind_eq_some_iff.mp H
                obtain ⟨t706, A1710, H⟩ := H
                (try dsimp only at H)
                have A171 := Aside0.mk A1710
                clear A1710
                replace H := Option.bind_eq_some_iff.mp H
                obtain ⟨⟨t709, t710⟩, A1720, H⟩ := H
                (try dsimp only at H)
                have A172 := Aside0.mk A1720
                clear A1720
                replace H := Option.bind_eq_some_iff.mp H
                obtain ⟨⟨t713, t714⟩, A1730, H⟩ := H
                (try dsimp only at H)
                have A173 := Aside0.mk A1730
                clear A1730
                by_cases c174 : (t710 == t714) = true
                rotate_left
                ·rw [if_neg c174] at H
                 have c174b0 : (t710 == t714) = false := by simpa using c174
                 (try (have c174b1 : decide (t710 = t714) = false := by simpa using c174))
                 (try (have c174b2 : (t710 == t714) = false := by simpa using c174))
                 (try (have c174b3 : ¬ (t710 = t714) := by simpa using c174))
                 clear c174
                 exact absurd ((Option.some.inj H).trans hrt.out) (by decide)
                rw [if_pos c174] at H
                have c174b0 : (t710 == t714) = true := c174
                (try (have c174b1 : decide (t710 = t714) = true := by simpa using c174))
                (try (have c174b2 : (t710 == t714) = true := by simpa using c174))
                clear c174
                replace H := Option.bind_eq_some_iff.mp H
                obtain ⟨t717, A1750, H⟩ := H
                (try dsimp only at H)
                have A175 := Aside0.mk A1750
                clear A1750
                by_cases c176 : t717 = true
                rotate_left
                ·replace c176 := Bool.eq_false_iff.mpr c176
                 subst c176
                 have H1 : (some false) = some r := by rw [if_neg (show ¬ (false = true) by decide)] at H; exact H
                 clear H
                 have H := H1
                 clear H1
                 exact absurd ((Option.some.inj H).trans hrt.out) (by decide)
                subst c176
                have H1 : ((impl_AreFlows.f t706).bind fun t718 => (if (t710 == t718) = true then ((impl_AreFlows.f t706).bind fun t719 => ((spec_AreFlows.f kj147 t706).bind fun t720 => (if (t719 == t720) = true then (if (t709.length : Int) = 0 then (some true) else (if 0 ≤ (wrap64 ((t709.length : Int) - 1)) then (if (wrap64 ((t709.length : Int) - 1)) < (t709.length : Int) then ((laws_hSum.f kj147 t706).bind fun t722 => (some ((rd t709 (wrap64 ((t709.length : Int) - 1))) == t722))) else (none)) else (none))) else (some false)))) else (some false))) = some r := by rw [if_pos rfl] at H; exact H
                clear H
                have H := H1
                clear H1
                replace H := Option.bind_eq_some_iff.mp H
                obtain ⟨t718, A1770, H⟩ := H
                (try dsimp only at H)
                have A177 := Aside0.mk A1770
                clear A1770
                by_cases c178 : (t710 == t718) = true
                rotate_left
                ·rw [if_neg c178] at H
                 have c178b0 : (t710 == t718) = false := by simpa using c178
                 (try (have c178b1 : decide (t710 = t718) = false := by simpa using c178))
                 (try (have c178b2 : (t710 == t718) = false := by simpa using c178))
                 (try (have c178b3 : ¬ (t710 = t718) := by simpa using c178))
                 clear c178
                 exact absurd ((Option.some.inj H).trans hrt.out) (by decide)
                rw [if_pos c178] at H
                have c178b0 : (t710 == t718) = true := c178
                (try (have c178b1 : decide (t710 = t718) = true := by simpa using c178))
                (try (have c178b2 : (t710 == t718) = true := by simpa using c178))
                clear c178
                replace H := Option.bind_eq_some_iff.mp H
                obtain ⟨t719, A1790, H⟩ := H
                (try dsimp only at H)
                have A179 := Aside0.mk A1790
                clear A1790
                replace H := Option.bind_eq_some_iff.mp H
                obtain ⟨t720, A1800, H⟩ := H
                (try dsimp only at H)
                have A180 := Aside0.mk A1800
                clear A1800
                by_cases c181 : (t719 == t720) = true
                rotate_left
                ·rw [if_neg c181] at H
                 have c181b0 : (t719 == t720) = false := by simpa using c181
                 (try (have c181b1 : decide (t719 = t720) = false := by simpa using c181))
                 (try (have c181b2 : (t719 == t720) = false := by simpa using c181))
                 (try (have c181b3 : ¬ (t719 = t720) := by simpa using c181))
                 clear c181
                 exact absurd ((Option.some.inj H).trans hrt.out) (by decide)
                rw [if_pos c181] at H
                have c181b0 : (t719 == t720) = true := c181
                (try (have c181b1 : decide (t719 = t720) = true := by simpa using c181))
                (try (have c181b2 : (t719 == t720) = true := by simpa using c181))
                clear c181
                by_cases c182 : (t709.length : Int) = 0
                ·rw [if_pos c182] at H
                 have c182b0 : ((t709.length : Int) == 0) = true := beq_iff_eq.mpr c182
                 have c182b1 : ((t709.length : Int) != 0) = false := bne_eq_false_iff_eq.mpr c182
                 clear c182
                 obtain rfl := Option.some.inj H
                 try go_wp2_with (first | ((with_reducible refine gate_callee (f := 44) rfl ?_); refine gl 440 Try.func44 #[.slice A1 l1.length c1] ?_; (with_reducible refine (spec_DrawRunningTotals.calls kj147 _ _ l1 t706 _ ?side1 ?side2 A171.out).mono ?_); (case side1 => exact ck HR1 HB); (case side2 => exact HC1.out); rintro e w183 ⟨v707, rfl, ho0, hb⟩; refine ⟨_, rfl, ?_⟩; have HO708 := lo ho0 HB; replace HB := bs HB hb; (try clear hb); (try clear ho0); obtain ⟨Ao184, co184, eo184⟩ := Kd.R_slice HO708.out; subst eo184) | ((with_reducible refine gate_callee (f := 45) rfl ?_); refine gl 443 Try.func45 #[.slice Ao184 t706.length co184] ?_; (with_reducible refine (impl_RunningTotals.calls kj147 _ _ t706 t709 t710 _ ?side1 ?side2 A172.out).mono ?_); (case side1 => exact cr HO708); (case side2 => exact (Kd.R_reads' HO708.out).2.1); rintro e w185 ⟨v711, rfl, ho0, hb⟩; refine ⟨_, rfl, ?_⟩; have HO712 := Aside0.mk (Kd.R_lower (Kd.R_new' ho0 (Kd.R_lt (rk HO708))) (below_size (bw HB))); replace HO708 := Aside0.mk (Kd.R_elder' (rk HO708) (Kd.R_base ho0) hb); replace HB := bs HB hb; (try clear hb); (try clear ho0)) | ((with_reducible refine gate_callee (f := 46) rfl ?_); refine gl 448 Try.func46 #[.slice Ao184 t706.length co184] ?_; (with_reducible refine (spec_RunningTotals.calls kj147 _ _ t706 t713 t714 _ ?side1 ?side2 A173.out).mono ?_); (case side1 => exact cr HO708); (case side2 => exact (Kd.R_reads' HO708.out).2.1); rintro e w186 ⟨v715, rfl, ho0, hb⟩; refine ⟨_, rfl, ?_⟩; have HO716 := Aside0.mk (Kd.R_lower (Kd.R_new' (Kd.R_new' ho0 (Kd.R_lt (rk HO708))) (Kd.R_lt (rk HO712))) (below_size (bw HB))); replace HO708 := Aside0.mk (Kd.R_elder' (rk HO708) (Kd.R_base ho0) hb); replace HO712 := Aside0.mk (Kd.R_elder' (rk HO712) (Kd.R_base ho0) hb); replace HB := bs HB hb; (try clear hb); (try clear ho0)))
                 replace HO708 := Aside0.mk (Kd.R_drew HO708.out)
                 replace HO712 := Aside0.mk (Kd.R_drew HO712.out)
                 replace HO716 := Aside0.mk (Kd.R_drew HO716.out)
                 replace HB := Aside0.mk (below_drew1 HB.out)
                 obtain ⟨Ao188, co188, eo188⟩ := Kd.R_slice HO712.out
                 (first | subst eo188 | (injection eo188 with f1_ f2_ f3_; have f4_ := f1_.symm; have f5_ := f3_.symm; clear f1_ f2_ f3_; subst f4_; subst f5_))
                 obtain ⟨Ao189, co189, eo189⟩ := Kd.R_slice HO716.out
                 (first | subst eo189 | (injection eo189 with f1_ f2_ f3_; have f4_ := f1_.symm; have f5_ := f3_.symm; clear f1_ f2_ f3_; subst f4_; subst f5_))
                 refine start_ (n := 38) (S := fun w' => True) (ds := []) (bl 38 0) (by kernel_rfl) rfl rfl trivial (fun hHeld => ?_); refine with_tabW laws_FnRowsKeepWater.tab61 laws_FnRowsKeepWater.bits61 (fun HT_ HW_ => ?_)
                 generalize w186.drew = w187 at HO708 HO712 HO716 HB hHeld ⊢
                 refine pu 0 451 (bl 38 1) HT_.out (v := ?_) (a' := ?_) ?_ ?_ ?_
                 rotate_left; (intro w'; go_simp; with_reducible rfl); rotate_left; (simp only [sqa, sqb, sqc, sqd, i64_w, i32_w]; rfl)
                 refine pu 1 452 (bl 38 3) HT_.out (v := ?_) (a' := ?_) ?_ ?_ ?_
                 rotate_left; (intro w'; go_simp; with_reducible rfl); rotate_left; (simp only [sqa, sqb, sqc, sqd, i64_w, i32_w]; rfl)
                 refine pu 2 453 (bl 38 7) HT_.out (v := ?_) (a' := ?_) ?_ ?_ ?_
                 rotate_left; (intro w'; go_simp; with_reducible rfl); rotate_left; (simp only [sqa, sqb, sqc, sqd, i64_w, i32_w]; rfl)
                 refine pu 3 454 (bl 38 15) HT_.out (v := ?_) (a' := ?_) ?_ ?_ ?_
                 rotate_left; (intro w'; go_simp; with_reducible rfl); rotate_left; (simp only [sqa, sqb, sqc, sqd, i64_w, i32_w]; rfl)
                 refine pu 4 455 (bl 38 31) HT_.out (v := ?_) (a' := ?_) ?_ ?_ ?_
                 rotate_left; (intro w'; go_simp; with_reducible rfl); rotate_left; (simp only [sqa, sqb, sqc, sqd, i64_w, i32_w]; rfl)
                 refine pu 5 456 (bl 38 63) HT_.out (v := ?_) (a' := ?_) ?_ ?_ ?_
                 rotate_left; (intro w'; go_simp; with_reducible rfl); rotate_left; (simp only [sqa, sqb, sqc, sqd, i64_w, i32_w]; rfl)
                 refine on 6 457 (bl 38 127) HT_.out (fun K hK => ?_)
                 refine gs Try.func17 #[.slice Ao188 t709.length co188, .slice Ao189 t713.length co189] ?_
                 with_reducible refine (laws_hSame.calls kj147 _ _ t709 _ _ t713 true _ ?side1 ?side2 ?side3 ?side4 A175.out).mono ?_
                 (case side1 => exact cr HO712)
                 (case side2 => exact (Kd.R_reads' HO712.out).2.1)
                 (case side3 => exact cr HO716)
                 (case side4 => exact (Kd.R_reads' HO716.out).2.1)
                 rintro e w' ⟨rfl, ⟨nd, rfl⟩⟩
                 refine ⟨_, rfl, ?_⟩
                 refine hK.out _ _ trivial (fun hHeld => ?_)
                 clear hK K
                 refine norm_ (a' := ?_) ?_ ?_; rotate_left; (show Act.put _ (some 457) _ = _; simp only [sqa, sqb, sqc, sqd, i64_w, i32_w]; rfl)
                 refine pu 7 458 (bl 38 255) HT_.out (v := ?_) (a' := ?_) ?_ ?_ ?_
                 rotate_left; (intro w'; go_simp; with_reducible rfl); rotate_left; (simp only [sqa, sqb, sqc, sqd, i64_w, i32_w]; rfl)
                 refine pu 8 459 (bl 38 511) HT_.out (v := ?_) (a' := ?_) ?_ ?_ ?_
                 rotate_left; (intro w'; go_simp; with_reducible rfl); rotate_left; (simp only [sqa, sqb, sqc, sqd, i64_w, i32_w]; rfl)
                 refine pu 9 460 (bl 38 1023) HT_.out (v := ?_) (a' := ?_) ?_ ?_ ?_
                 rotate_left; (intro w'; go_simp; with_reducible rfl); rotate_left; (simp only [sqa, sqb, sqc, sqd, i64_w, i32_w]; rfl)
                 refine pu 10 461 (bl 38 2047) HT_.out (v := ?_) (a' := ?_) ?_ ?_ ?_
                 rotate_left; (intro w'; go_simp; with_reducible rfl); rotate_left; (simp only [sqa, sqb, sqc, sqd, i64_w, i32_w]; rfl)
                 refine on 11 462 (bl 38 4095) HT_.out (fun K hK => ?_)
                 refine gs Try.func39 #[.slice Ao184 t706.length co184] ?_
                 with_reducible refine (impl_AreFlows.calls _ _ t706 t718 _ ?side1 ?side2 A177.out).mono ?_
                 (case side1 => exact cr HO708)
                 (case side2 => exact (Kd.R_reads' HO708.out).2.1)
                 rintro e w190 ⟨rfl, hb⟩
                 refine ⟨_, rfl, ?_⟩
                 replace HO708 := rb HO708 hb
                 replace HO712 := rb HO712 hb
                 replace HO716 := rb HO716 hb
                 replace HB := bs HB hb
                 (try clear hb)
                 refine hK.out _ _ trivial (fun hHeld => ?_)
                 clear hK K
                 refine norm_ (a' := ?_) ?_ ?_; rotate_left; (show Act.put _ (some 462) _ = _; simp only [sqa, sqb, sqc, sqd, i64_w, i32_w]; rfl)
                 refine pu 12 463 (bl 38 8191) HT_.out (v := ?_) (a' := ?_) ?_ ?_ ?_
                 rotate_left; (intro w'; go_simp; with_reducible rfl); rotate_left; (simp only [sqa, sqb, sqc, sqd, i64_w, i32_w]; rfl)
                 refine pu 13 464 (bl 38 16383) HT_.out (v := ?_) (a' := ?_) ?_ ?_ ?_
                 rotate_left; (intro w'; go_simp; with_reducible rfl); rotate_left; (simp only [sqa, sqb, sqc, sqd, i64_w, i32_w]; rfl)
                 refine pu 14 465 (bl 38 32767) HT_.out (v := ?_) (a' := ?_) ?_ ?_ ?_
                 rotate_left; (intro w'; go_simp; with_reducible rfl); rotate_left; (simp only [sqa, sqb, sqc, sqd, i64_w, i32_w]; rfl)
                 refine pu 15 466 (bl 38 65535) HT_.out (v := ?_) (a' := ?_) ?_ ?_ ?_
                 rotate_left; (intro w'; go_simp; with_reducible rfl); rotate_left; (simp only [sqa, sqb, sqc, sqd, i64_w, i32_w]; rfl)
                 refine pu 17 468 (bl 38 196607) HT_.out (v := ?_) (a' := ?_) ?_ ?_ ?_
                 rotate_left; (intro w'; go_simp; with_reducible rfl); rotate_left; (simp only [sqa, sqb, sqc, sqd, i64_w, i32_w]; rfl)
                 refine on 16 467 (bl 38 262143) HT_.out (fun K hK => ?_)
                 refine gs Try.func39 #[.slice Ao184 t706.length co184] ?_
                 with_reducible refine (impl_AreFlows.calls _ _ t706 t719 _ ?side1 ?side2 A179.out).mono ?_
                 (case side1 => exact cr HO708)
                 (case side2 => exact (Kd.R_reads' HO708.out).2.1)
                 rintro e w191 ⟨rfl, hb⟩
                 refine ⟨_, rfl, ?_⟩
                 replace HO708 := rb HO708 hb
                 replace HO712 := rb HO712 hb
                 replace HO716 := rb HO716 hb
                 replace HB := bs HB hb
                 (try clear hb)
                 refine hK.out _ _ trivial (fun hHeld => ?_)
                 clear hK K
                 refine norm_ (a' := ?_) ?_ ?_; rotate_left; (show Act.put _ (some 467) _ = _; simp only [sqa, sqb, sqc, sqd, i64_w, i32_w]; rfl)
                 refine on 18 469 (bl 38 524287) HT_.out (fun K hK => ?_)
                 refine gs Try.func47 #[.slice Ao184 t706.length co184] ?_
                 with_reducible refine (spec_AreFlows.calls kj147 _ _ t706 t720 _ ?side1 ?side2 A180.out).mono ?_
                 (case side1 => exact cr HO708)
                 (case side2 => exact (Kd.R_reads' HO708.out).2.1)
                 rintro e w' ⟨rfl, ⟨nd, rfl⟩⟩
                 refine ⟨_, rfl, ?_⟩
                 refine hK.out _ _ trivial (fun hHeld => ?_)
                 clear hK K
                 refine norm_ (a' := ?_) ?_ ?_; rotate_left; (show Act.put _ (some 469) _ = _; simp only [sqa, sqb, sqc, sqd, i64_w, i32_w]; rfl)
                 refine pu 19 470 (bl 38 1048575) HT_.out (v := ?_) (a' := ?_) ?_ ?_ ?_
                 rotate_left; (intro w'; go_simp; with_reducible rfl); rotate_left; (simp only [sqa, sqb, sqc, sqd, i64_w, i32_w]; rfl)
                 refine pu 20 471 (bl 38 2097151) HT_.out (v := ?_) (a' := ?_) ?_ ?_ ?_
                 rotate_left; (intro w'; go_simp; with_reducible rfl); rotate_left; (simp only [sqa, sqb, sqc, sqd, i64_w, i32_w]; rfl)
                 refine pu 21 472 (bl 38 4194303) HT_.out (v := ?_) (a' := ?_) ?_ ?_ ?_
                 rotate_left; (intro w'; go_simp; with_reducible rfl); rotate_left; (simp only [sqa, sqb, sqc, sqd, i64_w, i32_w]; rfl)
                 refine pu 22 473 (bl 38 8388607) HT_.out (v := ?_) (a' := ?_) ?_ ?_ ?_
                 rotate_left; (intro w'; go_simp; with_reducible rfl); rotate_left; (simp only [sqa, sqb, sqc, sqd, i64_w, i32_w]; rfl)
                 refine pu 23 474 (bl 38 16777215) HT_.out (v := ?_) (a' := ?_) ?_ ?_ ?_
                 rotate_left; (intro w'; go_simp; with_reducible rfl); rotate_left; (simp only [sqa, sqb, sqc, sqd, i64_w, i32_w]; rfl)
                 refine pu 24 475 (bl 38 33554431) HT_.out (v := ?_) (a' := ?_) ?_ ?_ ?_
                 rotate_left; (intro w'; go_simp; with_reducible rfl); rotate_left; (simp only [sqa, sqb, sqc, sqd, i64_w, i32_w]; rfl)
                 refine pu 25 476 (bl 38 67108863) HT_.out (v := ?_) (a' := ?_) ?_ ?_ ?_
                 rotate_left; (intro w'; go_simp; with_reducible rfl); rotate_left; (simp only [sqa, sqb, sqc, sqd, i64_w, i32_w]; rfl)
                 refine pure_ (i := 26) (N := some 477) (v := undef) (a' := ?_) (bl 38 134217727) rfl rfl (any_of HT_.out (by kernel_rfl)) (fun _ _ _ h => h) (Or.inr ⟨by rfl, rfl⟩) ?_ ?_
                 rotate_left
                 ·simp only [sqa, sqb, sqc, sqd, i64_w, i32_w]
                  rfl
                 refine pure_ (i := 27) (N := some 478) (v := undef) (a' := ?_) (bl 38 268435455) rfl rfl (any_of HT_.out (by kernel_rfl)) (fun _ _ _ h => h) (Or.inr ⟨by rfl, rfl⟩) ?_ ?_
                 rotate_left
                 ·simp only [sqa, sqb, sqc, sqd, i64_w, i32_w]
                  rfl
                 refine pure_ (i := 28) (N := some 479) (v := undef) (a' := ?_) (bl 38 536870911) rfl rfl (any_of HT_.out (by kernel_rfl)) (fun _ _ _ h => h) (Or.inr ⟨by rfl, rfl⟩) ?_ ?_
                 rotate_left
                 ·simp only [sqa, sqb, sqc, sqd, i64_w, i32_w]
                  rfl
                 refine pure_ (i := 29) (N := some 480) (v := undef) (a' := ?_) (bl 38 1073741823) rfl rfl (any_of HT_.out (by kernel_rfl)) (fun _ _ _ h => h) (Or.inr ⟨by rfl, rfl⟩) ?_ ?_
                 rotate_left
                 ·simp only [sqa, sqb, sqc, sqd, i64_w, i32_w]
                  rfl
                 refine pure_ (i := 30) (N := some 481) (v := undef) (a' := ?_) (bl 38 2147483647) rfl rfl (any_of HT_.out (by kernel_rfl)) (fun _ _ _ h => h) (Or.inr ⟨by rfl, rfl⟩) ?_ ?_
                 rotate_left
                 ·simp only [sqa, sqb, sqc, sqd, i64_w, i32_w]
                  rfl
                 refine pure_ (i := 31) (N := some 482) (v := undef) (a' := ?_) (bl 38 4294967295) rfl rfl (any_of HT_.out (by kernel_rfl)) (fun _ _ _ h => h) (Or.inr ⟨by rfl, rfl⟩) ?_ ?_
                 rotate_left
                 ·simp only [sqa, sqb, sqc, sqd, i64_w, i32_w]
                  rfl
                 refine pure_ (i := 32) (N := some 483) (v := undef) (a' := ?_) (bl 38 8589934591) rfl rfl (any_of HT_.out (by kernel_rfl)) (fun _ _ _ h => h) (Or.inr ⟨by rfl, rfl⟩) ?_ ?_
                 rotate_left
                 ·simp only [sqa, sqb, sqc, sqd, i64_w, i32_w]
                  rfl
                 refine pure_ (i := 33) (N := some 484) (v := undef) (a' := ?_) (bl 38 17179869183) rfl rfl (any_of HT_.out (by kernel_rfl)) (fun _ _ _ h => h) (Or.inr ⟨by rfl, rfl⟩) ?_ ?_
                 rotate_left
                 ·simp only [sqa, sqb, sqc, sqd, i64_w, i32_w]
                  rfl
                 refine pure_ (i := 34) (N := some 485) (v := undef) (a' := ?_) (bl 38 34359738367) rfl rfl (any_of HT_.out (by kernel_rfl)) (fun _ _ _ h => h) (Or.inr ⟨by rfl, rfl⟩) ?_ ?_
                 rotate_left
                 ·simp only [sqa, sqb, sqc, sqd, i64_w, i32_w]
                  rfl
                 refine pu 35 486 (bl 38 68719476735) HT_.out (v := ?_) (a' := ?_) ?_ ?_ ?_
                 rotate_left; (intro w'; go_simp; with_reducible rfl); rotate_left; (simp only [sqa, sqb, sqc, sqd, i64_w, i32_w]; rfl)
                 refine pu 36 487 (bl 38 137438953471) HT_.out (v := ?_) (a' := ?_) ?_ ?_ ?_
                 rotate_left; (intro w'; go_simp; with_reducible rfl); rotate_left; (simp only [sqa, sqb, sqc, sqd, i64_w, i32_w]; rfl)
                 refine pu 37 4 (bl 38 274877906943) HT_.out (v := ?_) (a' := ?_) ?_ ?_ ?_
                 rotate_left; (intro w'; go_simp; with_reducible rfl); rotate_left; (simp only [sqa, sqb, sqc, sqd, i64_w, i32_w]; rfl)
                 refine done_ (done_of HT_.out (by kernel_rfl)) ?_
                 try go_wp2
                 go_ret
                 exact ⟨by first | rfl | (simp [errW_none, errW_some] <;> rfl) | (simp [*, errW_none, errW_some] <;> rfl), bw HB⟩
                rw [if_neg c182] at H
                have c182b0 : ((t709.length : Int) == 0) = false := beq_eq_false_iff_ne.mpr c182
                have c182b1 : ((t709.length : Int) != 0) = true := bne_iff_ne.mpr c182
                have c182b2 : ¬ (t709 = []) := fun h_ => c182 (by rw [h_]; rfl)
                obtain ⟨ji192, hji192⟩ : ∃ j_ : Int, (wrap64 ((t709.length : Int) - 1)) = j_ := ⟨_, rfl⟩
                replace H : (if 0 ≤ (ji192) then (if (ji192) < (t709.length : Int) then ((laws_hSum.f kj147 t706).bind fun t722 => (some ((rd t709 (ji192)) == t722))) else (none)) else (none)) = some r := by first | (rw [hji192] at H; exact H) | (simp only [hji192] at H ⊢; exact H)
                (try rw [hji192] at A171)
                (try rw [hji192] at A172)
                (try rw [hji192] at A173)
                (try rw [hji192] at A175)
                (try rw [hji192] at A177)
                (try rw [hji192] at A179)
                (try rw [hji192] at A180)
                have hji192w : (IntKind.i64.wrap ((t709.length : Int) - 1)) = ji192 := (i64_w _).trans hji192
                by_cases c193 : 0 ≤ (ji192)
                rotate_left
                ·rw [if_neg c193] at H
                 exact absurd H (by simp)
                rw [if_pos c193] at H
                have c193b0 : decide (0 ≤ (ji192)) = true := decide_eq_true c193
                clear c193
                by_cases c194 : (ji192) < (t709.length : Int)
                rotate_left
                ·rw [if_neg c194] at H
                 exact absurd H (by simp)
                rw [if_pos c194] at H
                have c194b0 : decide ((ji192) < (t709.length : Int)) = true := decide_eq_true c194
                clear c194
                replace H := Option.bind_eq_some_iff.mp H
                obtain ⟨t722, A1950, H⟩ := H
                (try dsimp only at H)
                have A195 := Aside0.mk A1950
                clear A1950
                obtain rfl := Option.some.inj H
                try go_wp2_with (first | ((with_reducible refine gate_callee (f := 44) rfl ?_); refine gl 440 Try.func44 #[.slice A1 l1.length c1] ?_; (with_reducible refine (spec_DrawRunningTotals.calls kj147 _ _ l1 t706 _ ?side1 ?side2 A171.out).mono ?_); (case side1 => exact ck HR1 HB); (case side2 => exact HC1.out); rintro e w196 ⟨v707, rfl, ho0, hb⟩; refine ⟨_, rfl, ?_⟩; have HO708 := lo ho0 HB; replace HB := bs HB hb; (try clear hb); (try clear ho0); obtain ⟨Ao197, co197, eo197⟩ := Kd.R_slice HO708.out; subst eo197) | ((with_reducible refine gate_callee (f := 45) rfl ?_); refine gl 443 Try.func45 #[.slice Ao197 t706.length co197] ?_; (with_reducible refine (impl_RunningTotals.calls kj147 _ _ t706 t709 t710 _ ?side1 ?side2 A172.out).mono ?_); (case side1 => exact cr HO708); (case side2 => exact (Kd.R_reads' HO708.out).2.1); rintro e w198 ⟨v711, rfl, ho0, hb⟩; refine ⟨_, rfl, ?_⟩; have HO712 := Aside0.mk (Kd.R_lower (Kd.R_new' ho0 (Kd.R_lt (rk HO708))) (below_size (bw HB))); replace HO708 := Aside0.mk (Kd.R_elder' (rk HO708) (Kd.R_base ho0) hb); replace HB := bs HB hb; (try clear hb); (try clear ho0)) | ((with_reducible refine gate_callee (f := 46) rfl ?_); refine gl 448 Try.func46 #[.slice Ao197 t706.length co197] ?_; (with_reducible refine (spec_RunningTotals.calls kj147 _ _ t706 t713 t714 _ ?side1 ?side2 A173.out).mono ?_); (case side1 => exact cr HO708); (case side2 => exact (Kd.R_reads' HO708.out).2.1); rintro e w199 ⟨v715, rfl, ho0, hb⟩; refine ⟨_, rfl, ?_⟩; have HO716 := Aside0.mk (Kd.R_lower (Kd.R_new' (Kd.R_new' ho0 (Kd.R_lt (rk HO708))) (Kd.R_lt (rk HO712))) (below_size (bw HB))); replace HO708 := Aside0.mk (Kd.R_elder' (rk HO708) (Kd.R_base ho0) hb); replace HO712 := Aside0.mk (Kd.R_elder' (rk HO712) (Kd.R_base ho0) hb); replace HB := bs HB hb; (try clear hb); (try clear ho0)))
                replace HO708 := Aside0.mk (Kd.R_drew HO708.out)
                replace HO712 := Aside0.mk (Kd.R_drew HO712.out)
                replace HO716 := Aside0.mk (Kd.R_drew HO716.out)
                replace HB := Aside0.mk (below_drew1 HB.out)
                obtain ⟨Ao201, co201, eo201⟩ := Kd.R_slice HO712.out
                (first | subst eo201 | (injection eo201 with f1_ f2_ f3_; have f4_ := f1_.symm; have f5_ := f3_.symm; clear f1_ f2_ f3_; subst f4_; subst f5_))
                obtain ⟨Ao202, co202, eo202⟩ := Kd.R_slice HO716.out
                (first | subst eo202 | (injection eo202 with f1_ f2_ f3_; have f4_ := f1_.symm; have f5_ := f3_.symm; clear f1_ f2_ f3_; subst f4_; subst f5_))
                have p721 : 0 ≤ ((ji192) : Int) := of_decide_eq_true ‹_›
                have q721 : (ji192) < (t709.length : Int) := of_decide_eq_true ‹_›
                obtain ⟨ad721, e721, hx721_0⟩ := Kd.at_int (Kd.R_reads' HO712.out).2.2 (ji192) p721 q721
                cases e721
                replace p721 := eq_true p721
                replace q721 := eq_true q721
                refine start_ (n := 38) (S := fun w' => w'.cell? (ad721.add ((ji192)).toNat) = some (.int .i64 (rd t709 (ji192)))) (ds := []) (bl 38 0) (by kernel_rfl) rfl rfl (hx721_0) (fun hHeld => ?_); refine with_tabW laws_FnRowsKeepWater.tab61 laws_FnRowsKeepWater.bits61 (fun HT_ HW_ => ?_)
                generalize w199.drew = w200 at HO708 HO712 HO716 HB hx721_0 hHeld ⊢
                refine pu 0 451 (bl 38 1) HT_.out (v := ?_) (a' := ?_) ?_ ?_ ?_
                rotate_left; (intro w'; go_simp; with_reducible rfl); rotate_left; (simp only [sqa, sqb, sqc, sqd, i64_w, i32_w]; rfl)
                refine pu 1 452 (bl 38 3) HT_.out (v := ?_) (a' := ?_) ?_ ?_ ?_
                rotate_left; (intro w'; go_simp; with_reducible rfl); rotate_left; (simp only [sqa, sqb, sqc, sqd, i64_w, i32_w]; rfl)
                refine pu 2 453 (bl 38 7) HT_.out (v := ?_) (a' := ?_) ?_ ?_ ?_
                rotate_left; (intro w'; go_simp; with_reducible rfl); rotate_left; (simp only [sqa, sqb, sqc, sqd, i64_w, i32_w]; rfl)
                refine pu 3 454 (bl 38 15) HT_.out (v := ?_) (a' := ?_) ?_ ?_ ?_
                rotate_left; (intro w'; go_simp; with_reducible rfl); rotate_left; (simp only [sqa, sqb, sqc, sqd, i64_w, i32_w]; rfl)
                refine pu 4 455 (bl 38 31) HT_.out (v := ?_) (a' := ?_) ?_ ?_ ?_
                rotate_left; (intro w'; go_simp; with_reducible rfl); rotate_left; (simp only [sqa, sqb, sqc, sqd, i64_w, i32_w]; rfl)
                refine pu 5 456 (bl 38 63) HT_.out (v := ?_) (a' := ?_) ?_ ?_ ?_
                rotate_left; (intro w'; go_simp; with_reducible rfl); rotate_left; (simp only [sqa, sqb, sqc, sqd, i64_w, i32_w]; rfl)
                refine on 6 457 (bl 38 127) HT_.out (fun K hK => ?_)
                refine gs Try.func17 #[.slice (some ad721) t709.length co201, .slice Ao202 t713.length co202] ?_
                with_reducible refine (laws_hSame.calls kj147 _ _ t709 _ _ t713 true _ ?side1 ?side2 ?side3 ?side4 A175.out).mono ?_
                (case side1 => exact cr HO712)
                (case side2 => exact (Kd.R_reads' HO712.out).2.1)
                (case side3 => exact cr HO716)
                (case side4 => exact (Kd.R_reads' HO716.out).2.1)
                rintro e w' ⟨rfl, ⟨nd, rfl⟩⟩
                refine ⟨_, rfl, ?_⟩
                refine hK.out _ _ (hHeld) (fun hHeld => ?_)
                clear hK K
                refine norm_ (a' := ?_) ?_ ?_; rotate_left; (show Act.put _ (some 457) _ = _; simp only [sqa, sqb, sqc, sqd, i64_w, i32_w]; rfl)
                refine pu 7 458 (bl 38 255) HT_.out (v := ?_) (a' := ?_) ?_ ?_ ?_
                rotate_left; (intro w'; go_simp; with_reducible rfl); rotate_left; (simp only [sqa, sqb, sqc, sqd, i64_w, i32_w]; rfl)
                refine pu 8 459 (bl 38 511) HT_.out (v := ?_) (a' := ?_) ?_ ?_ ?_
                rotate_left; (intro w'; go_simp; with_reducible rfl); rotate_left; (simp only [sqa, sqb, sqc, sqd, i64_w, i32_w]; rfl)
                refine pu 9 460 (bl 38 1023) HT_.out (v := ?_) (a' := ?_) ?_ ?_ ?_
                rotate_left; (intro w'; go_simp; with_reducible rfl); rotate_left; (simp only [sqa, sqb, sqc, sqd, i64_w, i32_w]; rfl)
                refine pu 10 461 (bl 38 2047) HT_.out (v := ?_) (a' := ?_) ?_ ?_ ?_
                rotate_left; (intro w'; go_simp; with_reducible rfl); rotate_left; (simp only [sqa, sqb, sqc, sqd, i64_w, i32_w]; rfl)
                refine on 11 462 (bl 38 4095) HT_.out (fun K hK => ?_)
                refine gs Try.func39 #[.slice Ao197 t706.length co197] ?_
                with_reducible refine (impl_AreFlows.calls _ _ t706 t718 _ ?side1 ?side2 A177.out).mono ?_
                (case side1 => exact cr HO708)
                (case side2 => exact (Kd.R_reads' HO708.out).2.1)
                rintro e w203 ⟨rfl, hb⟩
                have HS0_ := (hb.cell (World.block_lt_of_cell? _ _ (hHeld))).trans (hHeld)
                refine ⟨_, rfl, ?_⟩
                replace HO708 := rb HO708 hb
                replace HO712 := rb HO712 hb
                replace HO716 := rb HO716 hb
                replace HB := bs HB hb
                (try clear hb)
                refine hK.out _ _ (HS0_) (fun hHeld => ?_)
                clear hK K
                refine norm_ (a' := ?_) ?_ ?_; rotate_left; (show Act.put _ (some 462) _ = _; simp only [sqa, sqb, sqc, sqd, i64_w, i32_w]; rfl)
                refine pu 12 463 (bl 38 8191) HT_.out (v := ?_) (a' := ?_) ?_ ?_ ?_
                rotate_left; (intro w'; go_simp; with_reducible rfl); rotate_left; (simp only [sqa, sqb, sqc, sqd, i64_w, i32_w]; rfl)
                refine pu 13 464 (bl 38 16383) HT_.out (v := ?_) (a' := ?_) ?_ ?_ ?_
                rotate_left; (intro w'; go_simp; with_reducible rfl); rotate_left; (simp only [sqa, sqb, sqc, sqd, i64_w, i32_w]; rfl)
                refine pu 14 465 (bl 38 32767) HT_.out (v := ?_) (a' := ?_) ?_ ?_ ?_
                rotate_left; (intro w'; go_simp; with_reducible rfl); rotate_left; (simp only [sqa, sqb, sqc, sqd, i64_w, i32_w]; rfl)
                refine pu 15 466 (bl 38 65535) HT_.out (v := ?_) (a' := ?_) ?_ ?_ ?_
                rotate_left; (intro w'; go_simp; with_reducible rfl); rotate_left; (simp only [sqa, sqb, sqc, sqd, i64_w, i32_w]; rfl)
                refine pu 17 468 (bl 38 196607) HT_.out (v := ?_) (a' := ?_) ?_ ?_ ?_
                rotate_left; (intro w'; go_simp; with_reducible rfl); rotate_left; (simp only [sqa, sqb, sqc, sqd, i64_w, i32_w]; rfl)
                refine on 16 467 (bl 38 262143) HT_.out (fun K hK => ?_)
                refine gs Try.func39 #[.slice Ao197 t706.length co197] ?_
                with_reducible refine (impl_AreFlows.calls _ _ t706 t719 _ ?side1 ?side2 A179.out).mono ?_
                (case side1 => exact cr HO708)
                (case side2 => exact (Kd.R_reads' HO708.out).2.1)
                rintro e w204 ⟨rfl, hb⟩
                have HS0_ := (hb.cell (World.block_lt_of_cell? _ _ (hHeld))).trans (hHeld)
                refine ⟨_, rfl, ?_⟩
                replace HO708 := rb HO708 hb
                replace HO712 := rb HO712 hb
                replace HO716 := rb HO716 hb
                replace HB := bs HB hb
                (try clear hb)
                refine hK.out _ _ (HS0_) (fun hHeld => ?_)
                clear hK K
                refine norm_ (a' := ?_) ?_ ?_; rotate_left; (show Act.put _ (some 467) _ = _; simp only [sqa, sqb, sqc, sqd, i64_w, i32_w]; rfl)
                refine on 18 469 (bl 38 524287) HT_.out (fun K hK => ?_)
                refine gs Try.func47 #[.slice Ao197 t706.length co197] ?_
                with_reducible refine (spec_AreFlows.calls kj147 _ _ t706 t720 _ ?side1 ?side2 A180.out).mono ?_
                (case side1 => exact cr HO708)
                (case side2 => exact (Kd.R_reads' HO708.out).2.1)
                rintro e w' ⟨rfl, ⟨nd, rfl⟩⟩
                refine ⟨_, rfl, ?_⟩
                refine hK.out _ _ (hHeld) (fun hHeld => ?_)
                clear hK K
                refine norm_ (a' := ?_) ?_ ?_; rotate_left; (show Act.put _ (some 469) _ = _; simp only [sqa, sqb, sqc, sqd, i64_w, i32_w]; rfl)
                refine pu 19 470 (bl 38 1048575) HT_.out (v := ?_) (a' := ?_) ?_ ?_ ?_
                rotate_left; (intro w'; go_simp; with_reducible rfl); rotate_left; (simp only [sqa, sqb, sqc, sqd, i64_w, i32_w]; rfl)
                refine pu 20 471 (bl 38 2097151) HT_.out (v := ?_) (a' := ?_) ?_ ?_ ?_
                rotate_left; (intro w'; go_simp; with_reducible rfl); rotate_left; (simp only [sqa, sqb, sqc, sqd, i64_w, i32_w]; rfl)
                refine pu 21 472 (bl 38 4194303) HT_.out (v := ?_) (a' := ?_) ?_ ?_ ?_
                rotate_left; (intro w'; go_simp; with_reducible rfl); rotate_left; (simp only [sqa, sqb, sqc, sqd, i64_w, i32_w]; rfl)
                refine pu 22 473 (bl 38 8388607) HT_.out (v := ?_) (a' := ?_) ?_ ?_ ?_
                rotate_left; (intro w'; go_simp; with_reducible rfl); rotate_left; (simp only [sqa, sqb, sqc, sqd, i64_w, i32_w]; rfl)
                refine pu 23 474 (bl 38 16777215) HT_.out (v := ?_) (a' := ?_) ?_ ?_ ?_
                rotate_left; (intro w'; go_simp; with_reducible rfl); rotate_left; (simp only [sqa, sqb, sqc, sqd, i64_w, i32_w]; rfl)
                refine pu 24 475 (bl 38 33554431) HT_.out (v := ?_) (a' := ?_) ?_ ?_ ?_
                rotate_left; (intro w'; go_simp; with_reducible rfl); rotate_left; (simp only [sqa, sqb, sqc, sqd, i64_w, i32_w]; rfl)
                refine pu 25 476 (bl 38 67108863) HT_.out (v := ?_) (a' := ?_) ?_ ?_ ?_
                rotate_left; (intro w'; go_simp; with_reducible rfl); rotate_left; (simp only [sqa, sqb, sqc, sqd, i64_w, i32_w]; rfl)
                refine pu 26 477 (bl 38 134217727) HT_.out (v := ?_) (a' := ?_) ?_ ?_ ?_
                rotate_left; (intro w'; go_simp; with_reducible rfl); rotate_left; (simp only [sqa, sqb, sqc, sqd, i64_w, i32_w]; rfl)
                refine pu 27 478 (bl 38 268435455) HT_.out (v := ?_) (a' := ?_) ?_ ?_ ?_
                rotate_left; (intro w'; go_simp; with_reducible rfl); rotate_left; (simp only [sqa, sqb, sqc, sqd, i64_w, i32_w]; rfl)
                refine pu 28 479 (bl 38 536870911) HT_.out (v := ?_) (a' := ?_) ?_ ?_ ?_
                rotate_left; (intro w'; go_simp; with_reducible rfl); rotate_left; (simp only [sqa, sqb, sqc, sqd, i64_w, i32_w]; rfl)
                refine pu 29 480 (bl 38 1073741823) HT_.out (v := ?_) (a' := ?_) ?_ ?_ ?_
                rotate_left; (intro w'; go_simp; with_reducible rfl); rotate_left; (simp only [sqa, sqb, sqc, sqd, i64_w, i32_w]; rfl)
                refine pu 30 481 (bl 38 2147483647) HT_.out (v := ?_) (a' := ?_) ?_ ?_ ?_
                rotate_left; (intro w'; go_simp; with_reducible rfl); rotate_left; (simp only [sqa, sqb, sqc, sqd, i64_w, i32_w]; rfl)
                refine pu 32 483 (bl 38 6442450943) HT_.out (v := ?_) (a' := ?_) ?_ ?_ ?_
                rotate_left; (intro w'; go_simp; with_reducible rfl); rotate_left; (simp only [sqa, sqb, sqc, sqd, i64_w, i32_w]; rfl)
                refine tk 31 482 (bl 38 8589934591) HT_.out HW_.out hHeld (v := ?_) (a' := ?_) ?_ ?_ ?_
                rotate_left; (intro w' s0; go_simp; with_reducible rfl); rotate_left; (simp only [sqa, sqb, sqc, sqd, i64_w, i32_w]; rfl)
                refine on 33 484 (bl 38 17179869183) HT_.out (fun K hK => ?_)
                refine gs Try.func40 #[.slice Ao197 t706.length co197] ?_
                with_reducible refine (laws_hSum.calls kj147 _ _ t706 t722 _ ?side1 ?side2 A195.out).mono ?_
                (case side1 => exact cr HO708)
                (case side2 => exact (Kd.R_reads' HO708.out).2.1)
                rintro e w' ⟨rfl, ⟨nd, rfl⟩⟩
                refine ⟨_, rfl, ?_⟩
                refine hK.out _ _ (hHeld) (fun hHeld => ?_)
                clear hK K
                refine norm_ (a' := ?_) ?_ ?_; rotate_left; (show Act.put _ (some 484) _ = _; simp only [sqa, sqb, sqc, sqd, i64_w, i32_w]; rfl)
                refine pu 34 485 (bl 38 34359738367) HT_.out (v := ?_) (a' := ?_) ?_ ?_ ?_
                rotate_left; (intro w'; go_simp; with_reducible rfl); rotate_left; (simp only [sqa, sqb, sqc, sqd, i64_w, i32_w]; rfl)
                refine pu 35 486 (bl 38 68719476735) HT_.out (v := ?_) (a' := ?_) ?_ ?_ ?_
                rotate_left; (intro w'; go_simp; with_reducible rfl); rotate_left; (simp only [sqa, sqb, sqc, sqd, i64_w, i32_w]; rfl)
                refine pu 36 487 (bl 38 137438953471) HT_.out (v := ?_) (a' := ?_) ?_ ?_ ?_
                rotate_left; (intro w'; go_simp; with_reducible rfl); rotate_left; (simp only [sqa, sqb, sqc, sqd, i64_w, i32_w]; rfl)
                refine pu 37 4 (bl 38 274877906943) HT_.out (v := ?_) (a' := ?_) ?_ ?_ ?_
                rotate_left; (intro w'; go_simp; with_reducible rfl); rotate_left; (simp only [sqa, sqb, sqc, sqd, i64_w, i32_w]; rfl)
                refine done_ (done_of HT_.out (by kernel_rfl)) ?_
                try go_wp2
                go_ret
                exact ⟨by first | rfl | (simp [errW_none, errW_some] <;> rfl) | (simp only [← hji192]; first | rfl | (simp [errW_none, errW_some] <;> rfl)) | (simp [*, errW_none, errW_some] <;> rfl), bw HB⟩
     
     /-- THE ONE PURE STATEMENT of laws_FnRowsKeepWater: yours. -/
def laws_FnRowsKeepWater.Pure : Prop := ∀ (l0 : List Int) (l1 : List Int), l0.length ≤ maxLen → l0.length * 1 ≤ 140737488351232 → (∀ x ∈ l0, (Lit.int .u8 x).wf = true) → l1.length ≤ maxLen → l1.length * 1 ≤ 140737488351232 → (∀ x ∈ l1, (Lit.int .u8 x).wf = true) → ∃ k, laws_FnRowsKeepWater.f k l0 l1 = some true
theorem laws_FnRowsKeepWater.walk (P : laws_FnRowsKeepWater.Pure) (a0 : Option Addr) (len0 cap0 : Nat) (z0 : List Int) (a1 : Option Addr) (len1 cap1 : Nat) (z1 : List Int) (w : World) (w0 : (a0 = none ∧ len0 = 0 ∧ cap0 = 0 ∧ z0 = []) ∨ ∃ x, a0 = some x ∧ len0 ≤ cap0 ∧ cap0 ≤ maxLen ∧ z0.length = cap0 ∧ (∀ i, i < z0.length → w.cell? (x.add i) = some (.int .u8 (z0.getD i 0))) ∧ ∀ n ∈ z0, (Lit.int .u8 n).wf = true) (y0 : len0 * 1 ≤ 140737488351232) (w1 : (a1 = none ∧ len1 = 0 ∧ cap1 = 0 ∧ z1 = []) ∨ ∃ x, a1 = some x ∧ len1 ≤ cap1 ∧ cap1 ≤ maxLen ∧ z1.length = cap1 ∧ (∀ i, i < z1.length → w.cell? (x.add i) = some (.int .u8 (z1.getD i 0))) ∧ ∀ n ∈ z1, (Lit.int .u8 n).wf = true) (y1 : len1 * 1 ≤ 140737488351232) :
  Calls Try.prog 4 #[.slice a0 len0 cap0, .slice a1 len1 cap1] w fun e w' => e = .returned (.bool true) ∧ Below w.heap.size w w' := by
 obtain ⟨l0, rfl, hr0, hm0, hw0, hc0⟩ := ReadsInt.ofRowC w0
 obtain ⟨l1, rfl, hr1, hm1, hw1, hc1⟩ := ReadsInt.ofRowC w1
 obtain ⟨k, h⟩ := P l0 l1 hm0 y0 hw0 hm1 y1 hw1
 refine (laws_FnRowsKeepWater.calls k _ _ l0 _ _ l1 true w (Kd.C_of_reads (d := (0 : Int)) (h1 := fun _ => rfl) hr0) hc0 (Kd.C_of_reads (d := (0 : Int)) (h1 := fun _ => rfl) hr1) hc1 ⟨rfl⟩ h).mono ?_
 rintro e w' ⟨rfl, hd⟩
 exact ⟨rfl, hd⟩
end Go.Proofs.Ytflbcikfphfkdaa.R
