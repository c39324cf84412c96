-- Functions of the program as plain functions, and that the calls come to them. Written by a program (ownprint.py); nothing here is trusted: Lean checks it.
import Derived.Test.YtmlkdkeocbhajaaGvCut
import Derived.Test.YtmlkdkeocbhajaaRx0
import Derived.Test.YtmlkdkeocbhajaaRx1
import Derived.Test.YtmlkdkeocbhajaaRx2
namespace Go.Proofs.Ytmlkdkeocbhajaa.R
open Go.RowKit Go.Proofs.YtmlkdkeocbhajaaW.PrintWords Go.Proofs.YtmlkdkeocbhajaaW.PrintLast Go.Proofs.YtmlkdkeocbhajaaW.PrintMore Go.Proofs.Ytmlkdkeocbhajaa.Sq
attribute [local go_sem] max2_int min2_int max_two min_two max_three min_three max_four min_four   -- for this text's walks alone
set_option linter.unusedVariables false
set_option linter.unusedSimpArgs false

set_option maxHeartbeats 8000000 in
set_option maxRecDepth 100000 in
theorem laws_FnRainMeasured.calls (k : Nat) (A0 : Option Addr) (c0 : Nat) (l0 : List Int) (A1 : Option Addr) (c1 : Nat) (l1 : List Int) (r : Bool) (w : World) (hr0 : Kd.C (Kd.int .u8) w A0 l0.length l0) (hc0 : l0.length ≤ c0) (hr1 : Kd.C (Kd.int .u8) w A1 l1.length l1) (hc1 : l1.length ≤ c1) (hrt : Aside0 (r = true)) (h : laws_FnRainMeasured.f k l0 l1 = some r) :
  Calls Try.prog 5 #[.slice A0 l0.length c0, .slice A1 l1.length c1] w fun e w' => e = .returned (.bool r) ∧ Below w.heap.size w w' := by
 have HR0 := Aside0.mk hr0
 have HC0 := Aside0.mk hc0
 clear hr0 hc0
 have HR1 := Aside0.mk hr1
 have HC1 := Aside0.mk hc1
 clear hr1 hc1
 have HB := Aside0.mk (Below.refl w.heap.size w)
 have H : ((laws_big.f l0 l1).bind fun t288 => (if t288 = true then (some true) else ((spec_DrawTipsOfRain.f k l0).bind fun bt289 => ((impl_TipsOfRain.f k bt289.1 bt289.2).bind fun bt293 => ((spec_TipsOfRain.f k bt289.1 bt289.2).bind fun bt297 => ((impl_RestOfRain.f k bt289.1 bt289.2).bind fun bt301 => ((spec_RestOfRain.f k bt289.1 bt289.2).bind fun bt303 => ((impl_FirstTip.f k bt289.1 bt289.2).bind fun bt305 => ((spec_FirstTip.f k bt289.1 bt289.2).bind fun bt307 => (if (bt293.2 != bt297.2) = true then (laws_FnRainMeasured.j0 k l1 bt289.1 bt289.2 bt293.1 bt293.2 bt301.1 bt305.1 bt305.2 true) else ((laws_eSame.f k bt293.1 bt297.1).bind fun t309 => (if t309 = true then (if (bt301.2 != bt303.2) = true then (laws_FnRainMeasured.j0 k l1 bt289.1 bt289.2 bt293.1 bt293.2 bt301.1 bt305.1 bt305.2 true) else (if bt301.1 = bt303.1 then (if (bt305.2 != bt307.2) = true then (laws_FnRainMeasured.j0 k l1 bt289.1 bt289.2 bt293.1 bt293.2 bt301.1 bt305.1 bt305.2 true) else (if bt305.1 = bt307.1 then (if (bt301.2 != bt293.2) = true then (laws_FnRainMeasured.j0 k l1 bt289.1 bt289.2 bt293.1 bt293.2 bt301.1 bt305.1 bt305.2 true) else (if bt293.2 = true then ((laws_eSum.f k bt293.1).bind fun t310 => (laws_FnRainMeasured.j0 k l1 bt289.1 bt289.2 bt293.1 bt293.2 bt301.1 bt305.1 bt305.2 (bt305.2 != (decide (t310 > 0))))) else (laws_FnRainMeasured.j0 k l1 bt289.1 bt289.2 bt293.1 bt293.2 bt301.1 bt305.1 bt305.2 (bt305.2 != false)))) else (laws_FnRainMeasured.j0 k l1 bt289.1 bt289.2 bt293.1 bt293.2 bt301.1 bt305.1 bt305.2 true))) else (laws_FnRainMeasured.j0 k l1 bt289.1 bt289.2 bt293.1 bt293.2 bt301.1 bt305.1 bt305.2 true))) else (laws_FnRainMeasured.j0 k l1 bt289.1 bt289.2 bt293.1 bt293.2 bt301.1 bt305.1 bt305.2 true))))))))))))) = some r := h
 clear h
 replace H := Option.bind_eq_some_iff.mp H
 obtain ⟨t288, A30, H⟩ := H
 replace H : (if t288 = true then (some true) else ((spec_DrawTipsOfRain.f k l0).bind fun bt289 => ((impl_TipsOfRain.f k bt289.1 bt289.2).bind fun bt293 => ((spec_TipsOfRain.f k bt289.1 bt289.2).bind fun bt297 => ((impl_RestOfRain.f k bt289.1 bt289.2).bind fun bt301 => ((spec_RestOfRain.f k bt289.1 bt289.2).bind fun bt303 => ((impl_FirstTip.f k bt289.1 bt289.2).bind fun bt305 => ((spec_FirstTip.f k bt289.1 bt289.2).bind fun bt307 => (if (bt293.2 != bt297.2) = true then (laws_FnRainMeasured.j0 k l1 bt289.1 bt289.2 bt293.1 bt293.2 bt301.1 bt305.1 bt305.2 true) else ((laws_eSame.f k bt293.1 bt297.1).bind fun t309 => (if t309 = true then (if (bt301.2 != bt303.2) = true then (laws_FnRainMeasured.j0 k l1 bt289.1 bt289.2 bt293.1 bt293.2 bt301.1 bt305.1 bt305.2 true) else (if bt301.1 = bt303.1 then (if (bt305.2 != bt307.2) = true then (laws_FnRainMeasured.j0 k l1 bt289.1 bt289.2 bt293.1 bt293.2 bt301.1 bt305.1 bt305.2 true) else (if bt305.1 = bt307.1 then (if (bt301.2 != bt293.2) = true then (laws_FnRainMeasured.j0 k l1 bt289.1 bt289.2 bt293.1 bt293.2 bt301.1 bt305.1 bt305.2 true) else (if bt293.2 = true then ((laws_eSum.f k bt293.1).bind fun t310 => (laws_FnRainMeasured.j0 k l1 bt289.1 bt289.2 bt293.1 bt293.2 bt301.1 bt305.1 bt305.2 (bt305.2 != (decide (t310 > 0))))) else (laws_FnRainMeasured.j0 k l1 bt289.1 bt289.2 bt293.1 bt293.2 bt301.1 bt305.1 bt305.2 (bt305.2 != false)))) else (laws_FnRainMeasured.j0 k l1 bt289.1 bt289.2 bt293.1 bt293.2 bt301.1 bt305.1 bt305.2 true))) else (laws_FnRainMeasured.j0 k l1 bt289.1 bt289.2 bt293.1 bt293.2 bt301.1 bt305.1 bt305.2 true))) else (laws_FnRainMeasured.j0 k l1 bt289.1 bt289.2 bt293.1 bt293.2 bt301.1 bt305.1 bt305.2 true)))))))))))) = some r := H
 have A3 := Aside0.mk A30
 clear A30
 by_cases c4 : t288 = true
 ·subst c4
  have H1 : (some true) = some r := by rw [if_pos rfl] at H; exact H
  clear H
  have H := H1
  clear H1
  obtain rfl := Option.some.inj H
  go_enter Try.func5, Try.ntmps5
  go_wp2_with (first | ((with_reducible refine gate_callee (f := 10) rfl ?_); refine gl 54 Try.func10 #[.slice A0 l0.length c0, .slice A1 l1.length c1] ?_; (with_reducible refine (laws_big.calls _ _ l0 _ _ l1 true _ ?side1 ?side2 ?side3 ?side4 A3.out).mono ?_); (case side1 => repeat (first | exact HR0.out | (with_reducible refine Kd.C_alloc ?_ _) | (with_reducible refine Kd.C_drewN ?_ _) | (with_reducible refine Kd.C_drew ?_))); (case side2 => exact HC0.out); (case side3 => repeat (first | exact HR1.out | (with_reducible refine Kd.C_alloc ?_ _) | (with_reducible refine Kd.C_drewN ?_ _) | (with_reducible refine Kd.C_drew ?_))); (case side4 => exact HC1.out); rintro e w' ⟨rfl, ⟨nd, rfl⟩⟩; refine ⟨_, rfl, ?_⟩))
  go_ret
  exact ⟨by first | rfl | (simp [errW_none, errW_some] <;> rfl) | (simp [*, errW_none, errW_some] <;> rfl), bw HB⟩
 replace c4 := Bool.eq_false_iff.mpr c4
 subst c4
 have H1 : ((spec_DrawTipsOfRain.f k l0).bind fun bt289 => ((impl_TipsOfRain.f k bt289.1 bt289.2).bind fun bt293 => ((spec_TipsOfRain.f k bt289.1 bt289.2).bind fun bt297 => ((impl_RestOfRain.f k bt289.1 bt289.2).bind fun bt301 => ((spec_RestOfRain.f k bt289.1 bt289.2).bind fun bt303 => ((impl_FirstTip.f k bt289.1 bt289.2).bind fun bt305 => ((spec_FirstTip.f k bt289.1 bt289.2).bind fun bt307 => (if (bt293.2 != bt297.2) = true then (laws_FnRainMeasured.j0 k l1 bt289.1 bt289.2 bt293.1 bt293.2 bt301.1 bt305.1 bt305.2 true) else ((laws_eSame.f k bt293.1 bt297.1).bind fun t309 => (if t309 = true then (if (bt301.2 != bt303.2) = true then (laws_FnRainMeasured.j0 k l1 bt289.1 bt289.2 bt293.1 bt293.2 bt301.1 bt305.1 bt305.2 true) else (if bt301.1 = bt303.1 then (if (bt305.2 != bt307.2) = true then (laws_FnRainMeasured.j0 k l1 bt289.1 bt289.2 bt293.1 bt293.2 bt301.1 bt305.1 bt305.2 true) else (if bt305.1 = bt307.1 then (if (bt301.2 != bt293.2) = true then (laws_FnRainMeasured.j0 k l1 bt289.1 bt289.2 bt293.1 bt293.2 bt301.1 bt305.1 bt305.2 true) else (if bt293.2 = true then ((laws_eSum.f k bt293.1).bind fun t310 => (laws_FnRainMeasured.j0 k l1 bt289.1 bt289.2 bt293.1 bt293.2 bt301.1 bt305.1 bt305.2 (bt305.2 != (decide (t310 > 0))))) else (laws_FnRainMeasured.j0 k l1 bt289.1 bt289.2 bt293.1 bt293.2 bt301.1 bt305.1 bt305.2 (bt305.2 != false)))) else (laws_FnRainMeasured.j0 k l1 bt289.1 bt289.2 bt293.1 bt293.2 bt301.1 bt305.1 bt305.2 true))) else (laws_FnRainMeasured.j0 k l1 bt289.1 bt289.2 bt293.1 bt293.2 bt301.1 bt305.1 bt305.2 true))) else (laws_FnRainMeasured.j0 k l1 bt289.1 bt289.2 bt293.1 bt293.2 bt301.1 bt305.1 bt305.2 true))))))))))) = some r := by rw [if_neg (show ¬ (false = true) by decide)] at H; exact H
 clear H
 have H := H1
 clear H1
 replace H := Option.bind_eq_some_iff.mp H
 obtain ⟨⟨t289, t290⟩, A50, H⟩ := H
 replace H : ((impl_TipsOfRain.f k t289 t290).bind fun bt293 => ((spec_TipsOfRain.f k t289 t290).bind fun bt297 => ((impl_RestOfRain.f k t289 t290).bind fun bt301 => ((spec_RestOfRain.f k t289 t290).bind fun bt303 => ((impl_FirstTip.f k t289 t290).bind fun bt305 => ((spec_FirstTip.f k t289 t290).bind fun bt307 => (if (bt293.2 != bt297.2) = true then (laws_FnRainMeasured.j0 k l1 t289 t290 bt293.1 bt293.2 bt301.1 bt305.1 bt305.2 true) else ((laws_eSame.f k bt293.1 bt297.1).bind fun t309 => (if t309 = true then (if (bt301.2 != bt303.2) = true then (laws_FnRainMeasured.j0 k l1 t289 t290 bt293.1 bt293.2 bt301.1 bt305.1 bt305.2 true) else (if bt301.1 = bt303.1 then (if (bt305.2 != bt307.2) = true then (laws_FnRainMeasured.j0 k l1 t289 t290 bt293.1 bt293.2 bt301.1 bt305.1 bt305.2 true) else (if bt305.1 = bt307.1 then (if (bt301.2 != bt293.2) = true then (laws_FnRainMeasured.j0 k l1 t289 t290 bt293.1 bt293.2 bt301.1 bt305.1 bt305.2 true) else (if bt293.2 = true then ((laws_eSum.f k bt293.1).bind fun t310 => (laws_FnRainMeasured.j0 k l1 t289 t290 bt293.1 bt293.2 bt301.1 bt305.1 bt305.2 (bt305.2 != (decide (t310 > 0))))) else (laws_FnRainMeasured.j0 k l1 t289 t290 bt293.1 bt293.2 bt301.1 bt305.1 bt305.2 (bt305.2 != false)))) else (laws_FnRainMeasured.j0 k l1 t289 t290 bt293.1 bt293.2 bt301.1 bt305.1 bt305.2 true))) else (laws_FnRainMeasured.j0 k l1 t289 t290 bt293.1 bt293.2 bt301.1 bt305.1 bt305.2 true))) else (laws_FnRainMeasured.j0 k l1 t289 t290 bt293.1 bt293.2 bt301.1 bt305.1 bt305.2 true)))))))))) = some r := H
 have A5 := Aside0.mk A50
 clear A50
 replace H := Option.bind_eq_some_iff.mp H
 obtain ⟨⟨t293, t294⟩, A60, H⟩ := H
 replace H : ((spec_TipsOfRain.f k t289 t290).bind fun bt297 => ((impl_RestOfRain.f k t289 t290).bind fun bt301 => ((spec_RestOfRain.f k t289 t290).bind fun bt303 => ((impl_FirstTip.f k t289 t290).bind fun bt305 => ((spec_FirstTip.f k t289 t290).bind fun bt307 => (if (t294 != bt297.2) = true then (laws_FnRainMeasured.j0 k l1 t289 t290 t293 t294 bt301.1 bt305.1 bt305.2 true) else ((laws_eSame.f k t293 bt297.1).bind fun t309 => (if t309 = true then (if (bt301.2 != bt303.2) = true then (laws_FnRainMeasured.j0 k l1 t289 t290 t293 t294 bt301.1 bt305.1 bt305.2 true) else (if bt301.1 = bt303.1 then (if (bt305.2 != bt307.2) = true then (laws_FnRainMeasured.j0 k l1 t289 t290 t293 t294 bt301.1 bt305.1 bt305.2 true) else (if bt305.1 = bt307.1 then (if (bt301.2 != t294) = true then (laws_FnRainMeasured.j0 k l1 t289 t290 t293 t294 bt301.1 bt305.1 bt305.2 true) else (if t294 = true then ((laws_eSum.f k t293).bind fun t310 => (laws_FnRainMeasured.j0 k l1 t289 t290 t293 t294 bt301.1 bt305.1 bt305.2 (bt305.2 != (decide (t310 > 0))))) else (laws_FnRainMeasured.j0 k l1 t289 t290 t293 t294 bt301.1 bt305.1 bt305.2 (bt305.2 != false)))) else (laws_FnRainMeasured.j0 k l1 t289 t290 t293 t294 bt301.1 bt305.1 bt305.2 true))) else (laws_FnRainMeasured.j0 k l1 t289 t290 t293 t294 bt301.1 bt305.1 bt305.2 true))) else (laws_FnRainMeasured.j0 k l1 t289 t290 t293 t294 bt301.1 bt305.1 bt305.2 true))))))))) = some r := H
 have A6 := Aside0.mk A60
 clear A60
 replace H := Option.bind_eq_some_iff.mp H
 obtain ⟨⟨t297, t298⟩, A70, H⟩ := H
 replace H : ((impl_RestOfRain.f k t289 t290).bind fun bt301 => ((spec_RestOfRain.f k t289 t290).bind fun bt303 => ((impl_FirstTip.f k t289 t290).bind fun bt305 => ((spec_FirstTip.f k t289 t290).bind fun bt307 => (if (t294 != t298) = true then (laws_FnRainMeasured.j0 k l1 t289 t290 t293 t294 bt301.1 bt305.1 bt305.2 true) else ((laws_eSame.f k t293 t297).bind fun t309 => (if t309 = true then (if (bt301.2 != bt303.2) = true then (laws_FnRainMeasured.j0 k l1 t289 t290 t293 t294 bt301.1 bt305.1 bt305.2 true) else (if bt301.1 = bt303.1 then (if (bt305.2 != bt307.2) = true then (laws_FnRainMeasured.j0 k l1 t289 t290 t293 t294 bt301.1 bt305.1 bt305.2 true) else (if bt305.1 = bt307.1 then (if (bt301.2 != t294) = true then (laws_FnRainMeasured.j0 k l1 t289 t290 t293 t294 bt301.1 bt305.1 bt305.2 true) else (if t294 = true then ((laws_eSum.f k t293).bind fun t310 => (laws_FnRainMeasured.j0 k l1 t289 t290 t293 t294 bt301.1 bt305.1 bt305.2 (bt305.2 != (decide (t310 > 0))))) else (laws_FnRainMeasured.j0 k l1 t289 t290 t293 t294 bt301.1 bt305.1 bt305.2 (bt305.2 != false)))) else (laws_FnRainMeasured.j0 k l1 t289 t290 t293 t294 bt301.1 bt305.1 bt305.2 true))) else (laws_FnRainMeasured.j0 k l1 t289 t290 t293 t294 bt301.1 bt305.1 bt305.2 true))) else (laws_FnRainMeasured.j0 k l1 t289 t290 t293 t294 bt301.1 bt305.1 bt305.2 true)))))))) = some r := H
 have A7 := Aside0.mk A70
 clear A70
 replace H := Option.bind_eq_some_iff.mp H
 obtain ⟨⟨t301, t302⟩, A80, H⟩ := H
 replace H : ((spec_RestOfRain.f k t289 t290).bind fun bt303 => ((impl_FirstTip.f k t289 t290).bind fun bt305 => ((spec_FirstTip.f k t289 t290).bind fun bt307 => (if (t294 != t298) = true then (laws_FnRainMeasured.j0 k l1 t289 t290 t293 t294 t301 bt305.1 bt305.2 true) else ((laws_eSame.f k t293 t297).bind fun t309 => (if t309 = true then (if (t302 != bt303.2) = true then (laws_FnRainMeasured.j0 k l1 t289 t290 t293 t294 t301 bt305.1 bt305.2 true) else (if t301 = bt303.1 then (if (bt305.2 != bt307.2) = true then (laws_FnRainMeasured.j0 k l1 t289 t290 t293 t294 t301 bt305.1 bt305.2 true) else (if bt305.1 = bt307.1 then (if (t302 != t294) = true then (laws_FnRainMeasured.j0 k l1 t289 t290 t293 t294 t301 bt305.1 bt305.2 true) else (if t294 = true then ((laws_eSum.f k t293).bind fun t310 => (laws_FnRainMeasured.j0 k l1 t289 t290 t293 t294 t301 bt305.1 bt305.2 (bt305.2 != (decide (t310 > 0))))) else (laws_FnRainMeasured.j0 k l1 t289 t290 t293 t294 t301 bt305.1 bt305.2 (bt305.2 != false)))) else (laws_FnRainMeasured.j0 k l1 t289 t290 t293 t294 t301 bt305.1 bt305.2 true))) else (laws_FnRainMeasured.j0 k l1 t289 t290 t293 t294 t301 bt305.1 bt305.2 true))) else (laws_FnRainMeasured.j0 k l1 t289 t290 t293 t294 t301 bt305.1 bt305.2 true))))))) = some r := H
 have A8 := Aside0.mk A80
 clear A80
 replace H := Option.bind_eq_some_iff.mp H
 obtain ⟨⟨t303, t304⟩, A90, H⟩ := H
 replace H : ((impl_FirstTip.f k t289 t290).bind fun bt305 => ((spec_FirstTip.f k t289 t290).bind fun bt307 => (if (t294 != t298) = true then (laws_FnRainMeasured.j0 k l1 t289 t290 t293 t294 t301 bt305.1 bt305.2 true) else ((laws_eSame.f k t293 t297).bind fun t309 => (if t309 = true then (if (t302 != t304) = true then (laws_FnRainMeasured.j0 k l1 t289 t290 t293 t294 t301 bt305.1 bt305.2 true) else (if t301 = t303 then (if (bt305.2 != bt307.2) = true then (laws_FnRainMeasured.j0 k l1 t289 t290 t293 t294 t301 bt305.1 bt305.2 true) else (if bt305.1 = bt307.1 then (if (t302 != t294) = true then (laws_FnRainMeasured.j0 k l1 t289 t290 t293 t294 t301 bt305.1 bt305.2 true) else (if t294 = true then ((laws_eSum.f k t293).bind fun t310 => (laws_FnRainMeasured.j0 k l1 t289 t290 t293 t294 t301 bt305.1 bt305.2 (bt305.2 != (decide (t310 > 0))))) else (laws_FnRainMeasured.j0 k l1 t289 t290 t293 t294 t301 bt305.1 bt305.2 (bt305.2 != false)))) else (laws_FnRainMeasured.j0 k l1 t289 t290 t293 t294 t301 bt305.1 bt305.2 true))) else (laws_FnRainMeasured.j0 k l1 t289 t290 t293 t294 t301 bt305.1 bt305.2 true))) else (laws_FnRainMeasured.j0 k l1 t289 t290 t293 t294 t301 bt305.1 bt305.2 true)))))) = some r := H
 have A9 := Aside0.mk A90
 clear A90
 replace H := Option.bind_eq_some_iff.mp H
 obtain ⟨⟨t305, t306⟩, A100, H⟩ := H
 replace H : ((spec_FirstTip.f k t289 t290).bind fun bt307 => (if (t294 != t298) = true then (laws_FnRainMeasured.j0 k l1 t289 t290 t293 t294 t301 t305 t306 true) else ((laws_eSame.f k t293 t297).bind fun t309 => (if t309 = true then (if (t302 != t304) = true then (laws_FnRainMeasured.j0 k l1 t289 t290 t293 t294 t301 t305 t306 true) else (if t301 = t303 then (if (t306 != bt307.2) = true then (laws_FnRainMeasured.j0 k l1 t289 t290 t293 t294 t301 t305 t306 true) else (if t305 = bt307.1 then (if (t302 != t294) = true then (laws_FnRainMeasured.j0 k l1 t289 t290 t293 t294 t301 t305 t306 true) else (if t294 = true then ((laws_eSum.f k t293).bind fun t310 => (laws_FnRainMeasured.j0 k l1 t289 t290 t293 t294 t301 t305 t306 (t306 != (decide (t310 > 0))))) else (laws_FnRainMeasured.j0 k l1 t289 t290 t293 t294 t301 t305 t306 (t306 != false)))) else (laws_FnRainMeasured.j0 k l1 t289 t290 t293 t294 t301 t305 t306 true))) else (laws_FnRainMeasured.j0 k l1 t289 t290 t293 t294 t301 t305 t306 true))) else (laws_FnRainMeasured.j0 k l1 t289 t290 t293 t294 t301 t305 t306 true))))) = some r := H
 have A10 := Aside0.mk A100
 clear A100
 replace H := Option.bind_eq_some_iff.mp H
 obtain ⟨⟨t307, t308⟩, A110, H⟩ := H
 replace H : (if (t294 != t298) = true then (laws_FnRainMeasured.j0 k l1 t289 t290 t293 t294 t301 t305 t306 true) else ((laws_eSame.f k t293 t297).bind fun t309 => (if t309 = true then (if (t302 != t304) = true then (laws_FnRainMeasured.j0 k l1 t289 t290 t293 t294 t301 t305 t306 true) else (if t301 = t303 then (if (t306 != t308) = true then (laws_FnRainMeasured.j0 k l1 t289 t290 t293 t294 t301 t305 t306 true) else (if t305 = t307 then (if (t302 != t294) = true then (laws_FnRainMeasured.j0 k l1 t289 t290 t293 t294 t301 t305 t306 true) else (if t294 = true then ((laws_eSum.f k t293).bind fun t310 => (laws_FnRainMeasured.j0 k l1 t289 t290 t293 t294 t301 t305 t306 (t306 != (decide (t310 > 0))))) else (laws_FnRainMeasured.j0 k l1 t289 t290 t293 t294 t301 t305 t306 (t306 != false)))) else (laws_FnRainMeasured.j0 k l1 t289 t290 t293 t294 t301 t305 t306 true))) else (laws_FnRainMeasured.j0 k l1 t289 t290 t293 t294 t301 t305 t306 true))) else (laws_FnRainMeasured.j0 k l1 t289 t290 t293 t294 t301 t305 t306 true)))) = some r := H
 have A11 := Aside0.mk A110
 clear A110
 have HC12 := Aside0.mk H
 clear H
 go_enter Try.func5, Try.ntmps5
 go_upto_region 10 with (first | ((with_reducible refine gate_callee (f := 10) rfl ?_); refine gl 54 Try.func10 #[.slice A0 l0.length c0, .slice A1 l1.length c1] ?_; (with_reducible refine (laws_big.calls _ _ l0 _ _ l1 false _ ?side1 ?side2 ?side3 ?side4 A3.out).mono ?_); (case side1 => repeat (first | exact HR0.out | (with_reducible refine Kd.C_alloc ?_ _) | (with_reducible refine Kd.C_drewN ?_ _) | (with_reducible refine Kd.C_drew ?_))); (case side2 => exact HC0.out); (case side3 => repeat (first | exact HR1.out | (with_reducible refine Kd.C_alloc ?_ _) | (with_reducible refine Kd.C_drewN ?_ _) | (with_reducible refine Kd.C_drew ?_))); (case side4 => exact HC1.out); rintro e w' ⟨rfl, ⟨nd, rfl⟩⟩; refine ⟨_, rfl, ?_⟩) | ((with_reducible refine gate_callee (f := 54) rfl ?_); refine gl 57 Try.func54 #[.slice A0 l0.length c0] ?_; (with_reducible refine (spec_DrawTipsOfRain.calls k _ _ l0 t289 t290 _ ?side1 ?side2 A5.out).mono ?_); (case side1 => repeat (first | exact HR0.out | (with_reducible refine Kd.C_alloc ?_ _) | (with_reducible refine Kd.C_drewN ?_ _) | (with_reducible refine Kd.C_drew ?_))); (case side2 => exact HC0.out); rintro e w13 ⟨v291, rfl, ho0, hb⟩; refine ⟨_, rfl, ?_⟩; have HO292 := lo ho0 HB; replace HB := bs HB hb; (try clear hb); (try clear ho0); obtain ⟨Ao14, co14, eo14⟩ := Kd.R_slice HO292.out; subst eo14) | ((with_reducible refine gate_callee (f := 55) rfl ?_); refine gl 63 Try.func55 #[.int .i64 t289, .slice Ao14 t290.length co14] ?_; (with_reducible refine (impl_TipsOfRain.calls k t289 _ _ t290 t293 t294 _ ?side1 ?side2 A6.out).mono ?_); (case side1 => exact cr HO292); (case side2 => exact (Kd.R_reads' HO292.out).2.1); rintro e w15 ⟨v295, rfl, ho0, hb⟩; refine ⟨_, rfl, ?_⟩; have HO296 := Aside0.mk (Kd.R_lower (Kd.R_new' ho0 (Kd.R_lt (rk HO292))) (below_size (bw HB))); replace HO292 := Aside0.mk (Kd.R_elder' (rk HO292) (Kd.R_base ho0) hb); replace HB := bs HB hb; (try clear hb); (try clear ho0)) | ((with_reducible refine gate_callee (f := 56) rfl ?_); refine gl 69 Try.func56 #[.int .i64 t289, .slice Ao14 t290.length co14] ?_; (with_reducible refine (spec_TipsOfRain.calls k t289 _ _ t290 t297 t298 _ ?side1 ?side2 A7.out).mono ?_); (case side1 => exact cr HO292); (case side2 => exact (Kd.R_reads' HO292.out).2.1); rintro e w16 ⟨v299, rfl, ho0, hb⟩; refine ⟨_, rfl, ?_⟩; have HO300 := Aside0.mk (Kd.R_lower (Kd.R_new' (Kd.R_new' ho0 (Kd.R_lt (rk HO292))) (Kd.R_lt (rk HO296))) (below_size (bw HB))); replace HO292 := Aside0.mk (Kd.R_elder' (rk HO292) (Kd.R_base ho0) hb); replace HO296 := Aside0.mk (Kd.R_elder' (rk HO296) (Kd.R_base ho0) hb); replace HB := bs HB hb; (try clear hb); (try clear ho0)) | ((with_reducible refine gate_callee (f := 57) rfl ?_); refine gl 75 Try.func57 #[.int .i64 t289, .slice Ao14 t290.length co14] ?_; (with_reducible refine (impl_RestOfRain.calls k t289 _ _ t290 t301 t302 _ ?side1 ?side2 A8.out).mono ?_); (case side1 => exact cr HO292); (case side2 => exact (Kd.R_reads' HO292.out).2.1); rintro e w17 ⟨rfl, hb⟩; refine ⟨_, rfl, ?_⟩; replace HO292 := rb HO292 hb; replace HO296 := rb HO296 hb; replace HO300 := rb HO300 hb; replace HB := bs HB hb; (try clear hb)) | ((with_reducible refine gate_callee (f := 58) rfl ?_); refine gl 81 Try.func58 #[.int .i64 t289, .slice Ao14 t290.length co14] ?_; (with_reducible refine (spec_RestOfRain.calls k t289 _ _ t290 t303 t304 _ ?side1 ?side2 A9.out).mono ?_); (case side1 => exact cr HO292); (case side2 => exact (Kd.R_reads' HO292.out).2.1); rintro e w18 ⟨rfl, hb⟩; refine ⟨_, rfl, ?_⟩; replace HO292 := rb HO292 hb; replace HO296 := rb HO296 hb; replace HO300 := rb HO300 hb; replace HB := bs HB hb; (try clear hb)) | ((with_reducible refine gate_callee (f := 59) rfl ?_); refine gl 87 Try.func59 #[.int .i64 t289, .slice Ao14 t290.length co14] ?_; (with_reducible refine (impl_FirstTip.calls k t289 _ _ t290 t305 t306 _ ?side1 ?side2 A10.out).mono ?_); (case side1 => exact cr HO292); (case side2 => exact (Kd.R_reads' HO292.out).2.1); rintro e w19 ⟨rfl, hb⟩; refine ⟨_, rfl, ?_⟩; replace HO292 := rb HO292 hb; replace HO296 := rb HO296 hb; replace HO300 := rb HO300 hb; replace HB := bs HB hb; (try clear hb)) | ((with_reducible refine gate_callee (f := 60) rfl ?_); refine gl 93 Try.func60 #[.int .i64 t289, .slice Ao14 t290.length co14] ?_; (with_reducible refine (spec_FirstTip.calls k t289 _ _ t290 t307 t308 _ ?side1 ?side2 A11.out).mono ?_); (case side1 => exact cr HO292); (case side2 => exact (Kd.R_reads' HO292.out).2.1); rintro e w' ⟨rfl, ⟨nd, rfl⟩⟩; refine ⟨_, rfl, ?_⟩))
 (try simp only [Act.put, List.setIfInBounds_toArray, List.set_cons_zero, List.set_cons_succ])
 refine cutF (rl [52, 329] false) (fun u_ wc => ∃ (kq : Nat) (x139_11 : Bool), (u_ 139) = .bool x139_11 ∧ Aside0 (laws_FnRainMeasured.j0 kq l1 t289 t290 t293 t294 t301 t305 t306 x139_11 = some r) ∧ Aside0 (kq ≤ k) ∧ Aside0 (Kd.R (Kd.int .i64) 3 wc w.heap.size (fun k_ => some k_ ≠ (v295 : Value).ownBlock) (.slice Ao14 t290.length co14) t290) ∧ Aside0 (Kd.R (Kd.int .i64) 3 wc w.heap.size (fun k_ => some k_ ≠ ((.slice Ao14 t290.length co14) : Value).ownBlock) v295 t293) ∧ Aside0 (Below w.heap.size w wc)) ?first1 ?rest1
 case first1 =>
  as_aux_lemma =>
   intro J_ K_ hJ_ hK_
   have H := HC12.out
   clear HC12
   by_cases c20 : (t294 != t298) = true
   ·rw [if_pos c20] at H
    have c20b0 : (t294 != t298) = true := c20
    (try (have c20b1 : decide (t294 = t298) = false := by simpa using c20))
    (try (have c20b2 : (t294 == t298) = false := by simpa using c20))
    (try (have c20b3 : ¬ (t294 = t298) := by simpa using c20))
    clear c20
    (first | rw [c20b0] | (simp only [i64_w, i32_w]; rw [c20b0]) | skip)
    exact absurd H (by rw [hrt.out]; cases k <;> simp [laws_FnRainMeasured.j0])
   rw [if_neg c20] at H
   have c20b0 : (t294 != t298) = false := by simpa using c20
   (try (have c20b1 : decide (t294 = t298) = true := by simpa using c20))
   (try (have c20b2 : (t294 == t298) = true := by simpa using c20))
   clear c20
   (first | rw [c20b0] | (simp only [i64_w, i32_w]; rw [c20b0]) | skip)
   replace H := Option.bind_eq_some_iff.mp H
   obtain ⟨t309, A210, H⟩ := H
   replace H : (if t309 = true then (if (t302 != t304) = true then (laws_FnRainMeasured.j0 k l1 t289 t290 t293 t294 t301 t305 t306 true) else (if t301 = t303 then (if (t306 != t308) = true then (laws_FnRainMeasured.j0 k l1 t289 t290 t293 t294 t301 t305 t306 true) else (if t305 = t307 then (if (t302 != t294) = true then (laws_FnRainMeasured.j0 k l1 t289 t290 t293 t294 t301 t305 t306 true) else (if t294 = true then ((laws_eSum.f k t293).bind fun t310 => (laws_FnRainMeasured.j0 k l1 t289 t290 t293 t294 t301 t305 t306 (t306 != (decide (t310 > 0))))) else (laws_FnRainMeasured.j0 k l1 t289 t290 t293 t294 t301 t305 t306 (t306 != false)))) else (laws_FnRainMeasured.j0 k l1 t289 t290 t293 t294 t301 t305 t306 true))) else (laws_FnRainMeasured.j0 k l1 t289 t290 t293 t294 t301 t305 t306 true))) else (laws_FnRainMeasured.j0 k l1 t289 t290 t293 t294 t301 t305 t306 true)) = some r := H
   have A21 := Aside0.mk A210
   clear A210
   by_cases c22 : t309 = true
   rotate_left
   ·replace c22 := Bool.eq_false_iff.mpr c22
    subst c22
    have H1 : (laws_FnRainMeasured.j0 k l1 t289 t290 t293 t294 t301 t305 t306 true) = some r := by rw [if_neg (show ¬ (false = true) by decide)] at H; exact H
    clear H
    have H := H1
    clear H1
    exact absurd H (by rw [hrt.out]; cases k <;> simp [laws_FnRainMeasured.j0])
   subst c22
   have H1 : (if (t302 != t304) = true then (laws_FnRainMeasured.j0 k l1 t289 t290 t293 t294 t301 t305 t306 true) else (if t301 = t303 then (if (t306 != t308) = true then (laws_FnRainMeasured.j0 k l1 t289 t290 t293 t294 t301 t305 t306 true) else (if t305 = t307 then (if (t302 != t294) = true then (laws_FnRainMeasured.j0 k l1 t289 t290 t293 t294 t301 t305 t306 true) else (if t294 = true then ((laws_eSum.f k t293).bind fun t310 => (laws_FnRainMeasured.j0 k l1 t289 t290 t293 t294 t301 t305 t306 (t306 != (decide (t310 > 0))))) else (laws_FnRainMeasured.j0 k l1 t289 t290 t293 t294 t301 t305 t306 (t306 != false)))) else (laws_FnRainMeasured.j0 k l1 t289 t290 t293 t294 t301 t305 t306 true))) else (laws_FnRainMeasured.j0 k l1 t289 t290 t293 t294 t301 t305 t306 true))) = some r := by rw [if_pos rfl] at H; exact H
   clear H
   have H := H1
   clear H1
   by_cases c23 : (t302 != t304) = true
   ·rw [if_pos c23] at H
    have c23b0 : (t302 != t304) = true := c23
    (try (have c23b1 : decide (t302 = t304) = false := by simpa using c23))
    (try (have c23b2 : (t302 == t304) = false := by simpa using c23))
    (try (have c23b3 : ¬ (t302 = t304) := by simpa using c23))
    clear c23
    exact absurd H (by rw [hrt.out]; cases k <;> simp [laws_FnRainMeasured.j0])
   rw [if_neg c23] at H
   have c23b0 : (t302 != t304) = false := by simpa using c23
   (try (have c23b1 : decide (t302 = t304) = true := by simpa using c23))
   (try (have c23b2 : (t302 == t304) = true := by simpa using c23))
   clear c23
   by_cases c24 : t301 = t303
   rotate_left
   ·rw [if_neg c24] at H
    have c24b0 : (t301 == t303) = false := beq_eq_false_iff_ne.mpr c24
    have c24b1 : (t301 != t303) = true := bne_iff_ne.mpr c24
    exact absurd H (by rw [hrt.out]; cases k <;> simp [laws_FnRainMeasured.j0])
   rw [if_pos c24] at H
   have c24b0 : (t301 == t303) = true := beq_iff_eq.mpr c24
   have c24b1 : (t301 != t303) = false := bne_eq_false_iff_eq.mpr c24
   clear c24
   by_cases c25 : (t306 != t308) = true
   ·rw [if_pos c25] at H
    have c25b0 : (t306 != t308) = true := c25
    (try (have c25b1 : decide (t306 = t308) = false := by simpa using c25))
    (try (have c25b2 : (t306 == t308) = false := by simpa using c25))
    (try (have c25b3 : ¬ (t306 = t308) := by simpa using c25))
    clear c25
    exact absurd H (by rw [hrt.out]; cases k <;> simp [laws_FnRainMeasured.j0])
   rw [if_neg c25] at H
   have c25b0 : (t306 != t308) = false := by simpa using c25
   (try (have c25b1 : decide (t306 = t308) = true := by simpa using c25))
   (try (have c25b2 : (t306 == t308) = true := by simpa using c25))
   clear c25
   by_cases c26 : t305 = t307
   rotate_left
   ·rw [if_neg c26] at H
    have c26b0 : (t305 == t307) = false := beq_eq_false_iff_ne.mpr c26
    have c26b1 : (t305 != t307) = true := bne_iff_ne.mpr c26
    exact absurd H (by rw [hrt.out]; cases k <;> simp [laws_FnRainMeasured.j0])
   rw [if_pos c26] at H
   have c26b0 : (t305 == t307) = true := beq_iff_eq.mpr c26
   have c26b1 : (t305 != t307) = false := bne_eq_false_iff_eq.mpr c26
   clear c26
   by_cases c27 : (t302 != t294) = true
   ·rw [if_pos c27] at H
    have c27b0 : (t302 != t294) = true := c27
    (try (have c27b1 : decide (t302 = t294) = false := by simpa using c27))
    (try (have c27b2 : (t302 == t294) = false := by simpa using c27))
    (try (have c27b3 : ¬ (t302 = t294) := by simpa using c27))
    clear c27
    exact absurd H (by rw [hrt.out]; cases k <;> simp [laws_FnRainMeasured.j0])
   rw [if_neg c27] at H
   have c27b0 : (t302 != t294) = false := by simpa using c27
   (try (have c27b1 : decide (t302 = t294) = true := by simpa using c27))
   (try (have c27b2 : (t302 == t294) = true := by simpa using c27))
   clear c27
   by_cases c28 : t294 = true
   rotate_left
   ·replace c28 := Bool.eq_false_iff.mpr c28
    subst c28
    have H1 : (laws_FnRainMeasured.j0 k l1 t289 t290 t293 false t301 t305 t306 (t306 != false)) = some r := by rw [if_neg (show ¬ (false = true) by decide)] at H; exact H
    clear H
    have H := H1
    clear H1
    have H' := Aside0.mk H
    clear H
    obtain ⟨Ao32, co32, eo32⟩ := Kd.R_slice HO296.out
    subst eo32
    obtain ⟨Ao33, co33, eo33⟩ := Kd.R_slice HO300.out
    subst eo33
    go_wp2_with (first | (go_at_call 29; (with_reducible refine (laws_eSame.calls k _ _ t293 _ _ t297 true _ ?side1 ?side2 ?side3 ?side4 A21.out).mono ?_); (case side1 => exact cr HO296); (case side2 => exact (Kd.R_reads' HO296.out).2.1); (case side3 => exact cr HO300); (case side4 => exact (Kd.R_reads' HO300.out).2.1); rintro e w' ⟨rfl, ⟨nd, rfl⟩⟩))
    (refine Met.intro ?_; go_step; refine Cut_mk (by kernel_rfl) ?rel2)
    case rel2 => exact ⟨_, ((t306 != false)), (by first | rfl | (simp; done) | (simp [*]; done)), H', ⟨by first | omega | exact Nat.le_refl _⟩, ⟨by (with_reducible repeat (first | apply Kd.R_alloc | apply Kd.R_drewN | apply Kd.R_drew)); exact Kd.R_mono HO292.out (fun _ hk => hk.1.2)⟩, ⟨by (with_reducible repeat (first | apply Kd.R_alloc | apply Kd.R_drewN | apply Kd.R_drew)); exact Kd.R_mono HO296.out (fun _ hk => hk.1.2)⟩, ⟨bw HB⟩⟩
   subst c28
   have H1 : ((laws_eSum.f k t293).bind fun t310 => (laws_FnRainMeasured.j0 k l1 t289 t290 t293 true t301 t305 t306 (t306 != (decide (t310 > 0))))) = some r := by rw [if_pos rfl] at H; exact H
   clear H
   have H := H1
   clear H1
   replace H := Option.bind_eq_some_iff.mp H
   obtain ⟨t310, A290, H⟩ := H
   replace H : (laws_FnRainMeasured.j0 k l1 t289 t290 t293 true t301 t305 t306 (t306 != (decide (t310 > 0)))) = some r := H
   have A29 := Aside0.mk A290
   clear A290
   have H' := Aside0.mk H
   clear H
   obtain ⟨Ao30, co30, eo30⟩ := Kd.R_slice HO296.out
   subst eo30
   obtain ⟨Ao31, co31, eo31⟩ := Kd.R_slice HO300.out
   subst eo31
   go_wp2_with (first | (go_at_call 29; (with_reducible refine (laws_eSame.calls k _ _ t293 _ _ t297 true _ ?side1 ?side2 ?side3 ?side4 A21.out).mono ?_); (case side1 => exact cr HO296); (case side2 => exact (Kd.R_reads' HO296.out).2.1); (case side3 => exact cr HO300); (case side4 => exact (Kd.R_reads' HO300.out).2.1); rintro e w' ⟨rfl, ⟨nd, rfl⟩⟩) | (go_at_call 61; (with_reducible refine (laws_eSum.calls k _ _ t293 t310 _ ?side1 ?side2 A29.out).mono ?_); (case side1 => exact cr HO296); (case side2 => exact (Kd.R_reads' HO296.out).2.1); rintro e w' ⟨rfl, ⟨nd, rfl⟩⟩))
   (refine Met.intro ?_; go_step; refine Cut_mk (by kernel_rfl) ?rel3)
   case rel3 => exact ⟨_, ((t306 != (decide (t310 > 0)))), (by first | rfl | (simp; done) | (simp [*]; done)), H', ⟨by first | omega | exact Nat.le_refl _⟩, ⟨by (with_reducible repeat (first | apply Kd.R_alloc | apply Kd.R_drewN | apply Kd.R_drew)); exact Kd.R_mono HO292.out (fun _ hk => hk.1.2)⟩, ⟨by (with_reducible repeat (first | apply Kd.R_alloc | apply Kd.R_drewN | apply Kd.R_drew)); exact Kd.R_mono HO296.out (fun _ hk => hk.1.2)⟩, ⟨bw HB⟩⟩
 case rest1 =>
  as_aux_lemma =>
   intro u_ wc hcut l_ hl_; (simp only [rl, List.reduceReplicate, List.cons_append, List.nil_append, List.append_nil, Bool.not_true, Bool.not_false, fu, Nat.reduceAdd] at hl_); subst hl_; generalize u_ 139 = v139 at hcut ⊢
   clear HC12
   try clear c1
   try clear c2
   try clear p2
   try clear c4
   try clear c5
   try clear c6
   try clear c10
   try clear c20
   try clear c20b0
   try clear c20b1
   try clear c20b2
   try clear c22
   try clear c23
   try clear c23b0
   try clear c23b1
   try clear c23b2
   try clear c24
   try clear c24b0
   try clear c24b1
   try clear c25
   try clear c25b0
   try clear c25b1
   try clear c25b2
   try clear c26
   try clear c26b0
   try clear c26b1
   try clear c27
   try clear c27b0
   try clear c27b1
   try clear c27b2
   try clear c28
   obtain ⟨kq, x139_11, rfl, HA, HJ11, HO_6, HO_7, HB⟩ := hcut
   cases kq with
   | zero => exact absurd HA.out (by simp [laws_FnRainMeasured.j0])
   | succ kj11 =>
    have H := HA.out
    clear HA
    simp only [laws_FnRainMeasured.j0] at H
    by_cases c34 : x139_11 = true
    ·subst c34
     have H1 : (some false) = some r := by rw [if_pos rfl] at H; exact H
     clear H
     have H := H1
     clear H1
     exact absurd ((Option.some.inj H).trans hrt.out) (by decide)
    replace c34 := Bool.eq_false_iff.mpr c34
    subst c34
    have H1 : (if t294 = true then ((impl_RangeOfTips.f kj11 t289 t293).bind fun bt311 => ((laws_eSum.f kj11 t290).bind fun t314 => (if (t293.length : Int) = (t290.length : Int) then ((laws_eSum.f kj11 t293).bind fun t315 => (if (wrap64 ((wrap64 (t315 * t289)) + t301)) = t314 then (if t301 < 0 then (laws_FnRainMeasured.j1 kj11 l1 t289 t290 t293 t305 t306 bt311.1 bt311.2.1 t314 true) else (if t301 ≥ t289 then (laws_FnRainMeasured.j1 kj11 l1 t289 t290 t293 t305 t306 bt311.1 bt311.2.1 t314 true) else (if bt311.2.2 = true then (if t314 < bt311.1 then (laws_FnRainMeasured.j1 kj11 l1 t289 t290 t293 t305 t306 bt311.1 bt311.2.1 t314 true) else (if t314 > bt311.2.1 then (laws_FnRainMeasured.j1 kj11 l1 t289 t290 t293 t305 t306 bt311.1 bt311.2.1 t314 true) else (laws_FnRainMeasured.j1 kj11 l1 t289 t290 t293 t305 t306 bt311.1 bt311.2.1 t314 ((wrap64 (bt311.2.1 - bt311.1)) != (wrap64 (t289 - 1)))))) else (laws_FnRainMeasured.j1 kj11 l1 t289 t290 t293 t305 t306 bt311.1 bt311.2.1 t314 true)))) else (laws_FnRainMeasured.j1 kj11 l1 t289 t290 t293 t305 t306 bt311.1 bt311.2.1 t314 true))) else (laws_FnRainMeasured.j1 kj11 l1 t289 t290 t293 t305 t306 bt311.1 bt311.2.1 t314 true)))) else (laws_FnRainMeasured.j3 kj11 l1)) = some r := by rw [if_neg (show ¬ (false = true) by decide)] at H; exact H
    clear H
    have H := H1
    clear H1
    have HC35 := Aside0.mk H
    clear H
    go_upto_if 140 with (fail)
    refine cutF (rl [4, 1, 14, 9, 24, 329] false) (fun u_ wc => ∃ (kq : Nat), Aside0 (laws_FnRainMeasured.j3 kq l1 = some r) ∧ Aside0 (kq ≤ kj11) ∧ Aside0 (Below w.heap.size w wc)) ?first4 ?rest4
    case first4 =>
     as_aux_lemma =>
      intro J_ K_ hJ_ hK_
      have H := HC35.out
      clear HC35
      by_cases c36 : t294 = true
      rotate_left
      ·replace c36 := Bool.eq_false_iff.mpr c36
       subst c36
       have H1 : (laws_FnRainMeasured.j3 kj11 l1) = some r := by rw [if_neg (show ¬ (false = true) by decide)] at H; exact H
       clear H
       have H := H1
       clear H1
       have H' := Aside0.mk H
       clear H
       go_wp2
       (refine Met.intro ?_; go_step; refine Cut_mk (by kernel_rfl) ?rel5)
       case rel5 => exact ⟨_, H', ⟨by have := HJ11.out; first | omega | exact Nat.le_refl _⟩, ⟨bw HB⟩⟩
      subst c36
      have H1 : ((impl_RangeOfTips.f kj11 t289 t293).bind fun bt311 => ((laws_eSum.f kj11 t290).bind fun t314 => (if (t293.length : Int) = (t290.length : Int) then ((laws_eSum.f kj11 t293).bind fun t315 => (if (wrap64 ((wrap64 (t315 * t289)) + t301)) = t314 then (if t301 < 0 then (laws_FnRainMeasured.j1 kj11 l1 t289 t290 t293 t305 t306 bt311.1 bt311.2.1 t314 true) else (if t301 ≥ t289 then (laws_FnRainMeasured.j1 kj11 l1 t289 t290 t293 t305 t306 bt311.1 bt311.2.1 t314 true) else (if bt311.2.2 = true then (if t314 < bt311.1 then (laws_FnRainMeasured.j1 kj11 l1 t289 t290 t293 t305 t306 bt311.1 bt311.2.1 t314 true) else (if t314 > bt311.2.1 then (laws_FnRainMeasured.j1 kj11 l1 t289 t290 t293 t305 t306 bt311.1 bt311.2.1 t314 true) else (laws_FnRainMeasured.j1 kj11 l1 t289 t290 t293 t305 t306 bt311.1 bt311.2.1 t314 ((wrap64 (bt311.2.1 - bt311.1)) != (wrap64 (t289 - 1)))))) else (laws_FnRainMeasured.j1 kj11 l1 t289 t290 t293 t305 t306 bt311.1 bt311.2.1 t314 true)))) else (laws_FnRainMeasured.j1 kj11 l1 t289 t290 t293 t305 t306 bt311.1 bt311.2.1 t314 true))) else (laws_FnRainMeasured.j1 kj11 l1 t289 t290 t293 t305 t306 bt311.1 bt311.2.1 t314 true)))) = some r := by rw [if_pos rfl] at H; exact H
      clear H
      have H := H1
      clear H1
      replace H := Option.bind_eq_some_iff.mp H
      obtain ⟨⟨t311, t312, t313⟩, A370, H⟩ := H
      replace H : ((laws_eSum.f kj11 t290).bind fun t314 => (if (t293.length : Int) = (t290.length : Int) then ((laws_eSum.f kj11 t293).bind fun t315 => (if (wrap64 ((wrap64 (t315 * t289)) + t301)) = t314 then (if t301 < 0 then (laws_FnRainMeasured.j1 kj11 l1 t289 t290 t293 t305 t306 t311 t312 t314 true) else (if t301 ≥ t289 then (laws_FnRainMeasured.j1 kj11 l1 t289 t290 t293 t305 t306 t311 t312 t314 true) else (if t313 = true then (if t314 < t311 then (laws_FnRainMeasured.j1 kj11 l1 t289 t290 t293 t305 t306 t311 t312 t314 true) else (if t314 > t312 then (laws_FnRainMeasured.j1 kj11 l1 t289 t290 t293 t305 t306 t311 t312 t314 true) else (laws_FnRainMeasured.j1 kj11 l1 t289 t290 t293 t305 t306 t311 t312 t314 ((wrap64 (t312 - t311)) != (wrap64 (t289 - 1)))))) else (laws_FnRainMeasured.j1 kj11 l1 t289 t290 t293 t305 t306 t311 t312 t314 true)))) else (laws_FnRainMeasured.j1 kj11 l1 t289 t290 t293 t305 t306 t311 t312 t314 true))) else (laws_FnRainMeasured.j1 kj11 l1 t289 t290 t293 t305 t306 t311 t312 t314 true))) = some r := H
      have A37 := Aside0.mk A370
      clear A370
      replace H := Option.bind_eq_some_iff.mp H
      obtain ⟨t314, A380, H⟩ := H
      replace H : (if (t293.length : Int) = (t290.length : Int) then ((laws_eSum.f kj11 t293).bind fun t315 => (if (wrap64 ((wrap64 (t315 * t289)) + t301)) = t314 then (if t301 < 0 then (laws_FnRainMeasured.j1 kj11 l1 t289 t290 t293 t305 t306 t311 t312 t314 true) else (if t301 ≥ t289 then (laws_FnRainMeasured.j1 kj11 l1 t289 t290 t293 t305 t306 t311 t312 t314 true) else (if t313 = true then (if t314 < t311 then (laws_FnRainMeasured.j1 kj11 l1 t289 t290 t293 t305 t306 t311 t312 t314 true) else (if t314 > t312 then (laws_FnRainMeasured.j1 kj11 l1 t289 t290 t293 t305 t306 t311 t312 t314 true) else (laws_FnRainMeasured.j1 kj11 l1 t289 t290 t293 t305 t306 t311 t312 t314 ((wrap64 (t312 - t311)) != (wrap64 (t289 - 1)))))) else (laws_FnRainMeasured.j1 kj11 l1 t289 t290 t293 t305 t306 t311 t312 t314 true)))) else (laws_FnRainMeasured.j1 kj11 l1 t289 t290 t293 t305 t306 t311 t312 t314 true))) else (laws_FnRainMeasured.j1 kj11 l1 t289 t290 t293 t305 t306 t311 t312 t314 true)) = some r := H
      have A38 := Aside0.mk A380
      clear A380
      have HC39 := Aside0.mk H
      clear H
      obtain ⟨Ao40, co40, eo40⟩ := Kd.R_slice HO_7.out
      subst eo40
      go_upto_region 15 with (first | ((with_reducible refine gate_callee (f := 62) rfl ?_); refine gl 144 Try.func62 #[.int .i64 t289, .slice Ao40 t293.length co40] ?_; (with_reducible refine (impl_RangeOfTips.calls kj11 t289 _ _ t293 t311 t312 t313 _ ?side1 ?side2 A37.out).mono ?_); (case side1 => exact cr HO_7); (case side2 => exact (Kd.R_reads' HO_7.out).2.1); rintro e w41 ⟨rfl, hb⟩; refine ⟨_, rfl, ?_⟩; replace HO_6 := rb HO_6 hb; replace HO_7 := rb HO_7 hb; replace HB := bs HB hb; (try clear hb)) | ((with_reducible refine gate_callee (f := 61) rfl ?_); refine gl 149 Try.func61 #[.slice Ao14 t290.length co14] ?_; (with_reducible refine (laws_eSum.calls kj11 _ _ t290 t314 _ ?side1 ?side2 A38.out).mono ?_); (case side1 => exact cr HO_6); (case side2 => exact (Kd.R_reads' HO_6.out).2.1); rintro e w' ⟨rfl, ⟨nd, rfl⟩⟩; refine ⟨_, rfl, ?_⟩))
      (try simp only [Act.put, List.setIfInBounds_toArray, List.set_cons_zero, List.set_cons_succ])
      refine cutF (rl [52, 329] false) (fun u_ wc => ∃ (kq : Nat) (x195_38 : Bool), (u_ 195) = .bool x195_38 ∧ Aside0 (laws_FnRainMeasured.j1 kq l1 t289 t290 t293 t305 t306 t311 t312 t314 x195_38 = some r) ∧ Aside0 (kq ≤ kj11) ∧ Aside0 (Kd.R (Kd.int .i64) 3 wc w.heap.size (fun k_ => some k_ ≠ ((.slice Ao40 t293.length co40) : Value).ownBlock) (.slice Ao14 t290.length co14) t290) ∧ Aside0 (Kd.R (Kd.int .i64) 3 wc w.heap.size (fun k_ => some k_ ≠ ((.slice Ao14 t290.length co14) : Value).ownBlock) (.slice Ao40 t293.length co40) t293) ∧ Aside0 (Below w.heap.size w wc)) ?first6 ?rest6
      case first6 =>
       as_aux_lemma =>
        intro J_ K_ hJ_ hK_
        have H := HC39.out
        clear HC39
        by_cases c42 : (t293.length : Int) = (t290.length : Int)
        rotate_left
        ·rw [if_neg c42] at H
         have c42b0 : ((t293.length : Int) == (t290.length : Int)) = false := beq_eq_false_iff_ne.mpr c42
         have c42b1 : ((t293.length : Int) != (t290.length : Int)) = true := bne_iff_ne.mpr c42
         have c42b2 : (t293.length == t290.length) = false := by first | simpa using c42 | (simp at c42 ⊢; omega)
         (first | rw [c42b0] | (simp only [i64_w, i32_w]; rw [c42b0]) | skip)
         exact absurd H (by rw [hrt.out]; cases kj11 <;> simp [laws_FnRainMeasured.j1])
        rw [if_pos c42] at H
        have c42b0 : ((t293.length : Int) == (t290.length : Int)) = true := beq_iff_eq.mpr c42
        have c42b1 : ((t293.length : Int) != (t290.length : Int)) = false := bne_eq_false_iff_eq.mpr c42
        have c42b2 : (t293.length == t290.length) = true := by first | simpa using c42 | (simp at c42 ⊢; omega)
        clear c42
        (first | rw [c42b0] | (simp only [i64_w, i32_w]; rw [c42b0]) | skip)
        replace H := Option.bind_eq_some_iff.mp H
        obtain ⟨t315, A430, H⟩ := H
        replace H : (if (wrap64 ((wrap64 (t315 * t289)) + t301)) = t314 then (if t301 < 0 then (laws_FnRainMeasured.j1 kj11 l1 t289 t290 t293 t305 t306 t311 t312 t314 true) else (if t301 ≥ t289 then (laws_FnRainMeasured.j1 kj11 l1 t289 t290 t293 t305 t306 t311 t312 t314 true) else (if t313 = true then (if t314 < t311 then (laws_FnRainMeasured.j1 kj11 l1 t289 t290 t293 t305 t306 t311 t312 t314 true) else (if t314 > t312 then (laws_FnRainMeasured.j1 kj11 l1 t289 t290 t293 t305 t306 t311 t312 t314 true) else (laws_FnRainMeasured.j1 kj11 l1 t289 t290 t293 t305 t306 t311 t312 t314 ((wrap64 (t312 - t311)) != (wrap64 (t289 - 1)))))) else (laws_FnRainMeasured.j1 kj11 l1 t289 t290 t293 t305 t306 t311 t312 t314 true)))) else (laws_FnRainMeasured.j1 kj11 l1 t289 t290 t293 t305 t306 t311 t312 t314 true)) = some r := H
        have A43 := Aside0.mk A430
        clear A430
        by_cases c44 : (wrap64 ((wrap64 (t315 * t289)) + t301)) = t314
        rotate_left
        ·rw [if_neg c44] at H
         have c44b0 : ((wrap64 ((wrap64 (t315 * t289)) + t301)) == t314) = false := beq_eq_false_iff_ne.mpr c44
         have c44b1 : ((wrap64 ((wrap64 (t315 * t289)) + t301)) != t314) = true := bne_iff_ne.mpr c44
         exact absurd H (by rw [hrt.out]; cases kj11 <;> simp [laws_FnRainMeasured.j1])
        rw [if_pos c44] at H
        have c44b0 : ((wrap64 ((wrap64 (t315 * t289)) + t301)) == t314) = true := beq_iff_eq.mpr c44
        have c44b1 : ((wrap64 ((wrap64 (t315 * t289)) + t301)) != t314) = false := bne_eq_false_iff_eq.mpr c44
        clear c44
        by_cases c45 : t301 < 0
        ·rw [if_pos c45] at H
         have c45b0 : decide (t301 < 0) = true := decide_eq_true c45
         clear c45
         exact absurd H (by rw [hrt.out]; cases kj11 <;> simp [laws_FnRainMeasured.j1])
        rw [if_neg c45] at H
        have c45b0 : decide (t301 < 0) = false := decide_eq_false c45
        clear c45
        by_cases c46 : t301 ≥ t289
        ·rw [if_pos c46] at H
         have c46b0 : decide (t289 ≤ t301) = true := decide_eq_true c46
         clear c46
         exact absurd H (by rw [hrt.out]; cases kj11 <;> simp [laws_FnRainMeasured.j1])
        rw [if_neg c46] at H
        have c46b0 : decide (t289 ≤ t301) = false := decide_eq_false c46
        clear c46
        by_cases c47 : t313 = true
        rotate_left
        ·replace c47 := Bool.eq_false_iff.mpr c47
         subst c47
         have H1 : (laws_FnRainMeasured.j1 kj11 l1 t289 t290 t293 t305 t306 t311 t312 t314 true) = some r := by rw [if_neg (show ¬ (false = true) by decide)] at H; exact H
         clear H
         have H := H1
         clear H1
         exact absurd H (by rw [hrt.out]; cases kj11 <;> simp [laws_FnRainMeasured.j1])
        subst c47
        have H1 : (if t314 < t311 then (laws_FnRainMeasured.j1 kj11 l1 t289 t290 t293 t305 t306 t311 t312 t314 true) else (if t314 > t312 then (laws_FnRainMeasured.j1 kj11 l1 t289 t290 t293 t305 t306 t311 t312 t314 true) else (laws_FnRainMeasured.j1 kj11 l1 t289 t290 t293 t305 t306 t311 t312 t314 ((wrap64 (t312 - t311)) != (wrap64 (t289 - 1)))))) = some r := by rw [if_pos rfl] at H; exact H
        clear H
        have H := H1
        clear H1
        by_cases c48 : t314 < t311
        ·rw [if_pos c48] at H
         have c48b0 : decide (t314 < t311) = true := decide_eq_true c48
         clear c48
         exact absurd H (by rw [hrt.out]; cases kj11 <;> simp [laws_FnRainMeasured.j1])
        rw [if_neg c48] at H
        have c48b0 : decide (t314 < t311) = false := decide_eq_false c48
        clear c48
        by_cases c49 : t314 > t312
        ·rw [if_pos c49] at H
         have c49b0 : decide (t312 < t314) = true := decide_eq_true c49
         clear c49
         exact absurd H (by rw [hrt.out]; cases kj11 <;> simp [laws_FnRainMeasured.j1])
        rw [if_neg c49] at H
        have c49b0 : decide (t312 < t314) = false := decide_eq_false c49
        clear c49
        have H' := Aside0.mk H
        clear H
        go_wp2_with (first | (go_at_call 61; (with_reducible refine (laws_eSum.calls kj11 _ _ t293 t315 _ ?side1 ?side2 A43.out).mono ?_); (case side1 => exact cr HO_7); (case side2 => exact (Kd.R_reads' HO_7.out).2.1); rintro e w' ⟨rfl, ⟨nd, rfl⟩⟩))
        (refine Met.intro ?_; go_step; refine Cut_mk (by kernel_rfl) ?rel7)
        case rel7 => exact ⟨_, (((wrap64 (t312 - t311)) != (wrap64 (t289 - 1)))), (by first | rfl | (simp; done) | (simp [*]; done)), H', ⟨by have := HJ11.out; first | omega | exact Nat.le_refl _⟩, ⟨rk HO_6⟩, ⟨rk HO_7⟩, ⟨bw HB⟩⟩
      case rest6 =>
       as_aux_lemma =>
        intro u_ wc hcut l_ hl_; (simp only [rl, List.reduceReplicate, List.cons_append, List.nil_append, List.append_nil, Bool.not_true, Bool.not_false, fu, Nat.reduceAdd] at hl_); subst hl_; generalize u_ 195 = v195 at hcut ⊢
        clear HC39
        try clear c1
        try clear c2
        try clear p2
        try clear c3
        try clear c4
        try clear c5
        try clear c6
        try clear p6
        try clear c10
        try clear c20
        try clear c20b0
        try clear c20b1
        try clear c20b2
        try clear c22
        try clear c23
        try clear c23b0
        try clear c23b1
        try clear c23b2
        try clear c24
        try clear c24b0
        try clear c24b1
        try clear c25
        try clear c25b0
        try clear c25b1
        try clear c25b2
        try clear c26
        try clear c26b0
        try clear c26b1
        try clear c27
        try clear c27b0
        try clear c27b1
        try clear c27b2
        try clear c28
        try clear c34
        try clear c36
        try clear c42
        try clear c42b0
        try clear c42b1
        try clear c42b2
        try clear c44
        try clear c44b0
        try clear c44b1
        try clear c45
        try clear c45b0
        try clear c46
        try clear c46b0
        try clear c47
        try clear c48
        try clear c48b0
        try clear c49
        try clear c49b0
        try clear p2
        obtain ⟨kq, x195_38, rfl, HA, HJ38, HO_6, HO_7, HB⟩ := hcut
        cases kq with
        | zero => exact absurd HA.out (by simp [laws_FnRainMeasured.j1])
        | succ kj38 =>
         have H := HA.out
         clear HA
         simp only [laws_FnRainMeasured.j1] at H
         by_cases c50 : x195_38 = true
         ·subst c50
          have H1 : (some false) = some r := by rw [if_pos rfl] at H; exact H
          clear H
          have H := H1
          clear H1
          exact absurd ((Option.some.inj H).trans hrt.out) (by decide)
         replace c50 := Bool.eq_false_iff.mpr c50
         subst c50
         have H1 : (if t306 = true then (if 0 ≤ (wrap64 (t305 - 1)) then (if (wrap64 (t305 - 1)) < (t293.length : Int) then (if (rd t293 (wrap64 (t305 - 1))) = 0 then (laws_FnRainMeasured.j2 kj38 l1 t289 t290 t293 t311 t312 t314 true) else (if (wrap64 (t305 - 1)) ≤ (t293.length : Int) then ((laws_eSum.f kj38 (t293.take ((wrap64 (t305 - 1)) : Int).toNat)).bind fun t321 => (laws_FnRainMeasured.j2 kj38 l1 t289 t290 t293 t311 t312 t314 (t321 != 0))) else (none))) else (none)) else (none)) else (laws_FnRainMeasured.j2 kj38 l1 t289 t290 t293 t311 t312 t314 false)) = some r := by rw [if_neg (show ¬ (false = true) by decide)] at H; exact H
         clear H
         have H := H1
         clear H1
         have HC51 := Aside0.mk H
         clear H
         go_upto_region 17 with (fail)
         refine cutF (rl [52, 329] false) (fun u_ wc => ∃ (kq : Nat) (x212_50 : Bool), (u_ 212) = .bool x212_50 ∧ Aside0 (laws_FnRainMeasured.j2 kq l1 t289 t290 t293 t311 t312 t314 x212_50 = some r) ∧ Aside0 (kq ≤ kj38) ∧ Aside0 (Kd.R (Kd.int .i64) 3 wc w.heap.size (fun k_ => some k_ ≠ ((.slice Ao40 t293.length co40) : Value).ownBlock) (.slice Ao14 t290.length co14) t290) ∧ Aside0 (Kd.R (Kd.int .i64) 3 wc w.heap.size (fun k_ => some k_ ≠ ((.slice Ao14 t290.length co14) : Value).ownBlock) (.slice Ao40 t293.length co40) t293) ∧ Aside0 (Below w.heap.size w wc)) ?first8 ?rest8
         case first8 =>
          as_aux_lemma =>
           intro J_ K_ hJ_ hK_
           have H := HC51.out
           clear HC51
           by_cases c52 : t306 = true
           rotate_left
           ·replace c52 := Bool.eq_false_iff.mpr c52
            subst c52
            have H1 : (laws_FnRainMeasured.j2 kj38 l1 t289 t290 t293 t311 t312 t314 false) = some r := by rw [if_neg (show ¬ (false = true) by decide)] at H; exact H
            clear H
            have H := H1
            clear H1
            have H' := Aside0.mk H
            clear H
            go_wp2
            (refine Met.intro ?_; go_step; refine Cut_mk (by kernel_rfl) ?rel9)
            case rel9 => exact ⟨_, (false), (by first | rfl | (simp; done) | (simp [*]; done)), H', ⟨by have := HJ11.out; have := HJ38.out; first | omega | exact Nat.le_refl _⟩, ⟨rk HO_6⟩, ⟨rk HO_7⟩, ⟨bw HB⟩⟩
           subst c52
           have H1 : (if 0 ≤ (wrap64 (t305 - 1)) then (if (wrap64 (t305 - 1)) < (t293.length : Int) then (if (rd t293 (wrap64 (t305 - 1))) = 0 then (laws_FnRainMeasured.j2 kj38 l1 t289 t290 t293 t311 t312 t314 true) else (if (wrap64 (t305 - 1)) ≤ (t293.length : Int) then ((laws_eSum.f kj38 (t293.take ((wrap64 (t305 - 1)) : Int).toNat)).bind fun t321 => (laws_FnRainMeasured.j2 kj38 l1 t289 t290 t293 t311 t312 t314 (t321 != 0))) else (none))) else (none)) else (none)) = some r := by rw [if_pos rfl] at H; exact H
           clear H
           have H := H1
           clear H1
           obtain ⟨ji53, hji53⟩ : ∃ j_ : Int, (wrap64 (t305 - 1)) = j_ := ⟨_, rfl⟩
           replace H : (if 0 ≤ (ji53) then (if (ji53) < (t293.length : Int) then (if (rd t293 (ji53)) = 0 then (laws_FnRainMeasured.j2 kj38 l1 t289 t290 t293 t311 t312 t314 true) else (if (ji53) ≤ (t293.length : Int) then ((laws_eSum.f kj38 (t293.take ((ji53) : Int).toNat)).bind fun t321 => (laws_FnRainMeasured.j2 kj38 l1 t289 t290 t293 t311 t312 t314 (t321 != 0))) else (none))) else (none)) else (none)) = some r := by first | (rw [hji53] at H; exact H) | (simp only [hji53] at H ⊢; exact H)
           have hji53w : (IntKind.i64.wrap (t305 - 1)) = ji53 := (i64_w _).trans hji53
           by_cases c54 : 0 ≤ (ji53)
           rotate_left
           ·rw [if_neg c54] at H
            exact absurd H (by simp)
           rw [if_pos c54] at H
           have c54b0 : decide (0 ≤ (ji53)) = true := decide_eq_true c54
           clear c54
           (first | rw [c54b0] | (simp only [i64_w, i32_w]; rw [c54b0]) | skip)
           by_cases c55 : (ji53) < (t293.length : Int)
           rotate_left
           ·rw [if_neg c55] at H
            exact absurd H (by simp)
           rw [if_pos c55] at H
           have c55b0 : decide ((ji53) < (t293.length : Int)) = true := decide_eq_true c55
           clear c55
           by_cases c56 : (rd t293 (ji53)) = 0
           ·rw [if_pos c56] at H
            have c56b0 : ((rd t293 (ji53)) == 0) = true := beq_iff_eq.mpr c56
            have c56b1 : ((rd t293 (ji53)) != 0) = false := bne_eq_false_iff_eq.mpr c56
            clear c56
            exact absurd H (by rw [hrt.out]; cases kj38 <;> simp [laws_FnRainMeasured.j2])
           rw [if_neg c56] at H
           have c56b0 : ((rd t293 (ji53)) == 0) = false := beq_eq_false_iff_ne.mpr c56
           have c56b1 : ((rd t293 (ji53)) != 0) = true := bne_iff_ne.mpr c56
           have c57b0 := eq_true (of_decide_eq_true (by first | (with_reducible assumption) | assumption) : 0 ≤ (ji53))
           by_cases c58 : (ji53) ≤ (t293.length : Int)
           rotate_left
           ·rw [if_neg c58] at H
            exact absurd H (by simp)
           rw [if_pos c58] at H
           have c58b0 := eq_true c58
           have c58b1 : decide ((ji53) ≤ (t293.length : Int)) = true := decide_eq_true c58
           clear c58
           obtain ⟨y317, hy317⟩ : ∃ y_ : List Int, y_ = (t293.take ((ji53) : Int).toNat) := ⟨_, rfl⟩
           replace H : ((laws_eSum.f kj38 y317).bind fun t321 => (laws_FnRainMeasured.j2 kj38 l1 t289 t290 t293 t311 t312 t314 (t321 != 0))) = some r := by first | (rw [hy317]; with_reducible exact H) | (have H2_ := (Option.bind_some _ _).symm.trans H; rw [hy317]; with_reducible exact H2_) | (have H2_ := (Option.bind_some _ _).symm.trans H; with_reducible exact H2_) | with_reducible exact H | (rw [hy317]; exact H) | exact H
           have Ny317 := Aside0.mk hy317
           clear hy317
           replace H := Option.bind_eq_some_iff.mp H
           obtain ⟨t321, A590, H⟩ := H
           replace H : (laws_FnRainMeasured.j2 kj38 l1 t289 t290 t293 t311 t312 t314 (t321 != 0)) = some r := H
           have A59 := Aside0.mk A590
           clear A590
           have H' := Aside0.mk H
           clear H
           have p316 : 0 ≤ ((ji53) : Int) := of_decide_eq_true (by first | (with_reducible assumption) | assumption)
           have q316 : (ji53) < (t293.length : Int) := of_decide_eq_true (by first | (with_reducible assumption) | assumption)
           obtain ⟨ad316, e316, hx316_0⟩ := Kd.at_int (Kd.R_reads' HO_7.out).2.2 (ji53) p316 q316
           cases e316
           replace p316 := eq_true p316
           replace q316 := eq_true q316
           have q60 : ((ji53) : Int) ≤ ((t293.length : Int) : Int) := of_decide_eq_true (by first | (with_reducible assumption) | assumption)
           obtain ⟨i060, hi060, _, hsz60, _⟩ := info_parts info3
           have hroom60 : t293.length ≤ co40 := (Kd.R_reads' HO_7.out).2.1
           have hC60 : Kd.C (Kd.int .i64) _ (some ad316) t293.length t293 := (Kd.R_reads' HO_7.out).2.2
           have hcut60 := cut_to (P := Try.prog) 34 3 .i64 Try.underlying34 hi060 (some ad316) t293.length co40 (ji53) (of_decide_eq_true (by first | (with_reducible assumption) | assumption)) q60 hroom60
           have hr60 := Kd.C_take (m := ((ji53) : Int).toNat) hC60 (by omega)
           have hy60 : y317.length = ((ji53) : Int).toNat := (by rw [Ny317.out, List.length_take]; omega)
           rw [← Ny317.out] at hr60
           rw [← hy60] at hcut60
           have HR320 := Aside0.mk hr60
           have HC320 := Aside0.mk (show y317.length ≤ co40 from by omega)
           clear hr60 hC60 hroom60 hi060 hsz60
           have KY60 := Aside0.mk hy60
           clear hy60
           have KL60 := Aside0.mk (show ((ji53) : Int).toNat ≤ t293.length from by omega)
           replace q60 := eq_true q60
           go_wp2_with (first | (go_at_call 61; (with_reducible refine (laws_eSum.calls kj38 _ _ y317 t321 _ ?side1 ?side2 A59.out).mono ?_); (case side1 => repeat (first | exact (by repeat (first | (with_reducible exact HR320.out) | (with_reducible refine Kd.C_alloc ?_ _) | (with_reducible refine Kd.C_drewN ?_ _) | (with_reducible refine Kd.C_drew ?_) | exact HR320.out)) | (with_reducible refine Kd.C_alloc ?_ _) | (with_reducible refine Kd.C_drewN ?_ _) | (with_reducible refine Kd.C_drew ?_))); (case side2 => exact HC320.out); rintro e w' ⟨rfl, ⟨nd, rfl⟩⟩))
           (refine Met.intro ?_; go_step; refine Cut_mk (by kernel_rfl) ?rel10)
           case rel10 => exact ⟨_, ((t321 != 0)), (by first | rfl | (simp; done) | (simp [*]; done)), H', ⟨by have := HJ11.out; have := HJ38.out; first | omega | exact Nat.le_refl _⟩, ⟨rk HO_6⟩, ⟨rk HO_7⟩, ⟨bw HB⟩⟩
         case rest8 =>
          as_aux_lemma =>
           intro u_ wc hcut l_ hl_; (simp only [rl, List.reduceReplicate, List.cons_append, List.nil_append, List.append_nil, Bool.not_true, Bool.not_false, fu, Nat.reduceAdd] at hl_); subst hl_; generalize u_ 212 = v212 at hcut ⊢
           clear HC51
           try clear c1
           try clear c2
           try clear p2
           try clear c3
           try clear p3
           try clear q3
           try clear hx3
           try clear c4
           try clear c5
           try clear c6
           try clear p6
           try clear q6
           try clear c10
           try clear c20
           try clear c20b0
           try clear c20b1
           try clear c20b2
           try clear c22
           try clear c23
           try clear c23b0
           try clear c23b1
           try clear c23b2
           try clear c24
           try clear c24b0
           try clear c24b1
           try clear c25
           try clear c25b0
           try clear c25b1
           try clear c25b2
           try clear c26
           try clear c26b0
           try clear c26b1
           try clear c27
           try clear c27b0
           try clear c27b1
           try clear c27b2
           try clear c28
           try clear p31
           try clear q31
           try clear hx31
           try clear c34
           try clear c36
           try clear c42
           try clear c42b0
           try clear c42b1
           try clear c42b2
           try clear c44
           try clear c44b0
           try clear c44b1
           try clear c45
           try clear c45b0
           try clear c46
           try clear c46b0
           try clear c47
           try clear c48
           try clear c48b0
           try clear c49
           try clear c49b0
           try clear c50
           try clear c52
           try clear c54
           try clear c54b0
           try clear c55
           try clear c55b0
           try clear c56
           try clear c56b0
           try clear c56b1
           try clear c57
           try clear c57b0
           try clear c58
           try clear c58b0
           try clear c58b1
           try clear c59
           try clear c60
           try clear q60
           try clear hx316_0
           try clear p2
           try clear p316
           try clear p6
           try clear q316
           try clear q60
           obtain ⟨kq, x212_50, rfl, HA, HJ50, HO_6, HO_7, HB⟩ := hcut
           cases kq with
           | zero => exact absurd HA.out (by simp [laws_FnRainMeasured.j2])
           | succ kj50 =>
            have H := HA.out
            clear HA
            simp only [laws_FnRainMeasured.j2] at H
            by_cases c61 : x212_50 = true
            ·subst c61
             have H1 : (some false) = some r := by rw [if_pos rfl] at H; exact H
             clear H
             have H := H1
             clear H1
             exact absurd ((Option.some.inj H).trans hrt.out) (by decide)
            replace c61 := Bool.eq_false_iff.mpr c61
            subst c61
            have H1 : ((impl_TipsOfRain.f kj50 7 t290).bind fun bt322 => ((impl_RangeOfTwo.f kj50 t289 7 t293 bt322.1).bind fun bt326 => (if bt322.2 = true then (if bt326.2.2 = true then (if t314 < bt326.1 then (some false) else (if t314 > bt326.2.1 then (some false) else (if bt326.1 < t311 then (some false) else (if bt326.2.1 > t312 then (some false) else (laws_FnRainMeasured.j3 kj50 l1))))) else (some false)) else (some false)))) = some r := by rw [if_neg (show ¬ (false = true) by decide)] at H; exact H
            clear H
            have H := H1
            clear H1
            replace H := Option.bind_eq_some_iff.mp H
            obtain ⟨⟨t322, t323⟩, A620, H⟩ := H
            replace H : ((impl_RangeOfTwo.f kj50 t289 7 t293 t322).bind fun bt326 => (if t323 = true then (if bt326.2.2 = true then (if t314 < bt326.1 then (some false) else (if t314 > bt326.2.1 then (some false) else (if bt326.1 < t311 then (some false) else (if bt326.2.1 > t312 then (some false) else (laws_FnRainMeasured.j3 kj50 l1))))) else (some false)) else (some false))) = some r := H
            have A62 := Aside0.mk A620
            clear A620
            replace H := Option.bind_eq_some_iff.mp H
            obtain ⟨⟨t326, t327, t328⟩, A630, H⟩ := H
            replace H : (if t323 = true then (if t328 = true then (if t314 < t326 then (some false) else (if t314 > t327 then (some false) else (if t326 < t311 then (some false) else (if t327 > t312 then (some false) else (laws_FnRainMeasured.j3 kj50 l1))))) else (some false)) else (some false)) = some r := H
            have A63 := Aside0.mk A630
            clear A630
            by_cases c64 : t323 = true
            rotate_left
            ·replace c64 := Bool.eq_false_iff.mpr c64
             subst c64
             have H1 : (some false) = some r := by rw [if_neg (show ¬ (false = true) by decide)] at H; exact H
             clear H
             have H := H1
             clear H1
             exact absurd ((Option.some.inj H).trans hrt.out) (by decide)
            subst c64
            have H1 : (if t328 = true then (if t314 < t326 then (some false) else (if t314 > t327 then (some false) else (if t326 < t311 then (some false) else (if t327 > t312 then (some false) else (laws_FnRainMeasured.j3 kj50 l1))))) else (some false)) = some r := by rw [if_pos rfl] at H; exact H
            clear H
            have H := H1
            clear H1
            by_cases c65 : t328 = true
            rotate_left
            ·replace c65 := Bool.eq_false_iff.mpr c65
             subst c65
             have H1 : (some false) = some r := by rw [if_neg (show ¬ (false = true) by decide)] at H; exact H
             clear H
             have H := H1
             clear H1
             exact absurd ((Option.some.inj H).trans hrt.out) (by decide)
            subst c65
            have H1 : (if t314 < t326 then (some false) else (if t314 > t327 then (some false) else (if t326 < t311 then (some false) else (if t327 > t312 then (some false) else (laws_FnRainMeasured.j3 kj50 l1))))) = some r := by rw [if_pos rfl] at H; exact H
            clear H
            have H := H1
            clear H1
            by_cases c66 : t314 < t326
            ·rw [if_pos c66] at H
             have c66b0 : decide (t314 < t326) = true := decide_eq_true c66
             clear c66
             exact absurd ((Option.some.inj H).trans hrt.out) (by decide)
            rw [if_neg c66] at H
            have c66b0 : decide (t314 < t326) = false := decide_eq_false c66
            clear c66
            by_cases c67 : t314 > t327
            ·rw [if_pos c67] at H
             have c67b0 : decide (t327 < t314) = true := decide_eq_true c67
             clear c67
             exact absurd ((Option.some.inj H).trans hrt.out) (by decide)
            rw [if_neg c67] at H
            have c67b0 : decide (t327 < t314) = false := decide_eq_false c67
            clear c67
            by_cases c68 : t326 < t311
            ·rw [if_pos c68] at H
             have c68b0 : decide (t326 < t311) = true := decide_eq_true c68
             clear c68
             exact absurd ((Option.some.inj H).trans hrt.out) (by decide)
            rw [if_neg c68] at H
            have c68b0 : decide (t326 < t311) = false := decide_eq_false c68
            clear c68
            by_cases c69 : t327 > t312
            ·rw [if_pos c69] at H
             have c69b0 : decide (t312 < t327) = true := decide_eq_true c69
             clear c69
             exact absurd ((Option.some.inj H).trans hrt.out) (by decide)
            rw [if_neg c69] at H
            have c69b0 : decide (t312 < t327) = false := decide_eq_false c69
            clear c69
            have H' := Aside0.mk H
            clear H
            go_wp2_with (first | ((with_reducible refine gate_callee (f := 55) rfl ?_); refine gl 215 Try.func55 #[.int .i64 7, .slice Ao14 t290.length co14] ?_; (with_reducible refine (impl_TipsOfRain.calls kj50 7 _ _ t290 t322 true _ ?side1 ?side2 A62.out).mono ?_); (case side1 => exact cr HO_6); (case side2 => exact (Kd.R_reads' HO_6.out).2.1); rintro e w70 ⟨v324, rfl, ho0, hb⟩; refine ⟨_, rfl, ?_⟩; have HO325 := Aside0.mk (Kd.R_lower (Kd.R_new' (Kd.R_new' ho0 (Kd.R_lt (rk HO_6))) (Kd.R_lt (rk HO_7))) (below_size (bw HB))); replace HO_6 := Aside0.mk (Kd.R_elder' (rk HO_6) (Kd.R_base ho0) hb); replace HO_7 := Aside0.mk (Kd.R_elder' (rk HO_7) (Kd.R_base ho0) hb); replace HB := bs HB hb; (try clear hb); (try clear ho0); obtain ⟨Ao71, co71, eo71⟩ := Kd.R_slice HO325.out; subst eo71) | ((with_reducible refine gate_callee (f := 63) rfl ?_); refine gl 222 Try.func63 #[.int .i64 t289, .int .i64 7, .slice Ao40 t293.length co40, .slice Ao71 t322.length co71] ?_; (with_reducible refine (impl_RangeOfTwo.calls kj50 t289 7 _ _ t293 _ _ t322 t326 t327 true _ ?side1 ?side2 ?side3 ?side4 A63.out).mono ?_); (case side1 => exact cr HO_7); (case side2 => exact (Kd.R_reads' HO_7.out).2.1); (case side3 => exact cr HO325); (case side4 => exact (Kd.R_reads' HO325.out).2.1); rintro e w72 ⟨rfl, hb⟩; refine ⟨_, rfl, ?_⟩; replace HO_6 := rb HO_6 hb; replace HO_7 := rb HO_7 hb; replace HO325 := rb HO325 hb; replace HB := bs HB hb; (try clear hb)))
            (refine Met.intro ?_; go_step; refine Cut_mk (by kernel_rfl) ?rel11)
            case rel11 => exact ⟨_, H', ⟨by have := HJ11.out; have := HJ38.out; have := HJ50.out; first | omega | exact Nat.le_refl _⟩, ⟨bw HB⟩⟩
    case rest4 =>
     as_aux_lemma =>
      intro u_ wc hcut l_ hl_; (simp only [rl, List.reduceReplicate, List.cons_append, List.nil_append, List.append_nil, Bool.not_true, Bool.not_false, fu, Nat.reduceAdd] at hl_); subst hl_
      clear HC35
      try clear c1
      try clear c2
      try clear p2
      try clear c3
      try clear p3
      try clear q3
      try clear hx3
      try clear c4
      try clear c5
      try clear c6
      try clear p6
      try clear q6
      try clear c10
      try clear c20
      try clear c20b0
      try clear c20b1
      try clear c20b2
      try clear c22
      try clear c23
      try clear c23b0
      try clear c23b1
      try clear c23b2
      try clear c24
      try clear c24b0
      try clear c24b1
      try clear c25
      try clear c25b0
      try clear c25b1
      try clear c25b2
      try clear c26
      try clear c26b0
      try clear c26b1
      try clear c27
      try clear c27b0
      try clear c27b1
      try clear c27b2
      try clear c28
      try clear p31
      try clear q31
      try clear hx31
      try clear c34
      try clear c36
      try clear c42
      try clear c42b0
      try clear c42b1
      try clear c42b2
      try clear c44
      try clear c44b0
      try clear c44b1
      try clear c45
      try clear c45b0
      try clear c46
      try clear c46b0
      try clear c47
      try clear c48
      try clear c48b0
      try clear c49
      try clear c49b0
      try clear c50
      try clear c52
      try clear c54
      try clear c54b0
      try clear c55
      try clear c55b0
      try clear c56
      try clear c56b0
      try clear c56b1
      try clear c57
      try clear c57b0
      try clear c58
      try clear c58b0
      try clear c58b1
      try clear c59
      try clear c60
      try clear q60
      try clear c61
      try clear c62
      try clear c63
      try clear c64
      try clear p64
      try clear c65
      try clear c66
      try clear c66b0
      try clear c67
      try clear c67b0
      try clear c68
      try clear c68b0
      try clear c69
      try clear c69b0
      try clear hx316_0
      try clear p2
      try clear p3
      try clear p31
      try clear p316
      try clear p6
      try clear q3
      try clear q31
      try clear q316
      try clear q6
      try clear q60
      obtain ⟨kq, HA, HJ34, HB⟩ := hcut
      cases kq with
      | zero => exact absurd HA.out (by simp [laws_FnRainMeasured.j3])
      | succ kj34 =>
       have H := HA.out
       clear HA
       simp only [laws_FnRainMeasured.j3] at H
       replace H := Option.bind_eq_some_iff.mp H
       obtain ⟨⟨t329, t330⟩, A730, H⟩ := H
       replace H : ((impl_RainOfTips.f kj34 t329 t330).bind fun bt333 => ((spec_RainOfTips.f kj34 t329 t330).bind fun bt337 => ((impl_RangeOfTips.f kj34 t329 t330).bind fun bt341 => ((spec_RangeOfTips.f kj34 t329 t330).bind fun bt344 => ((spec_DrawRangeOfTwo.f kj34 l1).bind fun bt347 => ((impl_RangeOfTwo.f kj34 bt347.1 bt347.2.1 bt347.2.2.1 bt347.2.2.2).bind fun bt355 => ((spec_RangeOfTwo.f kj34 bt347.1 bt347.2.1 bt347.2.2.1 bt347.2.2.2).bind fun bt358 => (if (bt333.2 != bt337.2) = true then (laws_FnRainMeasured.j4 kj34 t329 t330 bt333.1 bt333.2 bt341.1 true) else ((laws_eSame.f kj34 bt333.1 bt337.1).bind fun t361 => (if t361 = true then (if (bt341.2.2 != bt344.2.2) = true then (laws_FnRainMeasured.j4 kj34 t329 t330 bt333.1 bt333.2 bt341.1 true) else (if bt341.1 = bt344.1 then (if bt341.2.1 = bt344.2.1 then (if (bt355.2.2 != bt358.2.2) = true then (laws_FnRainMeasured.j4 kj34 t329 t330 bt333.1 bt333.2 bt341.1 true) else (if bt355.1 = bt358.1 then (if bt355.2.1 = bt358.2.1 then (if bt333.2 = true then (if bt341.2.2 = true then (if bt355.2.2 = true then (laws_FnRainMeasured.j4 kj34 t329 t330 bt333.1 bt333.2 bt341.1 (decide (bt355.1 > bt355.2.1))) else (laws_FnRainMeasured.j4 kj34 t329 t330 bt333.1 bt333.2 bt341.1 false)) else (laws_FnRainMeasured.j4 kj34 t329 t330 bt333.1 bt333.2 bt341.1 true)) else (if bt355.2.2 = true then (laws_FnRainMeasured.j4 kj34 t329 t330 bt333.1 bt333.2 bt341.1 (decide (bt355.1 > bt355.2.1))) else (laws_FnRainMeasured.j4 kj34 t329 t330 bt333.1 bt333.2 bt341.1 false))) else (laws_FnRainMeasured.j4 kj34 t329 t330 bt333.1 bt333.2 bt341.1 true)) else (laws_FnRainMeasured.j4 kj34 t329 t330 bt333.1 bt333.2 bt341.1 true))) else (laws_FnRainMeasured.j4 kj34 t329 t330 bt333.1 bt333.2 bt341.1 true)) else (laws_FnRainMeasured.j4 kj34 t329 t330 bt333.1 bt333.2 bt341.1 true))) else (laws_FnRainMeasured.j4 kj34 t329 t330 bt333.1 bt333.2 bt341.1 true))))))))))) = some r := H
       have A73 := Aside0.mk A730
       clear A730
       replace H := Option.bind_eq_some_iff.mp H
       obtain ⟨⟨t333, t334⟩, A740, H⟩ := H
       replace H : ((spec_RainOfTips.f kj34 t329 t330).bind fun bt337 => ((impl_RangeOfTips.f kj34 t329 t330).bind fun bt341 => ((spec_RangeOfTips.f kj34 t329 t330).bind fun bt344 => ((spec_DrawRangeOfTwo.f kj34 l1).bind fun bt347 => ((impl_RangeOfTwo.f kj34 bt347.1 bt347.2.1 bt347.2.2.1 bt347.2.2.2).bind fun bt355 => ((spec_RangeOfTwo.f kj34 bt347.1 bt347.2.1 bt347.2.2.1 bt347.2.2.2).bind fun bt358 => (if (t334 != bt337.2) = true then (laws_FnRainMeasured.j4 kj34 t329 t330 t333 t334 bt341.1 true) else ((laws_eSame.f kj34 t333 bt337.1).bind fun t361 => (if t361 = true then (if (bt341.2.2 != bt344.2.2) = true then (laws_FnRainMeasured.j4 kj34 t329 t330 t333 t334 bt341.1 true) else (if bt341.1 = bt344.1 then (if bt341.2.1 = bt344.2.1 then (if (bt355.2.2 != bt358.2.2) = true then (laws_FnRainMeasured.j4 kj34 t329 t330 t333 t334 bt341.1 true) else (if bt355.1 = bt358.1 then (if bt355.2.1 = bt358.2.1 then (if t334 = true then (if bt341.2.2 = true then (if bt355.2.2 = true then (laws_FnRainMeasured.j4 kj34 t329 t330 t333 t334 bt341.1 (decide (bt355.1 > bt355.2.1))) else (laws_FnRainMeasured.j4 kj34 t329 t330 t333 t334 bt341.1 false)) else (laws_FnRainMeasured.j4 kj34 t329 t330 t333 t334 bt341.1 true)) else (if bt355.2.2 = true then (laws_FnRainMeasured.j4 kj34 t329 t330 t333 t334 bt341.1 (decide (bt355.1 > bt355.2.1))) else (laws_FnRainMeasured.j4 kj34 t329 t330 t333 t334 bt341.1 false))) else (laws_FnRainMeasured.j4 kj34 t329 t330 t333 t334 bt341.1 true)) else (laws_FnRainMeasured.j4 kj34 t329 t330 t333 t334 bt341.1 true))) else (laws_FnRainMeasured.j4 kj34 t329 t330 t333 t334 bt341.1 true)) else (laws_FnRainMeasured.j4 kj34 t329 t330 t333 t334 bt341.1 true))) else (laws_FnRainMeasured.j4 kj34 t329 t330 t333 t334 bt341.1 true)))))))))) = some r := H
       have A74 := Aside0.mk A740
       clear A740
       replace H := Option.bind_eq_some_iff.mp H
       obtain ⟨⟨t337, t338⟩, A750, H⟩ := H
       replace H : ((impl_RangeOfTips.f kj34 t329 t330).bind fun bt341 => ((spec_RangeOfTips.f kj34 t329 t330).bind fun bt344 => ((spec_DrawRangeOfTwo.f kj34 l1).bind fun bt347 => ((impl_RangeOfTwo.f kj34 bt347.1 bt347.2.1 bt347.2.2.1 bt347.2.2.2).bind fun bt355 => ((spec_RangeOfTwo.f kj34 bt347.1 bt347.2.1 bt347.2.2.1 bt347.2.2.2).bind fun bt358 => (if (t334 != t338) = true then (laws_FnRainMeasured.j4 kj34 t329 t330 t333 t334 bt341.1 true) else ((laws_eSame.f kj34 t333 t337).bind fun t361 => (if t361 = true then (if (bt341.2.2 != bt344.2.2) = true then (laws_FnRainMeasured.j4 kj34 t329 t330 t333 t334 bt341.1 true) else (if bt341.1 = bt344.1 then (if bt341.2.1 = bt344.2.1 then (if (bt355.2.2 != bt358.2.2) = true then (laws_FnRainMeasured.j4 kj34 t329 t330 t333 t334 bt341.1 true) else (if bt355.1 = bt358.1 then (if bt355.2.1 = bt358.2.1 then (if t334 = true then (if bt341.2.2 = true then (if bt355.2.2 = true then (laws_FnRainMeasured.j4 kj34 t329 t330 t333 t334 bt341.1 (decide (bt355.1 > bt355.2.1))) else (laws_FnRainMeasured.j4 kj34 t329 t330 t333 t334 bt341.1 false)) else (laws_FnRainMeasured.j4 kj34 t329 t330 t333 t334 bt341.1 true)) else (if bt355.2.2 = true then (laws_FnRainMeasured.j4 kj34 t329 t330 t333 t334 bt341.1 (decide (bt355.1 > bt355.2.1))) else (laws_FnRainMeasured.j4 kj34 t329 t330 t333 t334 bt341.1 false))) else (laws_FnRainMeasured.j4 kj34 t329 t330 t333 t334 bt341.1 true)) else (laws_FnRainMeasured.j4 kj34 t329 t330 t333 t334 bt341.1 true))) else (laws_FnRainMeasured.j4 kj34 t329 t330 t333 t334 bt341.1 true)) else (laws_FnRainMeasured.j4 kj34 t329 t330 t333 t334 bt341.1 true))) else (laws_FnRainMeasured.j4 kj34 t329 t330 t333 t334 bt341.1 true))))))))) = some r := H
       have A75 := Aside0.mk A750
       clear A750
       replace H := Option.bind_eq_some_iff.mp H
       obtain ⟨⟨t341, t342, t343⟩, A760, H⟩ := H
       replace H : ((spec_RangeOfTips.f kj34 t329 t330).bind fun bt344 => ((spec_DrawRangeOfTwo.f kj34 l1).bind fun bt347 => ((impl_RangeOfTwo.f kj34 bt347.1 bt347.2.1 bt347.2.2.1 bt347.2.2.2).bind fun bt355 => ((spec_RangeOfTwo.f kj34 bt347.1 bt347.2.1 bt347.2.2.1 bt347.2.2.2).bind fun bt358 => (if (t334 != t338) = true then (laws_FnRainMeasured.j4 kj34 t329 t330 t333 t334 t341 true) else ((laws_eSame.f kj34 t333 t337).bind fun t361 => (if t361 = true then (if (t343 != bt344.2.2) = true then (laws_FnRainMeasured.j4 kj34 t329 t330 t333 t334 t341 true) else (if t341 = bt344.1 then (if t342 = bt344.2.1 then (if (bt355.2.2 != bt358.2.2) = true then (laws_FnRainMeasured.j4 kj34 t329 t330 t333 t334 t341 true) else (if bt355.1 = bt358.1 then (if bt355.2.1 = bt358.2.1 then (if t334 = true then (if t343 = true then (if bt355.2.2 = true then (laws_FnRainMeasured.j4 kj34 t329 t330 t333 t334 t341 (decide (bt355.1 > bt355.2.1))) else (laws_FnRainMeasured.j4 kj34 t329 t330 t333 t334 t341 false)) else (laws_FnRainMeasured.j4 kj34 t329 t330 t333 t334 t341 true)) else (if bt355.2.2 = true then (laws_FnRainMeasured.j4 kj34 t329 t330 t333 t334 t341 (decide (bt355.1 > bt355.2.1))) else (laws_FnRainMeasured.j4 kj34 t329 t330 t333 t334 t341 false))) else (laws_FnRainMeasured.j4 kj34 t329 t330 t333 t334 t341 true)) else (laws_FnRainMeasured.j4 kj34 t329 t330 t333 t334 t341 true))) else (laws_FnRainMeasured.j4 kj34 t329 t330 t333 t334 t341 true)) else (laws_FnRainMeasured.j4 kj34 t329 t330 t333 t334 t341 true))) else (laws_FnRainMeasured.j4 kj34 t329 t330 t333 t334 t341 true)))))))) = some r := H
       have A76 := Aside0.mk A760
       clear A760
       replace H := Option.bind_eq_some_iff.mp H
       obtain ⟨⟨t344, t345, t346⟩, A770, H⟩ := H
       replace H : ((spec_DrawRangeOfTwo.f kj34 l1).bind fun bt347 => ((impl_RangeOfTwo.f kj34 bt347.1 bt347.2.1 bt347.2.2.1 bt347.2.2.2).bind fun bt355 => ((spec_RangeOfTwo.f kj34 bt347.1 bt347.2.1 bt347.2.2.1 bt347.2.2.2).bind fun bt358 => (if (t334 != t338) = true then (laws_FnRainMeasured.j4 kj34 t329 t330 t333 t334 t341 true) else ((laws_eSame.f kj34 t333 t337).bind fun t361 => (if t361 = true then (if (t343 != t346) = true then (laws_FnRainMeasured.j4 kj34 t329 t330 t333 t334 t341 true) else (if t341 = t344 then (if t342 = t345 then (if (bt355.2.2 != bt358.2.2) = true then (laws_FnRainMeasured.j4 kj34 t329 t330 t333 t334 t341 true) else (if bt355.1 = bt358.1 then (if bt355.2.1 = bt358.2.1 then (if t334 = true then (if t343 = true then (if bt355.2.2 = true then (laws_FnRainMeasured.j4 kj34 t329 t330 t333 t334 t341 (decide (bt355.1 > bt355.2.1))) else (laws_FnRainMeasured.j4 kj34 t329 t330 t333 t334 t341 false)) else (laws_FnRainMeasured.j4 kj34 t329 t330 t333 t334 t341 true)) else (if bt355.2.2 = true then (laws_FnRainMeasured.j4 kj34 t329 t330 t333 t334 t341 (decide (bt355.1 > bt355.2.1))) else (laws_FnRainMeasured.j4 kj34 t329 t330 t333 t334 t341 false))) else (laws_FnRainMeasured.j4 kj34 t329 t330 t333 t334 t341 true)) else (laws_FnRainMeasured.j4 kj34 t329 t330 t333 t334 t341 true))) else (laws_FnRainMeasured.j4 kj34 t329 t330 t333 t334 t341 true)) else (laws_FnRainMeasured.j4 kj34 t329 t330 t333 t334 t341 true))) else (laws_FnRainMeasured.j4 kj34 t329 t330 t333 t334 t341 true))))))) = some r := H
       have A77 := Aside0.mk A770
       clear A770
       replace H := Option.bind_eq_some_iff.mp H
       obtain ⟨⟨t347, t348, t349, t350⟩, A780, H⟩ := H
       replace H : ((impl_RangeOfTwo.f kj34 t347 t348 t349 t350).bind fun bt355 => ((spec_RangeOfTwo.f kj34 t347 t348 t349 t350).bind fun bt358 => (if (t334 != t338) = true then (laws_FnRainMeasured.j4 kj34 t329 t330 t333 t334 t341 true) else ((laws_eSame.f kj34 t333 t337).bind fun t361 => (if t361 = true then (if (t343 != t346) = true then (laws_FnRainMeasured.j4 kj34 t329 t330 t333 t334 t341 true) else (if t341 = t344 then (if t342 = t345 then (if (bt355.2.2 != bt358.2.2) = true then (laws_FnRainMeasured.j4 kj34 t329 t330 t333 t334 t341 true) else (if bt355.1 = bt358.1 then (if bt355.2.1 = bt358.2.1 then (if t334 = true then (if t343 = true then (if bt355.2.2 = true then (laws_FnRainMeasured.j4 kj34 t329 t330 t333 t334 t341 (decide (bt355.1 > bt355.2.1))) else (laws_FnRainMeasured.j4 kj34 t329 t330 t333 t334 t341 false)) else (laws_FnRainMeasured.j4 kj34 t329 t330 t333 t334 t341 true)) else (if bt355.2.2 = true then (laws_FnRainMeasured.j4 kj34 t329 t330 t333 t334 t341 (decide (bt355.1 > bt355.2.1))) else (laws_FnRainMeasured.j4 kj34 t329 t330 t333 t334 t341 false))) else (laws_FnRainMeasured.j4 kj34 t329 t330 t333 t334 t341 true)) else (laws_FnRainMeasured.j4 kj34 t329 t330 t333 t334 t341 true))) else (laws_FnRainMeasured.j4 kj34 t329 t330 t333 t334 t341 true)) else (laws_FnRainMeasured.j4 kj34 t329 t330 t333 t334 t341 true))) else (laws_FnRainMeasured.j4 kj34 t329 t330 t333 t334 t341 true)))))) = some r := H
       have A78 := Aside0.mk A780
       clear A780
       replace H := Option.bind_eq_some_iff.mp H
       obtain ⟨⟨t355, t356, t357⟩, A790, H⟩ := H
       replace H : ((spec_RangeOfTwo.f kj34 t347 t348 t349 t350).bind fun bt358 => (if (t334 != t338) = true then (laws_FnRainMeasured.j4 kj34 t329 t330 t333 t334 t341 true) else ((laws_eSame.f kj34 t333 t337).bind fun t361 => (if t361 = true then (if (t343 != t346) = true then (laws_FnRainMeasured.j4 kj34 t329 t330 t333 t334 t341 true) else (if t341 = t344 then (if t342 = t345 then (if (t357 != bt358.2.2) = true then (laws_FnRainMeasured.j4 kj34 t329 t330 t333 t334 t341 true) else (if t355 = bt358.1 then (if t356 = bt358.2.1 then (if t334 = true then (if t343 = true then (if t357 = true then (laws_FnRainMeasured.j4 kj34 t329 t330 t333 t334 t341 (decide (t355 > t356))) else (laws_FnRainMeasured.j4 kj34 t329 t330 t333 t334 t341 false)) else (laws_FnRainMeasured.j4 kj34 t329 t330 t333 t334 t341 true)) else (if t357 = true then (laws_FnRainMeasured.j4 kj34 t329 t330 t333 t334 t341 (decide (t355 > t356))) else (laws_FnRainMeasured.j4 kj34 t329 t330 t333 t334 t341 false))) else (laws_FnRainMeasured.j4 kj34 t329 t330 t333 t334 t341 true)) else (laws_FnRainMeasured.j4 kj34 t329 t330 t333 t334 t341 true))) else (laws_FnRainMeasured.j4 kj34 t329 t330 t333 t334 t341 true)) else (laws_FnRainMeasured.j4 kj34 t329 t330 t333 t334 t341 true))) else (laws_FnRainMeasured.j4 kj34 t329 t330 t333 t334 t341 true))))) = some r := H
       have A79 := Aside0.mk A790
       clear A790
       replace H := Option.bind_eq_some_iff.mp H
       obtain ⟨⟨t358, t359, t360⟩, A800, H⟩ := H
       replace H : (if (t334 != t338) = true then (laws_FnRainMeasured.j4 kj34 t329 t330 t333 t334 t341 true) else ((laws_eSame.f kj34 t333 t337).bind fun t361 => (if t361 = true then (if (t343 != t346) = true then (laws_FnRainMeasured.j4 kj34 t329 t330 t333 t334 t341 true) else (if t341 = t344 then (if t342 = t345 then (if (t357 != t360) = true then (laws_FnRainMeasured.j4 kj34 t329 t330 t333 t334 t341 true) else (if t355 = t358 then (if t356 = t359 then (if t334 = true then (if t343 = true then (if t357 = true then (laws_FnRainMeasured.j4 kj34 t329 t330 t333 t334 t341 (decide (t355 > t356))) else (laws_FnRainMeasured.j4 kj34 t329 t330 t333 t334 t341 false)) else (laws_FnRainMeasured.j4 kj34 t329 t330 t333 t334 t341 true)) else (if t357 = true then (laws_FnRainMeasured.j4 kj34 t329 t330 t333 t334 t341 (decide (t355 > t356))) else (laws_FnRainMeasured.j4 kj34 t329 t330 t333 t334 t341 false))) else (laws_FnRainMeasured.j4 kj34 t329 t330 t333 t334 t341 true)) else (laws_FnRainMeasured.j4 kj34 t329 t330 t333 t334 t341 true))) else (laws_FnRainMeasured.j4 kj34 t329 t330 t333 t334 t341 true)) else (laws_FnRainMeasured.j4 kj34 t329 t330 t333 t334 t341 true))) else (laws_FnRainMeasured.j4 kj34 t329 t330 t333 t334 t341 true)))) = some r := H
       have A80 := Aside0.mk A800
       clear A800
       have HC81 := Aside0.mk H
       clear H
       go_upto_region 31 with (first | ((with_reducible refine gate_callee (f := 64) rfl ?_); refine gl 254 Try.func64 #[.slice A1 l1.length c1] ?_; (with_reducible refine (spec_DrawRainOfTips.calls kj34 _ _ l1 t329 t330 _ ?side1 ?side2 A73.out).mono ?_); (case side1 => exact ck HR1 HB); (case side2 => exact HC1.out); rintro e w82 ⟨v331, rfl, ho0, hb⟩; refine ⟨_, rfl, ?_⟩; have HO332 := lo ho0 HB; replace HB := bs HB hb; (try clear hb); (try clear ho0); obtain ⟨Ao83, co83, eo83⟩ := Kd.R_slice HO332.out; subst eo83) | ((with_reducible refine gate_callee (f := 65) rfl ?_); refine gl 260 Try.func65 #[.int .i64 t329, .slice Ao83 t330.length co83] ?_; (with_reducible refine (impl_RainOfTips.calls kj34 t329 _ _ t330 t333 t334 _ ?side1 ?side2 A74.out).mono ?_); (case side1 => exact cr HO332); (case side2 => exact (Kd.R_reads' HO332.out).2.1); rintro e w84 ⟨v335, rfl, ho0, hb⟩; refine ⟨_, rfl, ?_⟩; have HO336 := Aside0.mk (Kd.R_lower (Kd.R_new' ho0 (Kd.R_lt (rk HO332))) (below_size (bw HB))); replace HO332 := Aside0.mk (Kd.R_elder' (rk HO332) (Kd.R_base ho0) hb); replace HB := bs HB hb; (try clear hb); (try clear ho0)) | ((with_reducible refine gate_callee (f := 66) rfl ?_); refine gl 266 Try.func66 #[.int .i64 t329, .slice Ao83 t330.length co83] ?_; (with_reducible refine (spec_RainOfTips.calls kj34 t329 _ _ t330 t337 t338 _ ?side1 ?side2 A75.out).mono ?_); (case side1 => exact cr HO332); (case side2 => exact (Kd.R_reads' HO332.out).2.1); rintro e w85 ⟨v339, rfl, ho0, hb⟩; refine ⟨_, rfl, ?_⟩; have HO340 := Aside0.mk (Kd.R_lower (Kd.R_new' (Kd.R_new' ho0 (Kd.R_lt (rk HO332))) (Kd.R_lt (rk HO336))) (below_size (bw HB))); replace HO332 := Aside0.mk (Kd.R_elder' (rk HO332) (Kd.R_base ho0) hb); replace HO336 := Aside0.mk (Kd.R_elder' (rk HO336) (Kd.R_base ho0) hb); replace HB := bs HB hb; (try clear hb); (try clear ho0)) | ((with_reducible refine gate_callee (f := 62) rfl ?_); refine gl 272 Try.func62 #[.int .i64 t329, .slice Ao83 t330.length co83] ?_; (with_reducible refine (impl_RangeOfTips.calls kj34 t329 _ _ t330 t341 t342 t343 _ ?side1 ?side2 A76.out).mono ?_); (case side1 => exact cr HO332); (case side2 => exact (Kd.R_reads' HO332.out).2.1); rintro e w86 ⟨rfl, hb⟩; refine ⟨_, rfl, ?_⟩; replace HO332 := rb HO332 hb; replace HO336 := rb HO336 hb; replace HO340 := rb HO340 hb; replace HB := bs HB hb; (try clear hb)) | ((with_reducible refine gate_callee (f := 67) rfl ?_); refine gl 279 Try.func67 #[.int .i64 t329, .slice Ao83 t330.length co83] ?_; (with_reducible refine (spec_RangeOfTips.calls kj34 t329 _ _ t330 t344 t345 t346 _ ?side1 ?side2 A77.out).mono ?_); (case side1 => exact cr HO332); (case side2 => exact (Kd.R_reads' HO332.out).2.1); rintro e w' ⟨rfl, ⟨nd, rfl⟩⟩; refine ⟨_, rfl, ?_⟩) | ((with_reducible refine gate_callee (f := 68) rfl ?_); refine gl 285 Try.func68 #[.slice A1 l1.length c1] ?_; (with_reducible refine (spec_DrawRangeOfTwo.calls kj34 _ _ l1 t347 t348 t349 t350 _ ?side1 ?side2 A78.out).mono ?_); (case side1 => repeat (first | exact (Kd.C_below HR1.out (bw HB)) | (with_reducible refine Kd.C_alloc ?_ _) | (with_reducible refine Kd.C_drewN ?_ _) | (with_reducible refine Kd.C_drew ?_))); (case side2 => exact HC1.out); rintro e w87 ⟨v351, v353, rfl, ho0, ho1, hb⟩; refine ⟨_, rfl, ?_⟩; have HO352 := Aside0.mk (Kd.R_lower (Kd.R_new' (Kd.R_new' (Kd.R_new' ho0 (Kd.R_lt (rk HO332))) (Kd.R_lt (rk HO336))) (Kd.R_lt (rk HO340))) (below_size (bw HB))); have HO354 := Aside0.mk (Kd.R_lower (Kd.R_new' (Kd.R_new' (Kd.R_new' ho1 (Kd.R_lt (rk HO332))) (Kd.R_lt (rk HO336))) (Kd.R_lt (rk HO340))) (below_size (bw HB))); replace HO332 := Aside0.mk (Kd.R_mono (Kd.R_told (Kd.R_told (Kd.R_old (rk HO332) hb) (Kd.R_base ho0)) (Kd.R_base ho1)) (fun _ h_ => h_.1)); replace HO336 := Aside0.mk (Kd.R_mono (Kd.R_told (Kd.R_told (Kd.R_old (rk HO336) hb) (Kd.R_base ho0)) (Kd.R_base ho1)) (fun _ h_ => h_.1)); replace HO340 := Aside0.mk (Kd.R_mono (Kd.R_told (Kd.R_told (Kd.R_old (rk HO340) hb) (Kd.R_base ho0)) (Kd.R_base ho1)) (fun _ h_ => h_.1)); replace HB := bs HB hb; (try clear hb); (try clear ho0); (try clear ho1); obtain ⟨Ao88, co88, eo88⟩ := Kd.R_slice HO352.out; subst eo88; obtain ⟨Ao89, co89, eo89⟩ := Kd.R_slice HO354.out; subst eo89) | ((with_reducible refine gate_callee (f := 63) rfl ?_); refine gl 295 Try.func63 #[.int .i64 t347, .int .i64 t348, .slice Ao88 t349.length co88, .slice Ao89 t350.length co89] ?_; (with_reducible refine (impl_RangeOfTwo.calls kj34 t347 t348 _ _ t349 _ _ t350 t355 t356 t357 _ ?side1 ?side2 ?side3 ?side4 A79.out).mono ?_); (case side1 => exact cr HO352); (case side2 => exact (Kd.R_reads' HO352.out).2.1); (case side3 => exact cr HO354); (case side4 => exact (Kd.R_reads' HO354.out).2.1); rintro e w90 ⟨rfl, hb⟩; refine ⟨_, rfl, ?_⟩; replace HO332 := rb HO332 hb; replace HO336 := rb HO336 hb; replace HO340 := rb HO340 hb; replace HO352 := rb HO352 hb; replace HO354 := rb HO354 hb; replace HB := bs HB hb; (try clear hb)) | ((with_reducible refine gate_callee (f := 69) rfl ?_); refine gl 304 Try.func69 #[.int .i64 t347, .int .i64 t348, .slice Ao88 t349.length co88, .slice Ao89 t350.length co89] ?_; (with_reducible refine (spec_RangeOfTwo.calls kj34 t347 t348 _ _ t349 _ _ t350 t358 t359 t360 _ ?side1 ?side2 ?side3 ?side4 A80.out).mono ?_); (case side1 => exact cr HO352); (case side2 => exact (Kd.R_reads' HO352.out).2.1); (case side3 => exact cr HO354); (case side4 => exact (Kd.R_reads' HO354.out).2.1); rintro e w' ⟨rfl, ⟨nd, rfl⟩⟩; refine ⟨_, rfl, ?_⟩))
       (try simp only [Act.put, List.setIfInBounds_toArray, List.set_cons_zero, List.set_cons_succ])
       refine cutF (rl [52, 329] false) (fun u_ wc => ∃ (kq : Nat) (x361_80 : Bool), (u_ 361) = .bool x361_80 ∧ Aside0 (laws_FnRainMeasured.j4 kq t329 t330 t333 t334 t341 x361_80 = some r) ∧ Aside0 (kq ≤ kj34) ∧ Aside0 (Kd.R (Kd.int .i64) 3 wc w.heap.size (fun k_ => some k_ ≠ (v335 : Value).ownBlock) (.slice Ao83 t330.length co83) t330) ∧ Aside0 (Kd.R (Kd.int .i64) 3 wc w.heap.size (fun k_ => some k_ ≠ ((.slice Ao83 t330.length co83) : Value).ownBlock) v335 t333) ∧ Aside0 (Below w.heap.size w wc)) ?first12 ?rest12
       case first12 =>
        as_aux_lemma =>
         intro J_ K_ hJ_ hK_
         have H := HC81.out
         clear HC81
         by_cases c91 : (t334 != t338) = true
         ·rw [if_pos c91] at H
          have c91b0 : (t334 != t338) = true := c91
          (try (have c91b1 : decide (t334 = t338) = false := by simpa using c91))
          (try (have c91b2 : (t334 == t338) = false := by simpa using c91))
          (try (have c91b3 : ¬ (t334 = t338) := by simpa using c91))
          clear c91
          (first | rw [c91b0] | (simp only [i64_w, i32_w]; rw [c91b0]) | skip)
          exact absurd H (by rw [hrt.out]; cases kj34 <;> simp [laws_FnRainMeasured.j4])
         rw [if_neg c91] at H
         have c91b0 : (t334 != t338) = false := by simpa using c91
         (try (have c91b1 : decide (t334 = t338) = true := by simpa using c91))
         (try (have c91b2 : (t334 == t338) = true := by simpa using c91))
         clear c91
         (first | rw [c91b0] | (simp only [i64_w, i32_w]; rw [c91b0]) | skip)
         replace H := Option.bind_eq_some_iff.mp H
         obtain ⟨t361, A920, H⟩ := H
         replace H : (if t361 = true then (if (t343 != t346) = true then (laws_FnRainMeasured.j4 kj34 t329 t330 t333 t334 t341 true) else (if t341 = t344 then (if t342 = t345 then (if (t357 != t360) = true then (laws_FnRainMeasured.j4 kj34 t329 t330 t333 t334 t341 true) else (if t355 = t358 then (if t356 = t359 then (if t334 = true then (if t343 = true then (if t357 = true then (laws_FnRainMeasured.j4 kj34 t329 t330 t333 t334 t341 (decide (t355 > t356))) else (laws_FnRainMeasured.j4 kj34 t329 t330 t333 t334 t341 false)) else (laws_FnRainMeasured.j4 kj34 t329 t330 t333 t334 t341 true)) else (if t357 = true then (laws_FnRainMeasured.j4 kj34 t329 t330 t333 t334 t341 (decide (t355 > t356))) else (laws_FnRainMeasured.j4 kj34 t329 t330 t333 t334 t341 false))) else (laws_FnRainMeasured.j4 kj34 t329 t330 t333 t334 t341 true)) else (laws_FnRainMeasured.j4 kj34 t329 t330 t333 t334 t341 true))) else (laws_FnRainMeasured.j4 kj34 t329 t330 t333 t334 t341 true)) else (laws_FnRainMeasured.j4 kj34 t329 t330 t333 t334 t341 true))) else (laws_FnRainMeasured.j4 kj34 t329 t330 t333 t334 t341 true)) = some r := H
         have A92 := Aside0.mk A920
         clear A920
         by_cases c93 : t361 = true
         rotate_left
         ·replace c93 := Bool.eq_false_iff.mpr c93
          subst c93
          have H1 : (laws_FnRainMeasured.j4 kj34 t329 t330 t333 t334 t341 true) = some r := by rw [if_neg (show ¬ (false = true) by decide)] at H; exact H
          clear H
          have H := H1
          clear H1
          exact absurd H (by rw [hrt.out]; cases kj34 <;> simp [laws_FnRainMeasured.j4])
         subst c93
         have H1 : (if (t343 != t346) = true then (laws_FnRainMeasured.j4 kj34 t329 t330 t333 t334 t341 true) else (if t341 = t344 then (if t342 = t345 then (if (t357 != t360) = true then (laws_FnRainMeasured.j4 kj34 t329 t330 t333 t334 t341 true) else (if t355 = t358 then (if t356 = t359 then (if t334 = true then (if t343 = true then (if t357 = true then (laws_FnRainMeasured.j4 kj34 t329 t330 t333 t334 t341 (decide (t355 > t356))) else (laws_FnRainMeasured.j4 kj34 t329 t330 t333 t334 t341 false)) else (laws_FnRainMeasured.j4 kj34 t329 t330 t333 t334 t341 true)) else (if t357 = true then (laws_FnRainMeasured.j4 kj34 t329 t330 t333 t334 t341 (decide (t355 > t356))) else (laws_FnRainMeasured.j4 kj34 t329 t330 t333 t334 t341 false))) else (laws_FnRainMeasured.j4 kj34 t329 t330 t333 t334 t341 true)) else (laws_FnRainMeasured.j4 kj34 t329 t330 t333 t334 t341 true))) else (laws_FnRainMeasured.j4 kj34 t329 t330 t333 t334 t341 true)) else (laws_FnRainMeasured.j4 kj34 t329 t330 t333 t334 t341 true))) = some r := by rw [if_pos rfl] at H; exact H
         clear H
         have H := H1
         clear H1
         by_cases c94 : (t343 != t346) = true
         ·rw [if_pos c94] at H
          have c94b0 : (t343 != t346) = true := c94
          (try (have c94b1 : decide (t343 = t346) = false := by simpa using c94))
          (try (have c94b2 : (t343 == t346) = false := by simpa using c94))
          (try (have c94b3 : ¬ (t343 = t346) := by simpa using c94))
          clear c94
          exact absurd H (by rw [hrt.out]; cases kj34 <;> simp [laws_FnRainMeasured.j4])
         rw [if_neg c94] at H
         have c94b0 : (t343 != t346) = false := by simpa using c94
         (try (have c94b1 : decide (t343 = t346) = true := by simpa using c94))
         (try (have c94b2 : (t343 == t346) = true := by simpa using c94))
         clear c94
         by_cases c95 : t341 = t344
         rotate_left
         ·rw [if_neg c95] at H
          have c95b0 : (t341 == t344) = false := beq_eq_false_iff_ne.mpr c95
          have c95b1 : (t341 != t344) = true := bne_iff_ne.mpr c95
          exact absurd H (by rw [hrt.out]; cases kj34 <;> simp [laws_FnRainMeasured.j4])
         rw [if_pos c95] at H
         have c95b0 : (t341 == t344) = true := beq_iff_eq.mpr c95
         have c95b1 : (t341 != t344) = false := bne_eq_false_iff_eq.mpr c95
         clear c95
         by_cases c96 : t342 = t345
         rotate_left
         ·rw [if_neg c96] at H
          have c96b0 : (t342 == t345) = false := beq_eq_false_iff_ne.mpr c96
          have c96b1 : (t342 != t345) = true := bne_iff_ne.mpr c96
          exact absurd H (by rw [hrt.out]; cases kj34 <;> simp [laws_FnRainMeasured.j4])
         rw [if_pos c96] at H
         have c96b0 : (t342 == t345) = true := beq_iff_eq.mpr c96
         have c96b1 : (t342 != t345) = false := bne_eq_false_iff_eq.mpr c96
         clear c96
         by_cases c97 : (t357 != t360) = true
         ·rw [if_pos c97] at H
          have c97b0 : (t357 != t360) = true := c97
          (try (have c97b1 : decide (t357 = t360) = false := by simpa using c97))
          (try (have c97b2 : (t357 == t360) = false := by simpa using c97))
          (try (have c97b3 : ¬ (t357 = t360) := by simpa using c97))
          clear c97
          exact absurd H (by rw [hrt.out]; cases kj34 <;> simp [laws_FnRainMeasured.j4])
         rw [if_neg c97] at H
         have c97b0 : (t357 != t360) = false := by simpa using c97
         (try (have c97b1 : decide (t357 = t360) = true := by simpa using c97))
         (try (have c97b2 : (t357 == t360) = true := by simpa using c97))
         clear c97
         by_cases c98 : t355 = t358
         rotate_left
         ·rw [if_neg c98] at H
          have c98b0 : (t355 == t358) = false := beq_eq_false_iff_ne.mpr c98
          have c98b1 : (t355 != t358) = true := bne_iff_ne.mpr c98
          exact absurd H (by rw [hrt.out]; cases kj34 <;> simp [laws_FnRainMeasured.j4])
         rw [if_pos c98] at H
         have c98b0 : (t355 == t358) = true := beq_iff_eq.mpr c98
         have c98b1 : (t355 != t358) = false := bne_eq_false_iff_eq.mpr c98
         clear c98
         by_cases c99 : t356 = t359
         rotate_left
         ·rw [if_neg c99] at H
          have c99b0 : (t356 == t359) = false := beq_eq_false_iff_ne.mpr c99
          have c99b1 : (t356 != t359) = true := bne_iff_ne.mpr c99
          exact absurd H (by rw [hrt.out]; cases kj34 <;> simp [laws_FnRainMeasured.j4])
         rw [if_pos c99] at H
         have c99b0 : (t356 == t359) = true := beq_iff_eq.mpr c99
         have c99b1 : (t356 != t359) = false := bne_eq_false_iff_eq.mpr c99
         clear c99
         by_cases c100 : t334 = true
         rotate_left
         ·replace c100 := Bool.eq_false_iff.mpr c100
          subst c100
          have H1 : (if t357 = true then (laws_FnRainMeasured.j4 kj34 t329 t330 t333 false t341 (decide (t355 > t356))) else (laws_FnRainMeasured.j4 kj34 t329 t330 t333 false t341 false)) = some r := by rw [if_neg (show ¬ (false = true) by decide)] at H; exact H
          clear H
          have H := H1
          clear H1
          by_cases c107 : t357 = true
          ·subst c107
           have H1 : (laws_FnRainMeasured.j4 kj34 t329 t330 t333 false t341 (decide (t355 > t356))) = some r := by rw [if_pos rfl] at H; exact H
           clear H
           have H := H1
           clear H1
           have H' := Aside0.mk H
           clear H
           obtain ⟨Ao108, co108, eo108⟩ := Kd.R_slice HO336.out
           subst eo108
           obtain ⟨Ao109, co109, eo109⟩ := Kd.R_slice HO340.out
           subst eo109
           go_wp2_with (first | (go_at_call 29; (with_reducible refine (laws_eSame.calls kj34 _ _ t333 _ _ t337 true _ ?side1 ?side2 ?side3 ?side4 A92.out).mono ?_); (case side1 => exact cr HO336); (case side2 => exact (Kd.R_reads' HO336.out).2.1); (case side3 => exact cr HO340); (case side4 => exact (Kd.R_reads' HO340.out).2.1); rintro e w' ⟨rfl, ⟨nd, rfl⟩⟩))
           (refine Met.intro ?_; go_step; refine Cut_mk (by kernel_rfl) ?rel13)
           case rel13 => exact ⟨_, (decide (t355 > t356)), (by first | rfl | (simp; done) | (simp [*]; done)), H', ⟨by have := HJ11.out; have := HJ34.out; first | omega | exact Nat.le_refl _⟩, ⟨by (with_reducible repeat (first | apply Kd.R_alloc | apply Kd.R_drewN | apply Kd.R_drew)); exact Kd.R_mono HO332.out (fun _ hk => hk.1.1.1.2)⟩, ⟨by (with_reducible repeat (first | apply Kd.R_alloc | apply Kd.R_drewN | apply Kd.R_drew)); exact Kd.R_mono HO336.out (fun _ hk => hk.1.1.1.2)⟩, ⟨bw HB⟩⟩
          replace c107 := Bool.eq_false_iff.mpr c107
          subst c107
          have H1 : (laws_FnRainMeasured.j4 kj34 t329 t330 t333 false t341 false) = some r := by rw [if_neg (show ¬ (false = true) by decide)] at H; exact H
          clear H
          have H := H1
          clear H1
          have H' := Aside0.mk H
          clear H
          obtain ⟨Ao110, co110, eo110⟩ := Kd.R_slice HO336.out
          subst eo110
          obtain ⟨Ao111, co111, eo111⟩ := Kd.R_slice HO340.out
          subst eo111
          go_wp2_with (first | (go_at_call 29; (with_reducible refine (laws_eSame.calls kj34 _ _ t333 _ _ t337 true _ ?side1 ?side2 ?side3 ?side4 A92.out).mono ?_); (case side1 => exact cr HO336); (case side2 => exact (Kd.R_reads' HO336.out).2.1); (case side3 => exact cr HO340); (case side4 => exact (Kd.R_reads' HO340.out).2.1); rintro e w' ⟨rfl, ⟨nd, rfl⟩⟩))
          (refine Met.intro ?_; go_step; refine Cut_mk (by kernel_rfl) ?rel14)
          case rel14 => exact ⟨_, (false), (by first | rfl | (simp; done) | (simp [*]; done)), H', ⟨by have := HJ11.out; have := HJ34.out; first | omega | exact Nat.le_refl _⟩, ⟨by (with_reducible repeat (first | apply Kd.R_alloc | apply Kd.R_drewN | apply Kd.R_drew)); exact Kd.R_mono HO332.out (fun _ hk => hk.1.1.1.2)⟩, ⟨by (with_reducible repeat (first | apply Kd.R_alloc | apply Kd.R_drewN | apply Kd.R_drew)); exact Kd.R_mono HO336.out (fun _ hk => hk.1.1.1.2)⟩, ⟨bw HB⟩⟩
         subst c100
         have H1 : (if t343 = true then (if t357 = true then (laws_FnRainMeasured.j4 kj34 t329 t330 t333 true t341 (decide (t355 > t356))) else (laws_FnRainMeasured.j4 kj34 t329 t330 t333 true t341 false)) else (laws_FnRainMeasured.j4 kj34 t329 t330 t333 true t341 true)) = some r := by rw [if_pos rfl] at H; exact H
         clear H
         have H := H1
         clear H1
         by_cases c101 : t343 = true
         rotate_left
         ·replace c101 := Bool.eq_false_iff.mpr c101
          subst c101
          have H1 : (laws_FnRainMeasured.j4 kj34 t329 t330 t333 true t341 true) = some r := by rw [if_neg (show ¬ (false = true) by decide)] at H; exact H
          clear H
          have H := H1
          clear H1
          exact absurd H (by rw [hrt.out]; cases kj34 <;> simp [laws_FnRainMeasured.j4])
         subst c101
         have H1 : (if t357 = true then (laws_FnRainMeasured.j4 kj34 t329 t330 t333 true t341 (decide (t355 > t356))) else (laws_FnRainMeasured.j4 kj34 t329 t330 t333 true t341 false)) = some r := by rw [if_pos rfl] at H; exact H
         clear H
         have H := H1
         clear H1
         by_cases c102 : t357 = true
         ·subst c102
          have H1 : (laws_FnRainMeasured.j4 kj34 t329 t330 t333 true t341 (decide (t355 > t356))) = some r := by rw [if_pos rfl] at H; exact H
          clear H
          have H := H1
          clear H1
          have H' := Aside0.mk H
          clear H
          obtain ⟨Ao103, co103, eo103⟩ := Kd.R_slice HO336.out
          subst eo103
          obtain ⟨Ao104, co104, eo104⟩ := Kd.R_slice HO340.out
          subst eo104
          go_wp2_with (first | (go_at_call 29; (with_reducible refine (laws_eSame.calls kj34 _ _ t333 _ _ t337 true _ ?side1 ?side2 ?side3 ?side4 A92.out).mono ?_); (case side1 => exact cr HO336); (case side2 => exact (Kd.R_reads' HO336.out).2.1); (case side3 => exact cr HO340); (case side4 => exact (Kd.R_reads' HO340.out).2.1); rintro e w' ⟨rfl, ⟨nd, rfl⟩⟩))
          (refine Met.intro ?_; go_step; refine Cut_mk (by kernel_rfl) ?rel15)
          case rel15 => exact ⟨_, (decide (t355 > t356)), (by first | rfl | (simp; done) | (simp [*]; done)), H', ⟨by have := HJ11.out; have := HJ34.out; first | omega | exact Nat.le_refl _⟩, ⟨by (with_reducible repeat (first | apply Kd.R_alloc | apply Kd.R_drewN | apply Kd.R_drew)); exact Kd.R_mono HO332.out (fun _ hk => hk.1.1.1.2)⟩, ⟨by (with_reducible repeat (first | apply Kd.R_alloc | apply Kd.R_drewN | apply Kd.R_drew)); exact Kd.R_mono HO336.out (fun _ hk => hk.1.1.1.2)⟩, ⟨bw HB⟩⟩
         replace c102 := Bool.eq_false_iff.mpr c102
         subst c102
         have H1 : (laws_FnRainMeasured.j4 kj34 t329 t330 t333 true t341 false) = some r := by rw [if_neg (show ¬ (false = true) by decide)] at H; exact H
         clear H
         have H := H1
         clear H1
         have H' := Aside0.mk H
         clear H
         obtain ⟨Ao105, co105, eo105⟩ := Kd.R_slice HO336.out
         subst eo105
         obtain ⟨Ao106, co106, eo106⟩ := Kd.R_slice HO340.out
         subst eo106
         go_wp2_with (first | (go_at_call 29; (with_reducible refine (laws_eSame.calls kj34 _ _ t333 _ _ t337 true _ ?side1 ?side2 ?side3 ?side4 A92.out).mono ?_); (case side1 => exact cr HO336); (case side2 => exact (Kd.R_reads' HO336.out).2.1); (case side3 => exact cr HO340); (case side4 => exact (Kd.R_reads' HO340.out).2.1); rintro e w' ⟨rfl, ⟨nd, rfl⟩⟩))
         (refine Met.intro ?_; go_step; refine Cut_mk (by kernel_rfl) ?rel16)
         case rel16 => exact ⟨_, (false), (by first | rfl | (simp; done) | (simp [*]; done)), H', ⟨by have := HJ11.out; have := HJ34.out; first | omega | exact Nat.le_refl _⟩, ⟨by (with_reducible repeat (first | apply Kd.R_alloc | apply Kd.R_drewN | apply Kd.R_drew)); exact Kd.R_mono HO332.out (fun _ hk => hk.1.1.1.2)⟩, ⟨by (with_reducible repeat (first | apply Kd.R_alloc | apply Kd.R_drewN | apply Kd.R_drew)); exact Kd.R_mono HO336.out (fun _ hk => hk.1.1.1.2)⟩, ⟨bw HB⟩⟩
       case rest12 =>
        as_aux_lemma =>
         intro u_ wc hcut l_ hl_; (simp only [rl, List.reduceReplicate, List.cons_append, List.nil_append, List.append_nil, Bool.not_true, Bool.not_false, fu, Nat.reduceAdd] at hl_); subst hl_; generalize u_ 361 = v361 at hcut ⊢
         clear HC81
         try clear c1
         try clear c2
         try clear p2
         try clear c3
         try clear p3
         try clear q3
         try clear hx3
         try clear c4
         try clear c5
         try clear c6
         try clear p6
         try clear q6
         try clear c9
         try clear c10
         try clear c20
         try clear c20b0
         try clear c20b1
         try clear c20b2
         try clear c22
         try clear c23
         try clear c23b0
         try clear c23b1
         try clear c23b2
         try clear c24
         try clear c24b0
         try clear c24b1
         try clear c25
         try clear c25b0
         try clear c25b1
         try clear c25b2
         try clear c26
         try clear c26b0
         try clear c26b1
         try clear c27
         try clear c27b0
         try clear c27b1
         try clear c27b2
         try clear c28
         try clear p31
         try clear q31
         try clear hx31
         try clear c34
         try clear c36
         try clear c42
         try clear c42b0
         try clear c42b1
         try clear c42b2
         try clear c44
         try clear c44b0
         try clear c44b1
         try clear c45
         try clear c45b0
         try clear c46
         try clear c46b0
         try clear c47
         try clear c48
         try clear c48b0
         try clear c49
         try clear c49b0
         try clear c50
         try clear c52
         try clear c54
         try clear c54b0
         try clear c55
         try clear c55b0
         try clear c56
         try clear c56b0
         try clear c56b1
         try clear c57
         try clear c57b0
         try clear c58
         try clear c58b0
         try clear c58b1
         try clear c59
         try clear c60
         try clear q60
         try clear c61
         try clear c62
         try clear c63
         try clear c64
         try clear p64
         try clear c65
         try clear c66
         try clear c66b0
         try clear c67
         try clear c67b0
         try clear c68
         try clear c68b0
         try clear c69
         try clear c69b0
         try clear c91
         try clear c91b0
         try clear c91b1
         try clear c91b2
         try clear c93
         try clear c94
         try clear c94b0
         try clear c94b1
         try clear c94b2
         try clear c95
         try clear c95b0
         try clear c95b1
         try clear c96
         try clear c96b0
         try clear c96b1
         try clear c97
         try clear c97b0
         try clear c97b1
         try clear c97b2
         try clear c98
         try clear c98b0
         try clear c98b1
         try clear c99
         try clear c99b0
         try clear c99b1
         try clear c100
         try clear c101
         try clear c102
         try clear c107
         try clear hx316_0
         try clear p2
         try clear p3
         try clear p31
         try clear p316
         try clear p6
         try clear p64
         try clear q3
         try clear q31
         try clear q316
         try clear q6
         try clear q60
         obtain ⟨kq, x361_80, rfl, HA, HJ80, HO_29, HO_30, HB⟩ := hcut
         cases kq with
         | zero => exact absurd HA.out (by simp [laws_FnRainMeasured.j4])
         | succ kj80 =>
          have H := HA.out
          clear HA
          simp only [laws_FnRainMeasured.j4] at H
          by_cases c112 : x361_80 = true
          ·subst c112
           have H1 : (some false) = some r := by rw [if_pos rfl] at H; exact H
           clear H
           have H := H1
           clear H1
           exact absurd ((Option.some.inj H).trans hrt.out) (by decide)
          replace c112 := Bool.eq_false_iff.mpr c112
          subst c112
          have H1 : (if t334 = true then ((impl_TipsOfRain.f kj80 t329 t333).bind fun bt362 => (if bt362.2 = true then ((laws_eSame.f kj80 bt362.1 t330).bind fun t366 => (if t366 = true then ((laws_eSum.f kj80 t333).bind fun t367 => (some (t367 == t341))) else (some false))) else (some false))) else (some true)) = some r := by rw [if_neg (show ¬ (false = true) by decide)] at H; exact H
          clear H
          have H := H1
          clear H1
          by_cases c113 : t334 = true
          rotate_left
          ·replace c113 := Bool.eq_false_iff.mpr c113
           subst c113
           have H1 : (some true) = some r := by rw [if_neg (show ¬ (false = true) by decide)] at H; exact H
           clear H
           have H := H1
           clear H1
           obtain rfl := Option.some.inj H
           go_wp2
           go_ret
           exact ⟨by first | rfl | (simp [errW_none, errW_some] <;> rfl) | (simp [*, errW_none, errW_some] <;> rfl), bw HB⟩
          subst c113
          have H1 : ((impl_TipsOfRain.f kj80 t329 t333).bind fun bt362 => (if bt362.2 = true then ((laws_eSame.f kj80 bt362.1 t330).bind fun t366 => (if t366 = true then ((laws_eSum.f kj80 t333).bind fun t367 => (some (t367 == t341))) else (some false))) else (some false))) = some r := by rw [if_pos rfl] at H; exact H
          clear H
          have H := H1
          clear H1
          replace H := Option.bind_eq_some_iff.mp H
          obtain ⟨⟨t362, t363⟩, A1140, H⟩ := H
          replace H : (if t363 = true then ((laws_eSame.f kj80 t362 t330).bind fun t366 => (if t366 = true then ((laws_eSum.f kj80 t333).bind fun t367 => (some (t367 == t341))) else (some false))) else (some false)) = some r := H
          have A114 := Aside0.mk A1140
          clear A1140
          by_cases c115 : t363 = true
          rotate_left
          ·replace c115 := Bool.eq_false_iff.mpr c115
           subst c115
           have H1 : (some false) = some r := by rw [if_neg (show ¬ (false = true) by decide)] at H; exact H
           clear H
           have H := H1
           clear H1
           exact absurd ((Option.some.inj H).trans hrt.out) (by decide)
          subst c115
          have H1 : ((laws_eSame.f kj80 t362 t330).bind fun t366 => (if t366 = true then ((laws_eSum.f kj80 t333).bind fun t367 => (some (t367 == t341))) else (some false))) = some r := by rw [if_pos rfl] at H; exact H
          clear H
          have H := H1
          clear H1
          replace H := Option.bind_eq_some_iff.mp H
          obtain ⟨t366, A1160, H⟩ := H
          replace H : (if t366 = true then ((laws_eSum.f kj80 t333).bind fun t367 => (some (t367 == t341))) else (some false)) = some r := H
          have A116 := Aside0.mk A1160
          clear A1160
          by_cases c117 : t366 = true
          rotate_left
          ·replace c117 := Bool.eq_false_iff.mpr c117
           subst c117
           have H1 : (some false) = some r := by rw [if_neg (show ¬ (false = true) by decide)] at H; exact H
           clear H
           have H := H1
           clear H1
           exact absurd ((Option.some.inj H).trans hrt.out) (by decide)
          subst c117
          have H1 : ((laws_eSum.f kj80 t333).bind fun t367 => (some (t367 == t341))) = some r := by rw [if_pos rfl] at H; exact H
          clear H
          have H := H1
          clear H1
          replace H := Option.bind_eq_some_iff.mp H
          obtain ⟨t367, A1180, H⟩ := H
          replace H : (some (t367 == t341)) = some r := H
          have A118 := Aside0.mk A1180
          clear A1180
          obtain rfl := Option.some.inj H
          obtain ⟨Ao119, co119, eo119⟩ := Kd.R_slice HO_30.out
          subst eo119
          go_wp2_with (first | ((with_reducible refine gate_callee (f := 55) rfl ?_); refine gl 366 Try.func55 #[.int .i64 t329, .slice Ao119 t333.length co119] ?_; (with_reducible refine (impl_TipsOfRain.calls kj80 t329 _ _ t333 t362 true _ ?side1 ?side2 A114.out).mono ?_); (case side1 => exact cr HO_30); (case side2 => exact (Kd.R_reads' HO_30.out).2.1); rintro e w120 ⟨v364, rfl, ho0, hb⟩; refine ⟨_, rfl, ?_⟩; have HO365 := Aside0.mk (Kd.R_lower (Kd.R_new' (Kd.R_new' ho0 (Kd.R_lt (rk HO_29))) (Kd.R_lt (rk HO_30))) (below_size (bw HB))); replace HO_29 := Aside0.mk (Kd.R_elder' (rk HO_29) (Kd.R_base ho0) hb); replace HO_30 := Aside0.mk (Kd.R_elder' (rk HO_30) (Kd.R_base ho0) hb); replace HB := bs HB hb; (try clear hb); (try clear ho0); obtain ⟨Ao121, co121, eo121⟩ := Kd.R_slice HO365.out; subst eo121) | (go_at_call 29; (with_reducible refine (laws_eSame.calls kj80 _ _ t362 _ _ t330 true _ ?side1 ?side2 ?side3 ?side4 A116.out).mono ?_); (case side1 => exact cr HO365); (case side2 => exact (Kd.R_reads' HO365.out).2.1); (case side3 => exact cr HO_29); (case side4 => exact (Kd.R_reads' HO_29.out).2.1); rintro e w' ⟨rfl, ⟨nd, rfl⟩⟩) | (go_at_call 61; (with_reducible refine (laws_eSum.calls kj80 _ _ t333 t367 _ ?side1 ?side2 A118.out).mono ?_); (case side1 => exact cr HO_30); (case side2 => exact (Kd.R_reads' HO_30.out).2.1); rintro e w' ⟨rfl, ⟨nd, rfl⟩⟩))
          go_ret
          exact ⟨by first | rfl | (simp [errW_none, errW_some] <;> rfl) | (simp [*, errW_none, errW_some] <;> rfl), bw HB⟩
   
   /-- THE ONE PURE STATEMENT of laws_FnRainMeasured: yours. -/
def laws_FnRainMeasured.Pure : Prop := ∀ (l0 : List Int) (l1 : List Int), l0.length ≤ maxLen → l0.length * 1 ≤ 140737488351232 → (∀ x ∈ l0, (Lit.int .u8 x).wf = true) → l1.length ≤ maxLen → l1.length * 1 ≤ 140737488351232 → (∀ x ∈ l1, (Lit.int .u8 x).wf = true) → ∃ k, laws_FnRainMeasured.f k l0 l1 = some true
theorem laws_FnRainMeasured.walk (P : laws_FnRainMeasured.Pure) (a0 : Option Addr) (len0 cap0 : Nat) (z0 : List Int) (a1 : Option Addr) (len1 cap1 : Nat) (z1 : List Int) (w : World) (w0 : (a0 = none ∧ len0 = 0 ∧ cap0 = 0 ∧ z0 = []) ∨ ∃ x, a0 = some x ∧ len0 ≤ cap0 ∧ cap0 ≤ maxLen ∧ z0.length = cap0 ∧ (∀ i, i < z0.length → w.cell? (x.add i) = some (.int .u8 (z0.getD i 0))) ∧ ∀ n ∈ z0, (Lit.int .u8 n).wf = true) (y0 : len0 * 1 ≤ 140737488351232) (w1 : (a1 = none ∧ len1 = 0 ∧ cap1 = 0 ∧ z1 = []) ∨ ∃ x, a1 = some x ∧ len1 ≤ cap1 ∧ cap1 ≤ maxLen ∧ z1.length = cap1 ∧ (∀ i, i < z1.length → w.cell? (x.add i) = some (.int .u8 (z1.getD i 0))) ∧ ∀ n ∈ z1, (Lit.int .u8 n).wf = true) (y1 : len1 * 1 ≤ 140737488351232) :
  Calls Try.prog 5 #[.slice a0 len0 cap0, .slice a1 len1 cap1] w fun e w' => e = .returned (.bool true) ∧ Below w.heap.size w w' := by
 obtain ⟨l0, rfl, hr0, hm0, hw0, hc0⟩ := ReadsInt.ofRowC w0
 obtain ⟨l1, rfl, hr1, hm1, hw1, hc1⟩ := ReadsInt.ofRowC w1
 obtain ⟨k, h⟩ := P l0 l1 hm0 y0 hw0 hm1 y1 hw1
 refine (laws_FnRainMeasured.calls k _ _ l0 _ _ l1 true w (Kd.C_of_reads (d := (0 : Int)) (h1 := fun _ => rfl) hr0) hc0 (Kd.C_of_reads (d := (0 : Int)) (h1 := fun _ => rfl) hr1) hc1 ⟨rfl⟩ h).mono ?_
 rintro e w' ⟨rfl, hd⟩
 exact ⟨rfl, hd⟩

end Go.Proofs.Ytmlkdkeocbhajaa.R
