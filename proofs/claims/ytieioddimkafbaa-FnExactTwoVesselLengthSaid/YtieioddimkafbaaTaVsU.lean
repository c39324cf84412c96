/- Functions of the specification over all that is reached: as plain functions, and that the calls come to them. -/
import Derived.Test.YtieioddimkafbaaTaVplQ
import Derived.Test.YtieioddimkafbaaTaVsA
namespace Go.Proofs.Ytieioddimkafbaa.V
open Go.RowKit Go.Proofs.YtieioddimkafbaaW.PrintWords Go.Proofs.YtieioddimkafbaaW.PrintLast Go.Proofs.YtieioddimkafbaaW.PrintMore Go.Proofs.Ytieioddimkafbaa.Sq Go.Proofs.Ytieioddimkafbaa.Sep
attribute [local go_sem] max2_int min2_int max_two min_two max_three min_three max_four min_four
set_option linter.unusedVariables false
set_option linter.unusedSimpArgs false
def spec_TwoVesselPlan.f (k : Nat) (a0 : Int) (a1 : Int) (a2 : Int) : Option ((List (S55)) × Bool) := (spec_plTwo.f a0 a1).bind fun bt478 => ((spec_PlanToAmount.f k bt478.1 bt478.2 a2 false).bind fun bt484 => (some (bt484.1, bt484.2)))
set_option maxHeartbeats 8000000 in
set_option maxRecDepth 100000 in
theorem spec_TwoVesselPlan.calls (k : Nat) (a0 : Int) (a1 : Int) (a2 : Int) (r1 : List (S55)) (r2 : Bool) (w : World) (h : spec_TwoVesselPlan.f k a0 a1 a2 = some (r1, r2)) :
  Calls Try.prog 13 #[.int .i64 a0, .int .i64 a1, .int .i64 a2] w fun e w' => ∃ v0_ : Value, e = .returned (.tuple #[v0_, .bool r2]) ∧ Kd.R k55 55 w' w.heap.size (fun _ => True) v0_ r1 ∧ Below w.heap.size w w' := by
 have HB := Aside0.mk (Below.refl w.heap.size w)
 have H : ((spec_plTwo.f a0 a1).bind fun bt478 => ((spec_PlanToAmount.f k bt478.1 bt478.2 a2 false).bind fun bt484 => (some (bt484.1, bt484.2)))) = some (r1, r2) := h
 clear h
 replace H := Option.bind_eq_some_iff.mp H
 obtain ⟨⟨t478, t481⟩, A40, H⟩ := H
 (try dsimp only at H)
 have A4 := Aside0.mk A40
 clear A40
 replace H := Option.bind_eq_some_iff.mp H
 obtain ⟨⟨t484, t487⟩, A50, H⟩ := H
 (try dsimp only at H)
 have A5 := Aside0.mk A50
 clear A50
 simp only [Option.some.injEq, Prod.mk.injEq] at H
 obtain ⟨rfl, rfl⟩ := H
 go_enter Try.func13, Try.ntmps13
 go_wp2_with (first | ((with_reducible refine gate_callee (f := 37) rfl ?_); refine gl 10 Try.func37 #[.int .i64 a0, .int .i64 a1] ?_; (with_reducible refine (spec_plTwo.calls a0 a1 t478 t481 _ A4.out).mono ?_); rintro e w6 ⟨v479, v482, rfl, ho0, ho1, hb⟩; refine ⟨_, rfl, ?_⟩; have HO480 := lo ho0 HB; have HO483 := lo ho1 HB; replace HB := bs HB hb; (try clear hb); (try clear ho0); (try clear ho1); obtain ⟨Ao7, co7, eo7⟩ := Kd.R_slice HO480.out; subst eo7; obtain ⟨Ao8, co8, eo8⟩ := Kd.R_slice HO483.out; subst eo8) | ((with_reducible refine gate_callee (f := 19) rfl ?_); refine gl 12 Try.func19 #[.agg #[.slice Ao7 t478.length co7, .slice Ao8 t481.length co8], .int .i64 a2, .bool false] ?_; (with_reducible refine (spec_PlanToAmount.calls k _ _ t478 _ _ t481 a2 false t484 t487 _ ?side1 ?side2 ?side3 ?side4 A5.out).mono ?_); (case side1 => exact cr HO480); (case side2 => exact (Kd.R_reads' HO480.out).2.1); (case side3 => exact cr HO483); (case side4 => exact (Kd.R_reads' HO483.out).2.1); rintro e w9 ⟨v485, rfl, ho0, hb⟩; refine ⟨_, rfl, ?_⟩; replace HO480 := rb HO480 hb; replace HO483 := rb HO483 hb; have HO486 := lo ho0 HB; replace HB := bs HB hb; (try clear hb); (try clear ho0)))
 go_ret2
 exact ⟨_, by first | rfl | (simp [errW_none, errW_some] <;> rfl) | (simp [*, errW_none, errW_some] <;> rfl), rk HO486, bw HB⟩
def spec_TwoVesselLength.f (k : Nat) (a0 : Int) (a1 : Int) (a2 : Int) : Option (Int × Bool) := (spec_plTwo.f a0 a1).bind fun bt498 => ((spec_PlanToAmount.f k bt498.1 bt498.2 a2 false).bind fun bt504 => (if bt504.2 = true then (some ((bt504.1.length : Int), true)) else (some (0, false))))
set_option maxHeartbeats 8000000 in
set_option maxRecDepth 100000 in
theorem spec_TwoVesselLength.calls (k : Nat) (a0 : Int) (a1 : Int) (a2 : Int) (r1 : Int) (r2 : Bool) (w : World) (h : spec_TwoVesselLength.f k a0 a1 a2 = some (r1, r2)) :
  Calls Try.prog 11 #[.int .i64 a0, .int .i64 a1, .int .i64 a2] w fun e w' => e = .returned (.tuple #[.int .i64 r1, .bool r2]) ∧ Below w.heap.size w w' := by
 have HB := Aside0.mk (Below.refl w.heap.size w)
 have H : ((spec_plTwo.f a0 a1).bind fun bt498 => ((spec_PlanToAmount.f k bt498.1 bt498.2 a2 false).bind fun bt504 => (if bt504.2 = true then (some ((bt504.1.length : Int), true)) else (some (0, false))))) = some (r1, r2) := h
 clear h
 replace H := Option.bind_eq_some_iff.mp H
 obtain ⟨⟨t498, t501⟩, A40, H⟩ := H
 (try dsimp only at H)
 have A4 := Aside0.mk A40
 clear A40
 replace H := Option.bind_eq_some_iff.mp H
 obtain ⟨⟨t504, t507⟩, A50, H⟩ := H
 (try dsimp only at H)
 have A5 := Aside0.mk A50
 clear A50
 by_cases c6 : t507 = true
 ·subst c6
  have H1 : (some ((t504.length : Int), true)) = some (r1, r2) := by rw [if_pos rfl] at H; exact H
  clear H
  have H := H1
  clear H1
  simp only [Option.some.injEq, Prod.mk.injEq] at H
  obtain ⟨rfl, rfl⟩ := H
  go_enter Try.func11, Try.ntmps11
  go_wp2_with (first | ((with_reducible refine gate_callee (f := 37) rfl ?_); refine gl 13 Try.func37 #[.int .i64 a0, .int .i64 a1] ?_; (with_reducible refine (spec_plTwo.calls a0 a1 t498 t501 _ A4.out).mono ?_); rintro e w7 ⟨v499, v502, rfl, ho0, ho1, hb⟩; refine ⟨_, rfl, ?_⟩; have HO500 := lo ho0 HB; have HO503 := lo ho1 HB; replace HB := bs HB hb; (try clear hb); (try clear ho0); (try clear ho1); obtain ⟨Ao8, co8, eo8⟩ := Kd.R_slice HO500.out; subst eo8; obtain ⟨Ao9, co9, eo9⟩ := Kd.R_slice HO503.out; subst eo9) | ((with_reducible refine gate_callee (f := 19) rfl ?_); refine gl 15 Try.func19 #[.agg #[.slice Ao8 t498.length co8, .slice Ao9 t501.length co9], .int .i64 a2, .bool false] ?_; (with_reducible refine (spec_PlanToAmount.calls k _ _ t498 _ _ t501 a2 false t504 true _ ?side1 ?side2 ?side3 ?side4 A5.out).mono ?_); (case side1 => exact cr HO500); (case side2 => exact (Kd.R_reads' HO500.out).2.1); (case side3 => exact cr HO503); (case side4 => exact (Kd.R_reads' HO503.out).2.1); rintro e w10 ⟨v505, rfl, ho0, hb⟩; refine ⟨_, rfl, ?_⟩; replace HO500 := rb HO500 hb; replace HO503 := rb HO503 hb; have HO506 := lo ho0 HB; replace HB := bs HB hb; (try clear hb); (try clear ho0); obtain ⟨Ao11, co11, eo11⟩ := Kd.R_slice HO506.out; subst eo11))
  go_ret2
  exact ⟨by first | rfl | (simp [errW_none, errW_some] <;> rfl) | (simp [*, errW_none, errW_some] <;> rfl), bw HB⟩
 replace c6 := Bool.eq_false_iff.mpr c6
 subst c6
 have H1 : (some (0, false)) = some (r1, r2) := by rw [if_neg (show ¬ (false = true) by decide)] at H; exact H
 clear H
 have H := H1
 clear H1
 simp only [Option.some.injEq, Prod.mk.injEq] at H
 obtain ⟨rfl, rfl⟩ := H
 go_enter Try.func11, Try.ntmps11
 go_wp2_with (first | ((with_reducible refine gate_callee (f := 37) rfl ?_); refine gl 13 Try.func37 #[.int .i64 a0, .int .i64 a1] ?_; (with_reducible refine (spec_plTwo.calls a0 a1 t498 t501 _ A4.out).mono ?_); rintro e w12 ⟨v499, v502, rfl, ho0, ho1, hb⟩; refine ⟨_, rfl, ?_⟩; have HO500 := lo ho0 HB; have HO503 := lo ho1 HB; replace HB := bs HB hb; (try clear hb); (try clear ho0); (try clear ho1); obtain ⟨Ao13, co13, eo13⟩ := Kd.R_slice HO500.out; subst eo13; obtain ⟨Ao14, co14, eo14⟩ := Kd.R_slice HO503.out; subst eo14) | ((with_reducible refine gate_callee (f := 19) rfl ?_); refine gl 15 Try.func19 #[.agg #[.slice Ao13 t498.length co13, .slice Ao14 t501.length co14], .int .i64 a2, .bool false] ?_; (with_reducible refine (spec_PlanToAmount.calls k _ _ t498 _ _ t501 a2 false t504 false _ ?side1 ?side2 ?side3 ?side4 A5.out).mono ?_); (case side1 => exact cr HO500); (case side2 => exact (Kd.R_reads' HO500.out).2.1); (case side3 => exact cr HO503); (case side4 => exact (Kd.R_reads' HO503.out).2.1); rintro e w15 ⟨v505, rfl, ho0, hb⟩; refine ⟨_, rfl, ?_⟩; replace HO500 := rb HO500 hb; replace HO503 := rb HO503 hb; have HO506 := lo ho0 HB; replace HB := bs HB hb; (try clear hb); (try clear ho0)))
 go_ret2
 exact ⟨by first | rfl | (simp [errW_none, errW_some] <;> rfl) | (simp [*, errW_none, errW_some] <;> rfl), bw HB⟩
end Go.Proofs.Ytieioddimkafbaa.V
