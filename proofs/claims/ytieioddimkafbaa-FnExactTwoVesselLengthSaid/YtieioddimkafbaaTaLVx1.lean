-- Functions of the program as plain functions, and that the calls come to them. Written by a program (ownprint.py); nothing here is trusted: Lean checks it.
import Derived.Test.YtieioddimkafbaaTaLUx1
namespace Go.Proofs.Ytieioddimkafbaa.V
open Go.RowKit Go.Proofs.YtieioddimkafbaaW.PrintWords Go.Proofs.YtieioddimkafbaaW.PrintLast Go.Proofs.YtieioddimkafbaaW.PrintMore Go.Proofs.Ytieioddimkafbaa.Sq
attribute [local go_sem] max2_int min2_int max_two min_two max_three min_three max_four min_four   -- for this text's walks alone
set_option linter.unusedVariables false
set_option linter.unusedSimpArgs false
def impl_TwoVesselLength.f (k : Nat) (a0 : Int) (a1 : Int) (a2 : Int) : Option (Int × Bool) := (impl_TwoVesselPlan.f k a0 a1 a2).bind fun bt130 => (some ((bt130.1.length : Int), bt130.2))
set_option maxHeartbeats 8000000 in
set_option maxRecDepth 100000 in
theorem impl_TwoVesselLength.calls (k : Nat) (a0 : Int) (a1 : Int) (a2 : Int) (r1 : Int) (r2 : Bool) (w : World) (h : impl_TwoVesselLength.f k a0 a1 a2 = some (r1, r2)) :
  Calls Try.prog 12 #[.int .i64 a0, .int .i64 a1, .int .i64 a2] w fun e w' => e = .returned (.tuple #[.int .i64 r1, .bool r2]) ∧ Below w.heap.size w w' := by
 have HB := Aside0.mk (Below.refl w.heap.size w)
 have H : ((impl_TwoVesselPlan.f k a0 a1 a2).bind fun bt130 => (some ((bt130.1.length : Int), bt130.2))) = some (r1, r2) := h
 clear h
 replace H := Option.bind_eq_some_iff.mp H
 obtain ⟨⟨t130, t131⟩, A40, H⟩ := H
 (try dsimp only at H)
 have A4 := Aside0.mk A40
 clear A40
 simp only [Option.some.injEq, Prod.mk.injEq] at H
 obtain ⟨rfl, rfl⟩ := H
 go_enter Try.func12, Try.ntmps12
 go_wp2_with (first | ((with_reducible refine gate_callee (f := 14) rfl ?_); refine gl 14 Try.func14 #[.int .i64 a0, .int .i64 a1, .int .i64 a2] ?_; (with_reducible refine (impl_TwoVesselPlan.calls k a0 a1 a2 t130 t131 _ A4.out).mono ?_); rintro e w5 ⟨v132, rfl, ho0, hb⟩; refine ⟨_, rfl, ?_⟩; have HO133 := lo ho0 HB; replace HB := bs HB hb; (try clear hb); (try clear ho0); obtain ⟨Ao6, co6, eo6⟩ := Kd.R_slice HO133.out; subst eo6))
 go_ret2
 exact ⟨by first | rfl | (simp [errW_none, errW_some] <;> rfl) | (simp [*, errW_none, errW_some] <;> rfl), bw HB⟩
def laws_FnExactTwoVesselLength.f (k : Nat) (a0 : Int) (a1 : Int) (a2 : Int) : Option (Bool) := (spec_TwoVesselLength.f k a0 a1 a2).bind fun bt134 => ((impl_TwoVesselLength.f k a0 a1 a2).bind fun bt136 => (if bt136.1 = bt134.1 then (if (bt136.2 != bt134.2) = true then (some false) else (some true)) else (some false)))
set_option maxHeartbeats 8000000 in
set_option maxRecDepth 100000 in
theorem laws_FnExactTwoVesselLength.calls (k : Nat) (a0 : Int) (a1 : Int) (a2 : Int) (r : Bool) (w : World) (hrt : Aside0 (r = true)) (h : laws_FnExactTwoVesselLength.f k a0 a1 a2 = some r) :
  Calls Try.prog 3 #[.int .i64 a0, .int .i64 a1, .int .i64 a2] w fun e w' => e = .returned (.bool r) ∧ Below w.heap.size w w' := by
 have HB := Aside0.mk (Below.refl w.heap.size w)
 have H : ((spec_TwoVesselLength.f k a0 a1 a2).bind fun bt134 => ((impl_TwoVesselLength.f k a0 a1 a2).bind fun bt136 => (if bt136.1 = bt134.1 then (if (bt136.2 != bt134.2) = true then (some false) else (some true)) else (some false)))) = some r := h
 clear h
 replace H := Option.bind_eq_some_iff.mp H
 obtain ⟨⟨t134, t135⟩, A40, H⟩ := H
 (try dsimp only at H)
 have A4 := Aside0.mk A40
 clear A40
 replace H := Option.bind_eq_some_iff.mp H
 obtain ⟨⟨t136, t137⟩, A50, H⟩ := H
 (try dsimp only at H)
 have A5 := Aside0.mk A50
 clear A50
 by_cases c6 : t136 = t134
 rotate_left
 ·rw [if_neg c6] at H
  have c6b0 : (t136 == t134) = false := beq_eq_false_iff_ne.mpr c6
  have c6b1 : (t136 != t134) = true := bne_iff_ne.mpr c6
  exact absurd ((Option.some.inj H).trans hrt.out) (by decide)
 rw [if_pos c6] at H
 have c6b0 : (t136 == t134) = true := beq_iff_eq.mpr c6
 have c6b1 : (t136 != t134) = false := bne_eq_false_iff_eq.mpr c6
 clear c6
 by_cases c7 : (t137 != t135) = true
 ·rw [if_pos c7] at H
  have c7b0 : (t137 != t135) = true := c7
  (try (have c7b1 : decide (t137 = t135) = false := by simpa using c7))
  (try (have c7b2 : (t137 == t135) = false := by simpa using c7))
  (try (have c7b3 : ¬ (t137 = t135) := by simpa using c7))
  clear c7
  exact absurd ((Option.some.inj H).trans hrt.out) (by decide)
 rw [if_neg c7] at H
 have c7b0 : (t137 != t135) = false := by simpa using c7
 (try (have c7b1 : decide (t137 = t135) = true := by simpa using c7))
 (try (have c7b2 : (t137 == t135) = true := by simpa using c7))
 clear c7
 obtain rfl := Option.some.inj H
 go_enter Try.func3, Try.ntmps3
 go_wp2_with (first | ((with_reducible refine gate_callee (f := 11) rfl ?_); refine gl 15 Try.func11 #[.int .i64 a0, .int .i64 a1, .int .i64 a2] ?_; (with_reducible refine (spec_TwoVesselLength.calls k a0 a1 a2 t134 t135 _ A4.out).mono ?_); rintro e w8 ⟨rfl, hb⟩; refine ⟨_, rfl, ?_⟩; replace HB := bs HB hb; (try clear hb)) | ((with_reducible refine gate_callee (f := 12) rfl ?_); refine gl 22 Try.func12 #[.int .i64 a0, .int .i64 a1, .int .i64 a2] ?_; (with_reducible refine (impl_TwoVesselLength.calls k a0 a1 a2 t136 t137 _ A5.out).mono ?_); rintro e w9 ⟨rfl, hb⟩; refine ⟨_, rfl, ?_⟩; replace HB := bs HB hb; (try clear hb)))
 go_ret
 exact ⟨by first | rfl | (simp [errW_none, errW_some] <;> rfl) | (simp [*, errW_none, errW_some] <;> rfl), bw HB⟩
end Go.Proofs.Ytieioddimkafbaa.V
