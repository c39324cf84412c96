-- Functions of the program as plain functions, and that the calls come to them. Written by a program (ownprint.py); nothing here is trusted: Lean checks it.
import Derived.Test.YtmlkdkeocbhajaaGvCut
import Derived.Test.YtmlkdkeocbhajaaCx0
import Derived.Test.YtmlkdkeocbhajaaCx1
import Derived.Test.YtmlkdkeocbhajaaCx2
import Derived.Test.YtmlkdkeocbhajaaCx3
import Derived.Test.YtmlkdkeocbhajaaCx4
namespace Go.Proofs.Ytmlkdkeocbhajaa.C
open Go.RowKit Go.Proofs.YtmlkdkeocbhajaaW.PrintWords Go.Proofs.YtmlkdkeocbhajaaW.PrintLast Go.Proofs.YtmlkdkeocbhajaaW.PrintMore Go.Proofs.Ytmlkdkeocbhajaa.Sq
attribute [local go_sem] max2_int min2_int max_two min_two max_three min_three max_four min_four   -- for this text's walks alone
set_option linter.unusedVariables false
set_option linter.unusedSimpArgs false

attribute [local go_sem high] eqA49
theorem sqa (a : Act) (N : Tmp) (v : Value) : a.put (some N) v = { a with tmps := a.tmps.setIfInBounds N v } := rfl
theorem sqb {α : Type _} (l : List α) (i : Nat) (a : α) : l.toArray.setIfInBounds i a = (l.set i a).toArray := by simp
theorem sqc {α : Type _} (x a : α) (l : List α) : (x :: l).set 0 a = a :: l := rfl
theorem sqd {α : Type _} (x a : α) (l : List α) (n : Nat) : (x :: l).set (n + 1) a = x :: l.set n a := rfl
open laws_FnClocksRun (j0 j1 j3 j4 j5 j6 j8 j9 j10 j11 j12 j13 j14 j15)
set_option maxHeartbeats 8000000 in
set_option maxRecDepth 100000 in
theorem laws_FnClocksRun.calls (k : Nat) (A0 : Option Addr) (c0 : Nat) (l0 : List Int) (A1 : Option Addr) (c1 : Nat) (l1 : List Int) (r : Bool) (w : World) (hr0 : Kd.C (Kd.int .u8) w A0 l0.length l0) (hc0 : l0.length ≤ c0) (hr1 : Kd.C (Kd.int .u8) w A1 l1.length l1) (hc1 : l1.length ≤ c1) (hrt : Aside0 (r = true)) (h : laws_FnClocksRun.f k l0 l1 = some r) :
  Calls Try.prog 4 #[.slice A0 l0.length c0, .slice A1 l1.length c1] w fun e w' => e = .returned (.bool r) ∧ Below w.heap.size w w' := by
 have hu49 := Try.underlying49
 have HR0 := Aside0.mk hr0
 have HC0 := Aside0.mk hc0
 clear hr0 hc0
 have HR1 := Aside0.mk hr1
 have HC1 := Aside0.mk hc1
 clear hr1 hc1
 have HB := Aside0.mk (Below.refl w.heap.size w)
 have H : ((laws_big.f l0 l1).bind fun t348 => (if t348 = true then (some true) else ((spec_DrawLevelsOfClock.f l0).bind fun bt349 => ((impl_LevelsOfClock.f k bt349.1 bt349.2).bind fun bt352 => ((spec_LevelsOfClock.f k bt349.1 bt349.2).bind fun bt356 => ((impl_TimeToEmpty.f k bt349.1 bt349.2).bind fun bt360 => ((spec_TimeToEmpty.f k bt349.1 bt349.2).bind fun bt362 => ((impl_DropOf.f bt349.1 bt349.2).bind fun bt364 => ((spec_DropOf.f bt349.1 bt349.2).bind fun bt366 => (if (bt352.2 != bt356.2) = true then (j0 k l1 bt352.1 bt352.2 bt360.1 true bt349.1 bt349.2) else ((laws_eSame.f k bt352.1 bt356.1).bind fun t368 => (if t368 = true then (if (bt360.2 != bt362.2) = true then (j0 k l1 bt352.1 bt352.2 bt360.1 true bt349.1 bt349.2) else (if bt360.1 = bt362.1 then (if (bt364.2 != bt366.2) = true then (j0 k l1 bt352.1 bt352.2 bt360.1 true bt349.1 bt349.2) else (if bt364.1 = bt366.1 then ((impl_IsClock.f bt349.1 bt349.2).bind fun t369 => (if (bt360.2 != t369) = true then (j0 k l1 bt352.1 bt352.2 bt360.1 true bt349.1 bt349.2) else ((impl_IsClock.f bt349.1 bt349.2).bind fun t370 => ((spec_IsClock.f bt349.1 bt349.2).bind fun t371 => (if (t370 != t371) = true then (j0 k l1 bt352.1 bt352.2 bt360.1 true bt349.1 bt349.2) else (if (bt364.2 != bt360.2) = true then (j0 k l1 bt352.1 bt352.2 bt360.1 true bt349.1 bt349.2) else (if bt352.2 = true then (j0 k l1 bt352.1 bt352.2 bt360.1 (!bt360.2) bt349.1 bt349.2) else (j0 k l1 bt352.1 bt352.2 bt360.1 false bt349.1 bt349.2)))))))) else (j0 k l1 bt352.1 bt352.2 bt360.1 true bt349.1 bt349.2))) else (j0 k l1 bt352.1 bt352.2 bt360.1 true bt349.1 bt349.2))) else (j0 k l1 bt352.1 bt352.2 bt360.1 true bt349.1 bt349.2))))))))))))) = some r := h
 clear h
 replace H := Option.bind_eq_some_iff.mp H
 obtain ⟨t348, A30, H⟩ := H
 replace H : (if t348 = true then (some true) else ((spec_DrawLevelsOfClock.f l0).bind fun bt349 => ((impl_LevelsOfClock.f k bt349.1 bt349.2).bind fun bt352 => ((spec_LevelsOfClock.f k bt349.1 bt349.2).bind fun bt356 => ((impl_TimeToEmpty.f k bt349.1 bt349.2).bind fun bt360 => ((spec_TimeToEmpty.f k bt349.1 bt349.2).bind fun bt362 => ((impl_DropOf.f bt349.1 bt349.2).bind fun bt364 => ((spec_DropOf.f bt349.1 bt349.2).bind fun bt366 => (if (bt352.2 != bt356.2) = true then (j0 k l1 bt352.1 bt352.2 bt360.1 true bt349.1 bt349.2) else ((laws_eSame.f k bt352.1 bt356.1).bind fun t368 => (if t368 = true then (if (bt360.2 != bt362.2) = true then (j0 k l1 bt352.1 bt352.2 bt360.1 true bt349.1 bt349.2) else (if bt360.1 = bt362.1 then (if (bt364.2 != bt366.2) = true then (j0 k l1 bt352.1 bt352.2 bt360.1 true bt349.1 bt349.2) else (if bt364.1 = bt366.1 then ((impl_IsClock.f bt349.1 bt349.2).bind fun t369 => (if (bt360.2 != t369) = true then (j0 k l1 bt352.1 bt352.2 bt360.1 true bt349.1 bt349.2) else ((impl_IsClock.f bt349.1 bt349.2).bind fun t370 => ((spec_IsClock.f bt349.1 bt349.2).bind fun t371 => (if (t370 != t371) = true then (j0 k l1 bt352.1 bt352.2 bt360.1 true bt349.1 bt349.2) else (if (bt364.2 != bt360.2) = true then (j0 k l1 bt352.1 bt352.2 bt360.1 true bt349.1 bt349.2) else (if bt352.2 = true then (j0 k l1 bt352.1 bt352.2 bt360.1 (!bt360.2) bt349.1 bt349.2) else (j0 k l1 bt352.1 bt352.2 bt360.1 false bt349.1 bt349.2)))))))) else (j0 k l1 bt352.1 bt352.2 bt360.1 true bt349.1 bt349.2))) else (j0 k l1 bt352.1 bt352.2 bt360.1 true bt349.1 bt349.2))) else (j0 k l1 bt352.1 bt352.2 bt360.1 true bt349.1 bt349.2)))))))))))) = some r := H
 have A3 := Aside0.mk A30
 clear A30
 by_cases c4 : t348 = true
 ·subst c4
  have H1 : (some true) = some r := by rw [if_pos rfl] at H; exact H
  clear H
  have H := H1
  clear H1
  obtain rfl := Option.some.inj H
  go_enter Try.func4, Try.ntmps4
  go_wp2_with (first | ((with_reducible refine gate_callee (f := 10) rfl ?_); refine gl 72 Try.func10 #[.slice A0 l0.length c0, .slice A1 l1.length c1] ?_; (with_reducible refine (laws_big.calls _ _ l0 _ _ l1 true _ ?side1 ?side2 ?side3 ?side4 A3.out).mono ?_); (case side1 => repeat (first | exact HR0.out | (with_reducible refine Kd.C_alloc ?_ _) | (with_reducible refine Kd.C_drewN ?_ _) | (with_reducible refine Kd.C_drew ?_))); (case side2 => exact HC0.out); (case side3 => repeat (first | exact HR1.out | (with_reducible refine Kd.C_alloc ?_ _) | (with_reducible refine Kd.C_drewN ?_ _) | (with_reducible refine Kd.C_drew ?_))); (case side4 => exact HC1.out); rintro e w' ⟨rfl, ⟨nd, rfl⟩⟩; refine ⟨_, rfl, ?_⟩))
  go_ret
  exact ⟨by first | rfl | (simp [errW_none, errW_some] <;> rfl) | (simp [*, errW_none, errW_some] <;> rfl), bw HB⟩
 replace c4 := Bool.eq_false_iff.mpr c4
 subst c4
 have H1 : ((spec_DrawLevelsOfClock.f l0).bind fun bt349 => ((impl_LevelsOfClock.f k bt349.1 bt349.2).bind fun bt352 => ((spec_LevelsOfClock.f k bt349.1 bt349.2).bind fun bt356 => ((impl_TimeToEmpty.f k bt349.1 bt349.2).bind fun bt360 => ((spec_TimeToEmpty.f k bt349.1 bt349.2).bind fun bt362 => ((impl_DropOf.f bt349.1 bt349.2).bind fun bt364 => ((spec_DropOf.f bt349.1 bt349.2).bind fun bt366 => (if (bt352.2 != bt356.2) = true then (j0 k l1 bt352.1 bt352.2 bt360.1 true bt349.1 bt349.2) else ((laws_eSame.f k bt352.1 bt356.1).bind fun t368 => (if t368 = true then (if (bt360.2 != bt362.2) = true then (j0 k l1 bt352.1 bt352.2 bt360.1 true bt349.1 bt349.2) else (if bt360.1 = bt362.1 then (if (bt364.2 != bt366.2) = true then (j0 k l1 bt352.1 bt352.2 bt360.1 true bt349.1 bt349.2) else (if bt364.1 = bt366.1 then ((impl_IsClock.f bt349.1 bt349.2).bind fun t369 => (if (bt360.2 != t369) = true then (j0 k l1 bt352.1 bt352.2 bt360.1 true bt349.1 bt349.2) else ((impl_IsClock.f bt349.1 bt349.2).bind fun t370 => ((spec_IsClock.f bt349.1 bt349.2).bind fun t371 => (if (t370 != t371) = true then (j0 k l1 bt352.1 bt352.2 bt360.1 true bt349.1 bt349.2) else (if (bt364.2 != bt360.2) = true then (j0 k l1 bt352.1 bt352.2 bt360.1 true bt349.1 bt349.2) else (if bt352.2 = true then (j0 k l1 bt352.1 bt352.2 bt360.1 (!bt360.2) bt349.1 bt349.2) else (j0 k l1 bt352.1 bt352.2 bt360.1 false bt349.1 bt349.2)))))))) else (j0 k l1 bt352.1 bt352.2 bt360.1 true bt349.1 bt349.2))) else (j0 k l1 bt352.1 bt352.2 bt360.1 true bt349.1 bt349.2))) else (j0 k l1 bt352.1 bt352.2 bt360.1 true bt349.1 bt349.2))))))))))) = some r := by rw [if_neg (show ¬ (false = true) by decide)] at H; exact H
 clear H
 have H := H1
 clear H1
 replace H := Option.bind_eq_some_iff.mp H
 obtain ⟨⟨t349, t350⟩, A50, H⟩ := H
 replace H : ((impl_LevelsOfClock.f k t349 t350).bind fun bt352 => ((spec_LevelsOfClock.f k t349 t350).bind fun bt356 => ((impl_TimeToEmpty.f k t349 t350).bind fun bt360 => ((spec_TimeToEmpty.f k t349 t350).bind fun bt362 => ((impl_DropOf.f t349 t350).bind fun bt364 => ((spec_DropOf.f t349 t350).bind fun bt366 => (if (bt352.2 != bt356.2) = true then (j0 k l1 bt352.1 bt352.2 bt360.1 true t349 t350) else ((laws_eSame.f k bt352.1 bt356.1).bind fun t368 => (if t368 = true then (if (bt360.2 != bt362.2) = true then (j0 k l1 bt352.1 bt352.2 bt360.1 true t349 t350) else (if bt360.1 = bt362.1 then (if (bt364.2 != bt366.2) = true then (j0 k l1 bt352.1 bt352.2 bt360.1 true t349 t350) else (if bt364.1 = bt366.1 then ((impl_IsClock.f t349 t350).bind fun t369 => (if (bt360.2 != t369) = true then (j0 k l1 bt352.1 bt352.2 bt360.1 true t349 t350) else ((impl_IsClock.f t349 t350).bind fun t370 => ((spec_IsClock.f t349 t350).bind fun t371 => (if (t370 != t371) = true then (j0 k l1 bt352.1 bt352.2 bt360.1 true t349 t350) else (if (bt364.2 != bt360.2) = true then (j0 k l1 bt352.1 bt352.2 bt360.1 true t349 t350) else (if bt352.2 = true then (j0 k l1 bt352.1 bt352.2 bt360.1 (!bt360.2) t349 t350) else (j0 k l1 bt352.1 bt352.2 bt360.1 false t349 t350)))))))) else (j0 k l1 bt352.1 bt352.2 bt360.1 true t349 t350))) else (j0 k l1 bt352.1 bt352.2 bt360.1 true t349 t350))) else (j0 k l1 bt352.1 bt352.2 bt360.1 true t349 t350)))))))))) = some r := H
 have A5 := Aside0.mk A50
 clear A50
 replace H := Option.bind_eq_some_iff.mp H
 obtain ⟨⟨t352, t355⟩, A60, H⟩ := H
 replace H : ((spec_LevelsOfClock.f k t349 t350).bind fun bt356 => ((impl_TimeToEmpty.f k t349 t350).bind fun bt360 => ((spec_TimeToEmpty.f k t349 t350).bind fun bt362 => ((impl_DropOf.f t349 t350).bind fun bt364 => ((spec_DropOf.f t349 t350).bind fun bt366 => (if (t355 != bt356.2) = true then (j0 k l1 t352 t355 bt360.1 true t349 t350) else ((laws_eSame.f k t352 bt356.1).bind fun t368 => (if t368 = true then (if (bt360.2 != bt362.2) = true then (j0 k l1 t352 t355 bt360.1 true t349 t350) else (if bt360.1 = bt362.1 then (if (bt364.2 != bt366.2) = true then (j0 k l1 t352 t355 bt360.1 true t349 t350) else (if bt364.1 = bt366.1 then ((impl_IsClock.f t349 t350).bind fun t369 => (if (bt360.2 != t369) = true then (j0 k l1 t352 t355 bt360.1 true t349 t350) else ((impl_IsClock.f t349 t350).bind fun t370 => ((spec_IsClock.f t349 t350).bind fun t371 => (if (t370 != t371) = true then (j0 k l1 t352 t355 bt360.1 true t349 t350) else (if (bt364.2 != bt360.2) = true then (j0 k l1 t352 t355 bt360.1 true t349 t350) else (if t355 = true then (j0 k l1 t352 t355 bt360.1 (!bt360.2) t349 t350) else (j0 k l1 t352 t355 bt360.1 false t349 t350)))))))) else (j0 k l1 t352 t355 bt360.1 true t349 t350))) else (j0 k l1 t352 t355 bt360.1 true t349 t350))) else (j0 k l1 t352 t355 bt360.1 true t349 t350))))))))) = some r := H
 have A6 := Aside0.mk A60
 clear A60
 replace H := Option.bind_eq_some_iff.mp H
 obtain ⟨⟨t356, t359⟩, A70, H⟩ := H
 replace H : ((impl_TimeToEmpty.f k t349 t350).bind fun bt360 => ((spec_TimeToEmpty.f k t349 t350).bind fun bt362 => ((impl_DropOf.f t349 t350).bind fun bt364 => ((spec_DropOf.f t349 t350).bind fun bt366 => (if (t355 != t359) = true then (j0 k l1 t352 t355 bt360.1 true t349 t350) else ((laws_eSame.f k t352 t356).bind fun t368 => (if t368 = true then (if (bt360.2 != bt362.2) = true then (j0 k l1 t352 t355 bt360.1 true t349 t350) else (if bt360.1 = bt362.1 then (if (bt364.2 != bt366.2) = true then (j0 k l1 t352 t355 bt360.1 true t349 t350) else (if bt364.1 = bt366.1 then ((impl_IsClock.f t349 t350).bind fun t369 => (if (bt360.2 != t369) = true then (j0 k l1 t352 t355 bt360.1 true t349 t350) else ((impl_IsClock.f t349 t350).bind fun t370 => ((spec_IsClock.f t349 t350).bind fun t371 => (if (t370 != t371) = true then (j0 k l1 t352 t355 bt360.1 true t349 t350) else (if (bt364.2 != bt360.2) = true then (j0 k l1 t352 t355 bt360.1 true t349 t350) else (if t355 = true then (j0 k l1 t352 t355 bt360.1 (!bt360.2) t349 t350) else (j0 k l1 t352 t355 bt360.1 false t349 t350)))))))) else (j0 k l1 t352 t355 bt360.1 true t349 t350))) else (j0 k l1 t352 t355 bt360.1 true t349 t350))) else (j0 k l1 t352 t355 bt360.1 true t349 t350)))))))) = some r := H
 have A7 := Aside0.mk A70
 clear A70
 replace H := Option.bind_eq_some_iff.mp H
 obtain ⟨⟨t360, t361⟩, A80, H⟩ := H
 replace H : ((spec_TimeToEmpty.f k t349 t350).bind fun bt362 => ((impl_DropOf.f t349 t350).bind fun bt364 => ((spec_DropOf.f t349 t350).bind fun bt366 => (if (t355 != t359) = true then (j0 k l1 t352 t355 t360 true t349 t350) else ((laws_eSame.f k t352 t356).bind fun t368 => (if t368 = true then (if (t361 != bt362.2) = true then (j0 k l1 t352 t355 t360 true t349 t350) else (if t360 = bt362.1 then (if (bt364.2 != bt366.2) = true then (j0 k l1 t352 t355 t360 true t349 t350) else (if bt364.1 = bt366.1 then ((impl_IsClock.f t349 t350).bind fun t369 => (if (t361 != t369) = true then (j0 k l1 t352 t355 t360 true t349 t350) else ((impl_IsClock.f t349 t350).bind fun t370 => ((spec_IsClock.f t349 t350).bind fun t371 => (if (t370 != t371) = true then (j0 k l1 t352 t355 t360 true t349 t350) else (if (bt364.2 != t361) = true then (j0 k l1 t352 t355 t360 true t349 t350) else (if t355 = true then (j0 k l1 t352 t355 t360 (!t361) t349 t350) else (j0 k l1 t352 t355 t360 false t349 t350)))))))) else (j0 k l1 t352 t355 t360 true t349 t350))) else (j0 k l1 t352 t355 t360 true t349 t350))) else (j0 k l1 t352 t355 t360 true t349 t350))))))) = some r := H
 have A8 := Aside0.mk A80
 clear A80
 replace H := Option.bind_eq_some_iff.mp H
 obtain ⟨⟨t362, t363⟩, A90, H⟩ := H
 replace H : ((impl_DropOf.f t349 t350).bind fun bt364 => ((spec_DropOf.f t349 t350).bind fun bt366 => (if (t355 != t359) = true then (j0 k l1 t352 t355 t360 true t349 t350) else ((laws_eSame.f k t352 t356).bind fun t368 => (if t368 = true then (if (t361 != t363) = true then (j0 k l1 t352 t355 t360 true t349 t350) else (if t360 = t362 then (if (bt364.2 != bt366.2) = true then (j0 k l1 t352 t355 t360 true t349 t350) else (if bt364.1 = bt366.1 then ((impl_IsClock.f t349 t350).bind fun t369 => (if (t361 != t369) = true then (j0 k l1 t352 t355 t360 true t349 t350) else ((impl_IsClock.f t349 t350).bind fun t370 => ((spec_IsClock.f t349 t350).bind fun t371 => (if (t370 != t371) = true then (j0 k l1 t352 t355 t360 true t349 t350) else (if (bt364.2 != t361) = true then (j0 k l1 t352 t355 t360 true t349 t350) else (if t355 = true then (j0 k l1 t352 t355 t360 (!t361) t349 t350) else (j0 k l1 t352 t355 t360 false t349 t350)))))))) else (j0 k l1 t352 t355 t360 true t349 t350))) else (j0 k l1 t352 t355 t360 true t349 t350))) else (j0 k l1 t352 t355 t360 true t349 t350)))))) = some r := H
 have A9 := Aside0.mk A90
 clear A90
 replace H := Option.bind_eq_some_iff.mp H
 obtain ⟨⟨t364, t365⟩, A100, H⟩ := H
 replace H : ((spec_DropOf.f t349 t350).bind fun bt366 => (if (t355 != t359) = true then (j0 k l1 t352 t355 t360 true t349 t350) else ((laws_eSame.f k t352 t356).bind fun t368 => (if t368 = true then (if (t361 != t363) = true then (j0 k l1 t352 t355 t360 true t349 t350) else (if t360 = t362 then (if (t365 != bt366.2) = true then (j0 k l1 t352 t355 t360 true t349 t350) else (if t364 = bt366.1 then ((impl_IsClock.f t349 t350).bind fun t369 => (if (t361 != t369) = true then (j0 k l1 t352 t355 t360 true t349 t350) else ((impl_IsClock.f t349 t350).bind fun t370 => ((spec_IsClock.f t349 t350).bind fun t371 => (if (t370 != t371) = true then (j0 k l1 t352 t355 t360 true t349 t350) else (if (t365 != t361) = true then (j0 k l1 t352 t355 t360 true t349 t350) else (if t355 = true then (j0 k l1 t352 t355 t360 (!t361) t349 t350) else (j0 k l1 t352 t355 t360 false t349 t350)))))))) else (j0 k l1 t352 t355 t360 true t349 t350))) else (j0 k l1 t352 t355 t360 true t349 t350))) else (j0 k l1 t352 t355 t360 true t349 t350))))) = some r := H
 have A10 := Aside0.mk A100
 clear A100
 replace H := Option.bind_eq_some_iff.mp H
 obtain ⟨⟨t366, t367⟩, A110, H⟩ := H
 replace H : (if (t355 != t359) = true then (j0 k l1 t352 t355 t360 true t349 t350) else ((laws_eSame.f k t352 t356).bind fun t368 => (if t368 = true then (if (t361 != t363) = true then (j0 k l1 t352 t355 t360 true t349 t350) else (if t360 = t362 then (if (t365 != t367) = true then (j0 k l1 t352 t355 t360 true t349 t350) else (if t364 = t366 then ((impl_IsClock.f t349 t350).bind fun t369 => (if (t361 != t369) = true then (j0 k l1 t352 t355 t360 true t349 t350) else ((impl_IsClock.f t349 t350).bind fun t370 => ((spec_IsClock.f t349 t350).bind fun t371 => (if (t370 != t371) = true then (j0 k l1 t352 t355 t360 true t349 t350) else (if (t365 != t361) = true then (j0 k l1 t352 t355 t360 true t349 t350) else (if t355 = true then (j0 k l1 t352 t355 t360 (!t361) t349 t350) else (j0 k l1 t352 t355 t360 false t349 t350)))))))) else (j0 k l1 t352 t355 t360 true t349 t350))) else (j0 k l1 t352 t355 t360 true t349 t350))) else (j0 k l1 t352 t355 t360 true t349 t350)))) = some r := H
 have A11 := Aside0.mk A110
 clear A110
 have HC12 := Aside0.mk H
 clear H
 go_enter Try.func4, Try.ntmps4
 go_upto_region 10 with (first | ((with_reducible refine gate_callee (f := 10) rfl ?_); refine gl 72 Try.func10 #[.slice A0 l0.length c0, .slice A1 l1.length c1] ?_; (with_reducible refine (laws_big.calls _ _ l0 _ _ l1 false _ ?side1 ?side2 ?side3 ?side4 A3.out).mono ?_); (case side1 => repeat (first | exact HR0.out | (with_reducible refine Kd.C_alloc ?_ _) | (with_reducible refine Kd.C_drewN ?_ _) | (with_reducible refine Kd.C_drew ?_))); (case side2 => exact HC0.out); (case side3 => repeat (first | exact HR1.out | (with_reducible refine Kd.C_alloc ?_ _) | (with_reducible refine Kd.C_drewN ?_ _) | (with_reducible refine Kd.C_drew ?_))); (case side4 => exact HC1.out); rintro e w' ⟨rfl, ⟨nd, rfl⟩⟩; refine ⟨_, rfl, ?_⟩) | ((with_reducible refine gate_callee (f := 30) rfl ?_); refine gl 74 Try.func30 #[.slice A0 l0.length c0] ?_; (with_reducible refine (spec_DrawLevelsOfClock.calls _ _ l0 t349 t350 _ ?side1 ?side2 A5.out).mono ?_); (case side1 => repeat (first | exact HR0.out | (with_reducible refine Kd.C_alloc ?_ _) | (with_reducible refine Kd.C_drewN ?_ _) | (with_reducible refine Kd.C_drew ?_))); (case side2 => exact HC0.out); rintro e w13 ⟨rfl, hb⟩; refine ⟨_, rfl, ?_⟩; replace HB := bs HB hb; (try clear hb)) | ((with_reducible refine gate_dst (N := 5) rfl ?_); (try (refine gate_guard (by rfl) ?_; dsimp only)); refine bx 5 #[.int .i64 0, .int .i64 0] 49 ?_; intro gb351 hg w14 hbox hb; have BK351 := Aside0.mk (hbox); have GW351 := ge HB hg; have GE351 := ge HB hg; replace HB := bs HB hb; clear hb hbox hg; have hcz15_0 := bc0 BK351; have hcz15_1 := bc1 BK351; have hfz15_0 := blk_frozen BK351.out 0; have hfz15_1 := blk_frozen BK351.out 1) | ((with_reducible refine gate_callee (f := 31) rfl ?_); refine gl 77 Try.func31 #[.agg #[.int .i64 t349, .int .i64 t350]] ?_; (with_reducible refine (impl_LevelsOfClock.calls k t349 t350 t352 t355 _ A6.out).mono ?_); rintro e w16 ⟨v353, rfl, ho0, hb⟩; refine ⟨_, rfl, ?_⟩; have HO354 := lo ho0 HB; replace BK351 := Aside0.mk (blk_below (g := gb351) (o := .cells #[.int .i64 t349, .int .i64 t350] 49 (0, 0)) (by (with_reducible repeat (first | refine blk_drewN ?_ _ | refine blk_drew ?_ | refine blk_alloc ?_ _)); refine blk_put (cs := #[.int .i64 t349, .int .i64 0]) ?_ 1 _ rfl; (with_reducible repeat (first | refine blk_drewN ?_ _ | refine blk_drew ?_ | refine blk_alloc ?_ _)); refine blk_put (cs := #[.int .i64 0, .int .i64 0]) ?_ 0 _ rfl; exact bk BK351) hb); replace HB := bs HB hb; (try clear hb); (try clear ho0); have hcz17_0 := bc0 BK351; have hcz17_1 := bc1 BK351; have hfz17_0 := blk_frozen BK351.out 0; have hfz17_1 := blk_frozen BK351.out 1) | ((with_reducible refine gate_callee (f := 32) rfl ?_); refine gl 82 Try.func32 #[.agg #[.int .i64 t349, .int .i64 t350]] ?_; (with_reducible refine (spec_LevelsOfClock.calls k t349 t350 t356 t359 _ A7.out).mono ?_); rintro e w18 ⟨v357, rfl, ho0, hb⟩; refine ⟨_, rfl, ?_⟩; have HO358 := Aside0.mk (Kd.R_lower (Kd.R_new' ho0 (Kd.R_lt (rk HO354))) (below_size (bw HB))); replace HO354 := Aside0.mk (Kd.R_elder' (rk HO354) (Kd.R_base ho0) hb); replace BK351 := bb BK351 hb; replace HB := bs HB hb; (try clear hb); (try clear ho0); have hcz19_0 := bc0 BK351; have hcz19_1 := bc1 BK351; have hfz19_0 := blk_frozen BK351.out 0; have hfz19_1 := blk_frozen BK351.out 1) | ((with_reducible refine gate_callee (f := 33) rfl ?_); refine gl 87 Try.func33 #[.agg #[.int .i64 t349, .int .i64 t350]] ?_; (with_reducible refine (impl_TimeToEmpty.calls k t349 t350 t360 t361 _ A8.out).mono ?_); rintro e w20 ⟨rfl, hb⟩; refine ⟨_, rfl, ?_⟩; replace HO354 := rb HO354 hb; replace HO358 := rb HO358 hb; replace BK351 := bb BK351 hb; replace HB := bs HB hb; (try clear hb); have hcz21_0 := bc0 BK351; have hcz21_1 := bc1 BK351; have hfz21_0 := blk_frozen BK351.out 0; have hfz21_1 := blk_frozen BK351.out 1) | ((with_reducible refine gate_callee (f := 34) rfl ?_); refine gl 92 Try.func34 #[.agg #[.int .i64 t349, .int .i64 t350]] ?_; (with_reducible refine (spec_TimeToEmpty.calls k t349 t350 t362 t363 _ A9.out).mono ?_); rintro e w22 ⟨rfl, hb⟩; refine ⟨_, rfl, ?_⟩; replace HO354 := rb HO354 hb; replace HO358 := rb HO358 hb; replace BK351 := bb BK351 hb; replace HB := bs HB hb; (try clear hb); have hcz23_0 := bc0 BK351; have hcz23_1 := bc1 BK351; have hfz23_0 := blk_frozen BK351.out 0; have hfz23_1 := blk_frozen BK351.out 1) | ((with_reducible refine gate_callee (f := 35) rfl ?_); refine gl 97 Try.func35 #[.agg #[.int .i64 t349, .int .i64 t350]] ?_; (with_reducible refine (impl_DropOf.calls t349 t350 t364 t365 _ A10.out).mono ?_); rintro e w24 ⟨rfl, hb⟩; refine ⟨_, rfl, ?_⟩; replace HO354 := rb HO354 hb; replace HO358 := rb HO358 hb; replace BK351 := bb BK351 hb; replace HB := bs HB hb; (try clear hb); have hcz25_0 := bc0 BK351; have hcz25_1 := bc1 BK351; have hfz25_0 := blk_frozen BK351.out 0; have hfz25_1 := blk_frozen BK351.out 1) | ((with_reducible refine gate_callee (f := 36) rfl ?_); refine gl 102 Try.func36 #[.agg #[.int .i64 t349, .int .i64 t350]] ?_; (with_reducible refine (spec_DropOf.calls t349 t350 t366 t367 _ A11.out).mono ?_); rintro e w26 ⟨rfl, hb⟩; refine ⟨_, rfl, ?_⟩; replace HO354 := rb HO354 hb; replace HO358 := rb HO358 hb; replace BK351 := bb BK351 hb; replace HB := bs HB hb; (try clear hb)))
 (try simp only [sqa, sqb, sqc, sqd])
 refine cutF (rl [70, 110, 3, 161, 3, 210] false) (fun u_ wc => ∃ (kq : Nat) (x158_11 : Bool), (u_ 158) = .bool x158_11 ∧ Aside0 (j0 kq l1 t352 t355 t360 x158_11 t349 t350 = some r) ∧ Aside0 (kq ≤ k) ∧ Aside0 (Kd.R (Kd.int .i64) 3 wc w.heap.size (fun _ => True) v353 t352) ∧ Aside0 (wc.heap[gb351]? = some (.cells #[.int .i64 t349, .int .i64 t350] 49 (0, 0))) ∧ Aside0 (Below w.heap.size w wc)) ?first1 ?rest1
 case first1 =>
  as_aux_lemma =>
  intro J_ K_ hJ_ hK_
  have H := HC12.out
  clear HC12
  by_cases c27 : (t355 != t359) = true
  ·rw [if_pos c27] at H
   have c27b0 : (t355 != t359) = true := c27
   (try (have c27b1 : decide (t355 = t359) = false := by simpa using c27))
   (try (have c27b2 : (t355 == t359) = false := by simpa using c27))
   (try (have c27b3 : ¬ (t355 = t359) := by simpa using c27))
   clear c27
   (first | rw [c27b0] | (simp only [i64_w, i32_w]; rw [c27b0]) | skip)
   exact absurd H (by rw [hrt.out]; cases k <;> simp [j0])
  rw [if_neg c27] at H
  have c27b0 : (t355 != t359) = false := by simpa using c27
  (try (have c27b1 : decide (t355 = t359) = true := by simpa using c27))
  (try (have c27b2 : (t355 == t359) = true := by simpa using c27))
  clear c27
  (first | rw [c27b0] | (simp only [i64_w, i32_w]; rw [c27b0]) | skip)
  replace H := Option.bind_eq_some_iff.mp H
  obtain ⟨t368, A280, H⟩ := H
  replace H : (if t368 = true then (if (t361 != t363) = true then (j0 k l1 t352 t355 t360 true t349 t350) else (if t360 = t362 then (if (t365 != t367) = true then (j0 k l1 t352 t355 t360 true t349 t350) else (if t364 = t366 then ((impl_IsClock.f t349 t350).bind fun t369 => (if (t361 != t369) = true then (j0 k l1 t352 t355 t360 true t349 t350) else ((impl_IsClock.f t349 t350).bind fun t370 => ((spec_IsClock.f t349 t350).bind fun t371 => (if (t370 != t371) = true then (j0 k l1 t352 t355 t360 true t349 t350) else (if (t365 != t361) = true then (j0 k l1 t352 t355 t360 true t349 t350) else (if t355 = true then (j0 k l1 t352 t355 t360 (!t361) t349 t350) else (j0 k l1 t352 t355 t360 false t349 t350)))))))) else (j0 k l1 t352 t355 t360 true t349 t350))) else (j0 k l1 t352 t355 t360 true t349 t350))) else (j0 k l1 t352 t355 t360 true t349 t350)) = some r := H
  have A28 := Aside0.mk A280
  clear A280
  by_cases c29 : t368 = true
  rotate_left
  ·replace c29 := Bool.eq_false_iff.mpr c29
   subst c29
   have H1 : (j0 k l1 t352 t355 t360 true t349 t350) = some r := by rw [if_neg (show ¬ (false = true) by decide)] at H; exact H
   clear H
   have H := H1
   clear H1
   exact absurd H (by rw [hrt.out]; cases k <;> simp [j0])
  subst c29
  have H1 : (if (t361 != t363) = true then (j0 k l1 t352 t355 t360 true t349 t350) else (if t360 = t362 then (if (t365 != t367) = true then (j0 k l1 t352 t355 t360 true t349 t350) else (if t364 = t366 then ((impl_IsClock.f t349 t350).bind fun t369 => (if (t361 != t369) = true then (j0 k l1 t352 t355 t360 true t349 t350) else ((impl_IsClock.f t349 t350).bind fun t370 => ((spec_IsClock.f t349 t350).bind fun t371 => (if (t370 != t371) = true then (j0 k l1 t352 t355 t360 true t349 t350) else (if (t365 != t361) = true then (j0 k l1 t352 t355 t360 true t349 t350) else (if t355 = true then (j0 k l1 t352 t355 t360 (!t361) t349 t350) else (j0 k l1 t352 t355 t360 false t349 t350)))))))) else (j0 k l1 t352 t355 t360 true t349 t350))) else (j0 k l1 t352 t355 t360 true t349 t350))) = some r := by rw [if_pos rfl] at H; exact H
  clear H
  have H := H1
  clear H1
  by_cases c30 : (t361 != t363) = true
  ·rw [if_pos c30] at H
   have c30b0 : (t361 != t363) = true := c30
   (try (have c30b1 : decide (t361 = t363) = false := by simpa using c30))
   (try (have c30b2 : (t361 == t363) = false := by simpa using c30))
   (try (have c30b3 : ¬ (t361 = t363) := by simpa using c30))
   clear c30
   exact absurd H (by rw [hrt.out]; cases k <;> simp [j0])
  rw [if_neg c30] at H
  have c30b0 : (t361 != t363) = false := by simpa using c30
  (try (have c30b1 : decide (t361 = t363) = true := by simpa using c30))
  (try (have c30b2 : (t361 == t363) = true := by simpa using c30))
  clear c30
  by_cases c31 : t360 = t362
  rotate_left
  ·rw [if_neg c31] at H
   have c31b0 : (t360 == t362) = false := beq_eq_false_iff_ne.mpr c31
   have c31b1 : (t360 != t362) = true := bne_iff_ne.mpr c31
   exact absurd H (by rw [hrt.out]; cases k <;> simp [j0])
  rw [if_pos c31] at H
  have c31b0 : (t360 == t362) = true := beq_iff_eq.mpr c31
  have c31b1 : (t360 != t362) = false := bne_eq_false_iff_eq.mpr c31
  clear c31
  by_cases c32 : (t365 != t367) = true
  ·rw [if_pos c32] at H
   have c32b0 : (t365 != t367) = true := c32
   (try (have c32b1 : decide (t365 = t367) = false := by simpa using c32))
   (try (have c32b2 : (t365 == t367) = false := by simpa using c32))
   (try (have c32b3 : ¬ (t365 = t367) := by simpa using c32))
   clear c32
   exact absurd H (by rw [hrt.out]; cases k <;> simp [j0])
  rw [if_neg c32] at H
  have c32b0 : (t365 != t367) = false := by simpa using c32
  (try (have c32b1 : decide (t365 = t367) = true := by simpa using c32))
  (try (have c32b2 : (t365 == t367) = true := by simpa using c32))
  clear c32
  by_cases c33 : t364 = t366
  rotate_left
  ·rw [if_neg c33] at H
   have c33b0 : (t364 == t366) = false := beq_eq_false_iff_ne.mpr c33
   have c33b1 : (t364 != t366) = true := bne_iff_ne.mpr c33
   exact absurd H (by rw [hrt.out]; cases k <;> simp [j0])
  rw [if_pos c33] at H
  have c33b0 : (t364 == t366) = true := beq_iff_eq.mpr c33
  have c33b1 : (t364 != t366) = false := bne_eq_false_iff_eq.mpr c33
  clear c33
  replace H := Option.bind_eq_some_iff.mp H
  obtain ⟨t369, A340, H⟩ := H
  replace H : (if (t361 != t369) = true then (j0 k l1 t352 t355 t360 true t349 t350) else ((impl_IsClock.f t349 t350).bind fun t370 => ((spec_IsClock.f t349 t350).bind fun t371 => (if (t370 != t371) = true then (j0 k l1 t352 t355 t360 true t349 t350) else (if (t365 != t361) = true then (j0 k l1 t352 t355 t360 true t349 t350) else (if t355 = true then (j0 k l1 t352 t355 t360 (!t361) t349 t350) else (j0 k l1 t352 t355 t360 false t349 t350))))))) = some r := H
  have A34 := Aside0.mk A340
  clear A340
  by_cases c35 : (t361 != t369) = true
  ·rw [if_pos c35] at H
   have c35b0 : (t361 != t369) = true := c35
   (try (have c35b1 : decide (t361 = t369) = false := by simpa using c35))
   (try (have c35b2 : (t361 == t369) = false := by simpa using c35))
   (try (have c35b3 : ¬ (t361 = t369) := by simpa using c35))
   clear c35
   exact absurd H (by rw [hrt.out]; cases k <;> simp [j0])
  rw [if_neg c35] at H
  have c35b0 : (t361 != t369) = false := by simpa using c35
  (try (have c35b1 : decide (t361 = t369) = true := by simpa using c35))
  (try (have c35b2 : (t361 == t369) = true := by simpa using c35))
  clear c35
  replace H := Option.bind_eq_some_iff.mp H
  obtain ⟨t370, A360, H⟩ := H
  replace H : ((spec_IsClock.f t349 t350).bind fun t371 => (if (t370 != t371) = true then (j0 k l1 t352 t355 t360 true t349 t350) else (if (t365 != t361) = true then (j0 k l1 t352 t355 t360 true t349 t350) else (if t355 = true then (j0 k l1 t352 t355 t360 (!t361) t349 t350) else (j0 k l1 t352 t355 t360 false t349 t350))))) = some r := H
  have A36 := Aside0.mk A360
  clear A360
  replace H := Option.bind_eq_some_iff.mp H
  obtain ⟨t371, A370, H⟩ := H
  replace H : (if (t370 != t371) = true then (j0 k l1 t352 t355 t360 true t349 t350) else (if (t365 != t361) = true then (j0 k l1 t352 t355 t360 true t349 t350) else (if t355 = true then (j0 k l1 t352 t355 t360 (!t361) t349 t350) else (j0 k l1 t352 t355 t360 false t349 t350)))) = some r := H
  have A37 := Aside0.mk A370
  clear A370
  by_cases c38 : (t370 != t371) = true
  ·rw [if_pos c38] at H
   have c38b0 : (t370 != t371) = true := c38
   (try (have c38b1 : decide (t370 = t371) = false := by simpa using c38))
   (try (have c38b2 : (t370 == t371) = false := by simpa using c38))
   (try (have c38b3 : ¬ (t370 = t371) := by simpa using c38))
   clear c38
   exact absurd H (by rw [hrt.out]; cases k <;> simp [j0])
  rw [if_neg c38] at H
  have c38b0 : (t370 != t371) = false := by simpa using c38
  (try (have c38b1 : decide (t370 = t371) = true := by simpa using c38))
  (try (have c38b2 : (t370 == t371) = true := by simpa using c38))
  clear c38
  by_cases c39 : (t365 != t361) = true
  ·rw [if_pos c39] at H
   have c39b0 : (t365 != t361) = true := c39
   (try (have c39b1 : decide (t365 = t361) = false := by simpa using c39))
   (try (have c39b2 : (t365 == t361) = false := by simpa using c39))
   (try (have c39b3 : ¬ (t365 = t361) := by simpa using c39))
   clear c39
   exact absurd H (by rw [hrt.out]; cases k <;> simp [j0])
  rw [if_neg c39] at H
  have c39b0 : (t365 != t361) = false := by simpa using c39
  (try (have c39b1 : decide (t365 = t361) = true := by simpa using c39))
  (try (have c39b2 : (t365 == t361) = true := by simpa using c39))
  clear c39
  by_cases c40 : t355 = true
  rotate_left
  ·replace c40 := Bool.eq_false_iff.mpr c40
   subst c40
   have H1 : (j0 k l1 t352 false t360 false t349 t350) = some r := by rw [if_neg (show ¬ (false = true) by decide)] at H; exact H
   clear H
   have H := H1
   clear H1
   have H' := Aside0.mk H
   clear H
   try go_wp2
   replace HO354 := Aside0.mk (Kd.R_drew HO354.out)
   replace HO358 := Aside0.mk (Kd.R_drew HO358.out)
   replace BK351 := Aside0.mk (blk_drew BK351.out)
   replace HB := Aside0.mk (below_drew1 HB.out)
   obtain ⟨Ao48, co48, eo48⟩ := Kd.R_slice HO354.out
   (first | subst eo48 | (injection eo48 with f1_ f2_ f3_; have f4_ := f1_.symm; have f5_ := f3_.symm; clear f1_ f2_ f3_; subst f4_; subst f5_))
   obtain ⟨Ao49, co49, eo49⟩ := Kd.R_slice HO358.out
   (first | subst eo49 | (injection eo49 with f1_ f2_ f3_; have f4_ := f1_.symm; have f5_ := f3_.symm; clear f1_ f2_ f3_; subst f4_; subst f5_))
   refine start_ (n := 54) (S := fun w' => w'.cell? ⟨gb351, 0, none⟩ = some (.int .i64 t349) ∧ w'.cell? ⟨gb351, 1, none⟩ = some (.int .i64 t350)) (ds := []) (bl 54 0) (by kernel_rfl) rfl rfl ⟨bc0 BK351, bc1 BK351⟩ (fun hHeld => ?_); refine with_tabW laws_FnClocksRun.tab10 laws_FnClocksRun.bits10 (fun HT_ HW_ => ?_)
   generalize w26.drew = w47 at HO354 HO358 BK351 HB hHeld ⊢
   refine pu 0 105 (bl 54 1) HT_.out (v := ?_) (a' := ?_) ?_ ?_ ?_
   rotate_left; (intro w'; go_simp; with_reducible rfl); rotate_left; (simp only [sqa, sqb, sqc, sqd, i64_w, i32_w]; rfl)
   refine pu 1 106 (bl 54 3) HT_.out (v := ?_) (a' := ?_) ?_ ?_ ?_
   rotate_left; (intro w'; go_simp; with_reducible rfl); rotate_left; (simp only [sqa, sqb, sqc, sqd, i64_w, i32_w]; rfl)
   refine pu 2 107 (bl 54 7) HT_.out (v := ?_) (a' := ?_) ?_ ?_ ?_
   rotate_left; (intro w'; go_simp; with_reducible rfl); rotate_left; (simp only [sqa, sqb, sqc, sqd, i64_w, i32_w]; rfl)
   refine pu 3 108 (bl 54 15) HT_.out (v := ?_) (a' := ?_) ?_ ?_ ?_
   rotate_left; (intro w'; go_simp; with_reducible rfl); rotate_left; (simp only [sqa, sqb, sqc, sqd, i64_w, i32_w]; rfl)
   refine pu 4 109 (bl 54 31) HT_.out (v := ?_) (a' := ?_) ?_ ?_ ?_
   rotate_left; (intro w'; go_simp; with_reducible rfl); rotate_left; (simp only [sqa, sqb, sqc, sqd, i64_w, i32_w]; rfl)
   refine pu 5 110 (bl 54 63) HT_.out (v := ?_) (a' := ?_) ?_ ?_ ?_
   rotate_left; (intro w'; go_simp; with_reducible rfl); rotate_left; (simp only [sqa, sqb, sqc, sqd, i64_w, i32_w]; rfl)
   refine on 6 111 (bl 54 127) HT_.out (fun K hK => ?_)
   refine gs Try.func29 #[.slice Ao48 t352.length co48, .slice Ao49 t356.length co49] ?_
   with_reducible refine (laws_eSame.calls k _ _ t352 _ _ t356 true _ ?side1 ?side2 ?side3 ?side4 A28.out).mono ?_
   (case side1 => exact cr HO354)
   (case side2 => exact (Kd.R_reads' HO354.out).2.1)
   (case side3 => exact cr HO358)
   (case side4 => exact (Kd.R_reads' HO358.out).2.1)
   rintro e w' ⟨rfl, ⟨nd, rfl⟩⟩
   refine ⟨_, rfl, ?_⟩
   refine hK.out _ _ ⟨bc0 BK351, bc1 BK351⟩ (fun hHeld => ?_)
   clear hK K
   refine norm_ (a' := ?_) ?_ ?_; rotate_left; (show Act.put _ (some 111) _ = _; simp only [sqa, sqb, sqc, sqd, i64_w, i32_w]; rfl)
   refine pu 7 112 (bl 54 255) HT_.out (v := ?_) (a' := ?_) ?_ ?_ ?_
   rotate_left; (intro w'; go_simp; with_reducible rfl); rotate_left; (simp only [sqa, sqb, sqc, sqd, i64_w, i32_w]; rfl)
   refine pu 8 113 (bl 54 511) HT_.out (v := ?_) (a' := ?_) ?_ ?_ ?_
   rotate_left; (intro w'; go_simp; with_reducible rfl); rotate_left; (simp only [sqa, sqb, sqc, sqd, i64_w, i32_w]; rfl)
   refine pu 9 114 (bl 54 1023) HT_.out (v := ?_) (a' := ?_) ?_ ?_ ?_
   rotate_left; (intro w'; go_simp; with_reducible rfl); rotate_left; (simp only [sqa, sqb, sqc, sqd, i64_w, i32_w]; rfl)
   refine pu 10 115 (bl 54 2047) HT_.out (v := ?_) (a' := ?_) ?_ ?_ ?_
   rotate_left; (intro w'; go_simp; with_reducible rfl); rotate_left; (simp only [sqa, sqb, sqc, sqd, i64_w, i32_w]; rfl)
   refine pu 11 116 (bl 54 4095) HT_.out (v := ?_) (a' := ?_) ?_ ?_ ?_
   rotate_left; (intro w'; go_simp; with_reducible rfl); rotate_left; (simp only [sqa, sqb, sqc, sqd, i64_w, i32_w]; rfl)
   refine pu 12 117 (bl 54 8191) HT_.out (v := ?_) (a' := ?_) ?_ ?_ ?_
   rotate_left; (intro w'; go_simp; with_reducible rfl); rotate_left; (simp only [sqa, sqb, sqc, sqd, i64_w, i32_w]; rfl)
   refine pu 13 118 (bl 54 16383) HT_.out (v := ?_) (a' := ?_) ?_ ?_ ?_
   rotate_left; (intro w'; go_simp; with_reducible rfl); rotate_left; (simp only [sqa, sqb, sqc, sqd, i64_w, i32_w]; rfl)
   refine pu 14 119 (bl 54 32767) HT_.out (v := ?_) (a' := ?_) ?_ ?_ ?_
   rotate_left; (intro w'; go_simp; with_reducible rfl); rotate_left; (simp only [sqa, sqb, sqc, sqd, i64_w, i32_w]; rfl)
   refine pu 15 120 (bl 54 65535) HT_.out (v := ?_) (a' := ?_) ?_ ?_ ?_
   rotate_left; (intro w'; go_simp; with_reducible rfl); rotate_left; (simp only [sqa, sqb, sqc, sqd, i64_w, i32_w]; rfl)
   refine pu 16 121 (bl 54 131071) HT_.out (v := ?_) (a' := ?_) ?_ ?_ ?_
   rotate_left; (intro w'; go_simp; with_reducible rfl); rotate_left; (simp only [sqa, sqb, sqc, sqd, i64_w, i32_w]; rfl)
   refine pu 17 122 (bl 54 262143) HT_.out (v := ?_) (a' := ?_) ?_ ?_ ?_
   rotate_left; (intro w'; go_simp; with_reducible rfl); rotate_left; (simp only [sqa, sqb, sqc, sqd, i64_w, i32_w]; rfl)
   refine pu 18 123 (bl 54 524287) HT_.out (v := ?_) (a' := ?_) ?_ ?_ ?_
   rotate_left; (intro w'; go_simp; with_reducible rfl); rotate_left; (simp only [sqa, sqb, sqc, sqd, i64_w, i32_w]; rfl)
   refine pu 19 124 (bl 54 1048575) HT_.out (v := ?_) (a' := ?_) ?_ ?_ ?_
   rotate_left; (intro w'; go_simp; with_reducible rfl); rotate_left; (simp only [sqa, sqb, sqc, sqd, i64_w, i32_w]; rfl)
   refine pu 20 125 (bl 54 2097151) HT_.out (v := ?_) (a' := ?_) ?_ ?_ ?_
   rotate_left; (intro w'; go_simp; with_reducible rfl); rotate_left; (simp only [sqa, sqb, sqc, sqd, i64_w, i32_w]; rfl)
   refine pu 21 126 (bl 54 4194303) HT_.out (v := ?_) (a' := ?_) ?_ ?_ ?_
   rotate_left; (intro w'; go_simp; with_reducible rfl); rotate_left; (simp only [sqa, sqb, sqc, sqd, i64_w, i32_w]; rfl)
   refine pu 22 127 (bl 54 8388607) HT_.out (v := ?_) (a' := ?_) ?_ ?_ ?_
   rotate_left; (intro w'; go_simp; with_reducible rfl); rotate_left; (simp only [sqa, sqb, sqc, sqd, i64_w, i32_w]; rfl)
   refine pu 23 128 (bl 54 16777215) HT_.out (v := ?_) (a' := ?_) ?_ ?_ ?_
   rotate_left; (intro w'; go_simp; with_reducible rfl); rotate_left; (simp only [sqa, sqb, sqc, sqd, i64_w, i32_w]; rfl)
   refine pu 24 129 (bl 54 33554431) HT_.out (v := ?_) (a' := ?_) ?_ ?_ ?_
   rotate_left; (intro w'; go_simp; with_reducible rfl); rotate_left; (simp only [sqa, sqb, sqc, sqd, i64_w, i32_w]; rfl)
   refine pu 25 130 (bl 54 67108863) HT_.out (v := ?_) (a' := ?_) ?_ ?_ ?_
   rotate_left; (intro w'; go_simp; with_reducible rfl); rotate_left; (simp only [sqa, sqb, sqc, sqd, i64_w, i32_w]; rfl)
   refine pu 26 131 (bl 54 134217727) HT_.out (v := ?_) (a' := ?_) ?_ ?_ ?_
   rotate_left; (intro w'; go_simp; with_reducible rfl); rotate_left; (simp only [sqa, sqb, sqc, sqd, i64_w, i32_w]; rfl)
   refine pu 27 132 (bl 54 268435455) HT_.out (v := ?_) (a' := ?_) ?_ ?_ ?_
   rotate_left; (intro w'; go_simp; with_reducible rfl); rotate_left; (simp only [sqa, sqb, sqc, sqd, i64_w, i32_w]; rfl)
   refine pu 28 133 (bl 54 536870911) HT_.out (v := ?_) (a' := ?_) ?_ ?_ ?_
   rotate_left; (intro w'; go_simp; with_reducible rfl); rotate_left; (simp only [sqa, sqb, sqc, sqd, i64_w, i32_w]; rfl)
   refine pu 29 134 (bl 54 1073741823) HT_.out (v := ?_) (a' := ?_) ?_ ?_ ?_
   rotate_left; (intro w'; go_simp; with_reducible rfl); rotate_left; (simp only [sqa, sqb, sqc, sqd, i64_w, i32_w]; rfl)
   refine pu 30 135 (bl 54 2147483647) HT_.out (v := ?_) (a' := ?_) ?_ ?_ ?_
   rotate_left; (intro w'; go_simp; with_reducible rfl); rotate_left; (simp only [sqa, sqb, sqc, sqd, i64_w, i32_w]; rfl)
   refine tk 31 136 (bl 54 4294967295) HT_.out HW_.out hHeld (v := ?_) (a' := ?_) ?_ ?_ ?_
   rotate_left; (rintro w' ⟨s0, s1⟩; go_simp; with_reducible rfl); rotate_left; (simp only [sqa, sqb, sqc, sqd, i64_w, i32_w]; rfl)
   refine on 32 137 (bl 54 8589934591) HT_.out (fun K hK => ?_)
   refine gs Try.func37 #[.agg #[.int .i64 t349, .int .i64 t350]] ?_
   with_reducible refine (impl_IsClock.calls t349 t350 t369 _ A34.out).mono ?_
   rintro e w50 ⟨rfl, hb⟩
   refine ⟨_, rfl, ?_⟩
   replace HO354 := rb HO354 hb
   replace HO358 := rb HO358 hb
   replace BK351 := bb BK351 hb
   replace HB := bs HB hb
   (try clear hb)
   refine hK.out _ _ ⟨bc0 BK351, bc1 BK351⟩ (fun hHeld => ?_)
   clear hK K
   refine norm_ (a' := ?_) ?_ ?_; rotate_left; (show Act.put _ (some 137) _ = _; simp only [sqa, sqb, sqc, sqd, i64_w, i32_w]; rfl)
   refine pu 33 138 (bl 54 17179869183) HT_.out (v := ?_) (a' := ?_) ?_ ?_ ?_
   rotate_left; (intro w'; go_simp; with_reducible rfl); rotate_left; (simp only [sqa, sqb, sqc, sqd, i64_w, i32_w]; rfl)
   refine pu 34 139 (bl 54 34359738367) HT_.out (v := ?_) (a' := ?_) ?_ ?_ ?_
   rotate_left; (intro w'; go_simp; with_reducible rfl); rotate_left; (simp only [sqa, sqb, sqc, sqd, i64_w, i32_w]; rfl)
   refine pu 35 140 (bl 54 68719476735) HT_.out (v := ?_) (a' := ?_) ?_ ?_ ?_
   rotate_left; (intro w'; go_simp; with_reducible rfl); rotate_left; (simp only [sqa, sqb, sqc, sqd, i64_w, i32_w]; rfl)
   refine tk 36 141 (bl 54 137438953471) HT_.out HW_.out hHeld (v := ?_) (a' := ?_) ?_ ?_ ?_
   rotate_left; (rintro w' ⟨s0, s1⟩; go_simp; with_reducible rfl); rotate_left; (simp only [sqa, sqb, sqc, sqd, i64_w, i32_w]; rfl)
   refine tk 38 143 (bl 54 412316860415) HT_.out HW_.out hHeld (v := ?_) (a' := ?_) ?_ ?_ ?_
   rotate_left; (rintro w' ⟨s0, s1⟩; go_simp; with_reducible rfl); rotate_left; (simp only [sqa, sqb, sqc, sqd, i64_w, i32_w]; rfl)
   refine on 37 142 (bl 54 549755813887) HT_.out (fun K hK => ?_)
   refine gs Try.func37 #[.agg #[.int .i64 t349, .int .i64 t350]] ?_
   with_reducible refine (impl_IsClock.calls t349 t350 t370 _ A36.out).mono ?_
   rintro e w51 ⟨rfl, hb⟩
   refine ⟨_, rfl, ?_⟩
   replace HO354 := rb HO354 hb
   replace HO358 := rb HO358 hb
   replace BK351 := bb BK351 hb
   replace HB := bs HB hb
   (try clear hb)
   refine hK.out _ _ ⟨bc0 BK351, bc1 BK351⟩ (fun hHeld => ?_)
   clear hK K
   refine norm_ (a' := ?_) ?_ ?_; rotate_left; (show Act.put _ (some 142) _ = _; simp only [sqa, sqb, sqc, sqd, i64_w, i32_w]; rfl)
   refine on 39 144 (bl 54 1099511627775) HT_.out (fun K hK => ?_)
   refine gs Try.func38 #[.agg #[.int .i64 t349, .int .i64 t350]] ?_
   with_reducible refine (spec_IsClock.calls t349 t350 t371 _ A37.out).mono ?_
   rintro e w52 ⟨rfl, hb⟩
   refine ⟨_, rfl, ?_⟩
   replace HO354 := rb HO354 hb
   replace HO358 := rb HO358 hb
   replace BK351 := bb BK351 hb
   replace HB := bs HB hb
   (try clear hb)
   refine hK.out _ _ ⟨bc0 BK351, bc1 BK351⟩ (fun hHeld => ?_)
   clear hK K
   refine norm_ (a' := ?_) ?_ ?_; rotate_left; (show Act.put _ (some 144) _ = _; simp only [sqa, sqb, sqc, sqd, i64_w, i32_w]; rfl)
   refine pu 40 145 (bl 54 2199023255551) HT_.out (v := ?_) (a' := ?_) ?_ ?_ ?_
   rotate_left; (intro w'; go_simp; with_reducible rfl); rotate_left; (simp only [sqa, sqb, sqc, sqd, i64_w, i32_w]; rfl)
   refine pu 41 146 (bl 54 4398046511103) HT_.out (v := ?_) (a' := ?_) ?_ ?_ ?_
   rotate_left; (intro w'; go_simp; with_reducible rfl); rotate_left; (simp only [sqa, sqb, sqc, sqd, i64_w, i32_w]; rfl)
   refine pu 42 147 (bl 54 8796093022207) HT_.out (v := ?_) (a' := ?_) ?_ ?_ ?_
   rotate_left; (intro w'; go_simp; with_reducible rfl); rotate_left; (simp only [sqa, sqb, sqc, sqd, i64_w, i32_w]; rfl)
   refine pu 43 148 (bl 54 17592186044415) HT_.out (v := ?_) (a' := ?_) ?_ ?_ ?_
   rotate_left; (intro w'; go_simp; with_reducible rfl); rotate_left; (simp only [sqa, sqb, sqc, sqd, i64_w, i32_w]; rfl)
   refine pu 44 149 (bl 54 35184372088831) HT_.out (v := ?_) (a' := ?_) ?_ ?_ ?_
   rotate_left; (intro w'; go_simp; with_reducible rfl); rotate_left; (simp only [sqa, sqb, sqc, sqd, i64_w, i32_w]; rfl)
   refine pu 45 150 (bl 54 70368744177663) HT_.out (v := ?_) (a' := ?_) ?_ ?_ ?_
   rotate_left; (intro w'; go_simp; with_reducible rfl); rotate_left; (simp only [sqa, sqb, sqc, sqd, i64_w, i32_w]; rfl)
   refine pu 46 151 (bl 54 140737488355327) HT_.out (v := ?_) (a' := ?_) ?_ ?_ ?_
   rotate_left; (intro w'; go_simp; with_reducible rfl); rotate_left; (simp only [sqa, sqb, sqc, sqd, i64_w, i32_w]; rfl)
   refine pu 47 152 (bl 54 281474976710655) HT_.out (v := ?_) (a' := ?_) ?_ ?_ ?_
   rotate_left; (intro w'; go_simp; with_reducible rfl); rotate_left; (simp only [sqa, sqb, sqc, sqd, i64_w, i32_w]; rfl)
   refine pu 48 153 (bl 54 562949953421311) HT_.out (v := ?_) (a' := ?_) ?_ ?_ ?_
   rotate_left; (intro w'; go_simp; with_reducible rfl); rotate_left; (simp only [sqa, sqb, sqc, sqd, i64_w, i32_w]; rfl)
   refine pu 49 154 (bl 54 1125899906842623) HT_.out (v := ?_) (a' := ?_) ?_ ?_ ?_
   rotate_left; (intro w'; go_simp; with_reducible rfl); rotate_left; (simp only [sqa, sqb, sqc, sqd, i64_w, i32_w]; rfl)
   refine pure_ (i := 50) (N := some 155) (v := undef) (a' := ?_) (bl 54 2251799813685247) rfl rfl (any_of HT_.out (by kernel_rfl)) (fun _ _ _ h => h) (Or.inr ⟨by rfl, rfl⟩) ?_ ?_
   rotate_left
   ·simp only [sqa, sqb, sqc, sqd, i64_w, i32_w]
    rfl
   refine pure_ (i := 51) (N := some 156) (v := undef) (a' := ?_) (bl 54 4503599627370495) rfl rfl (any_of HT_.out (by kernel_rfl)) (fun _ _ _ h => h) (Or.inr ⟨by rfl, rfl⟩) ?_ ?_
   rotate_left
   ·simp only [sqa, sqb, sqc, sqd, i64_w, i32_w]
    rfl
   refine pu 52 157 (bl 54 9007199254740991) HT_.out (v := ?_) (a' := ?_) ?_ ?_ ?_
   rotate_left; (intro w'; go_simp; with_reducible rfl); rotate_left; (simp only [sqa, sqb, sqc, sqd, i64_w, i32_w]; rfl)
   refine pu 53 158 (bl 54 18014398509481983) HT_.out (v := ?_) (a' := ?_) ?_ ?_ ?_
   rotate_left; (intro w'; go_simp; with_reducible rfl); rotate_left; (simp only [sqa, sqb, sqc, sqd, i64_w, i32_w]; rfl)
   refine done_ (done_of HT_.out (by kernel_rfl)) ?_
   try go_wp2
   (refine Met.intro ?_; go_step; refine Cut_mk (by kernel_rfl) ?rel2)
   case rel2 => exact ⟨_, (false), (by first | rfl | (simp; done) | (simp [*]; done)), H', ⟨by first | exact Nat.le_refl _ | (omega)⟩, ⟨by (with_reducible repeat (first | apply Kd.R_alloc | apply Kd.R_drewN | apply Kd.R_drew)); exact Kd.R_mono HO354.out (fun _ hk => trivial)⟩, ⟨bk BK351⟩, ⟨bw HB⟩⟩
  subst c40
  have H1 : (j0 k l1 t352 true t360 (!t361) t349 t350) = some r := by rw [if_pos rfl] at H; exact H
  clear H
  have H := H1
  clear H1
  have H' := Aside0.mk H
  clear H
  try go_wp2
  replace HO354 := Aside0.mk (Kd.R_drew HO354.out)
  replace HO358 := Aside0.mk (Kd.R_drew HO358.out)
  replace BK351 := Aside0.mk (blk_drew BK351.out)
  replace HB := Aside0.mk (below_drew1 HB.out)
  obtain ⟨Ao42, co42, eo42⟩ := Kd.R_slice HO354.out
  (first | subst eo42 | (injection eo42 with f1_ f2_ f3_; have f4_ := f1_.symm; have f5_ := f3_.symm; clear f1_ f2_ f3_; subst f4_; subst f5_))
  obtain ⟨Ao43, co43, eo43⟩ := Kd.R_slice HO358.out
  (first | subst eo43 | (injection eo43 with f1_ f2_ f3_; have f4_ := f1_.symm; have f5_ := f3_.symm; clear f1_ f2_ f3_; subst f4_; subst f5_))
  refine start_ (n := 54) (S := fun w' => w'.cell? ⟨gb351, 0, none⟩ = some (.int .i64 t349) ∧ w'.cell? ⟨gb351, 1, none⟩ = some (.int .i64 t350)) (ds := []) (bl 54 0) (by kernel_rfl) rfl rfl ⟨bc0 BK351, bc1 BK351⟩ (fun hHeld => ?_); refine with_tabW laws_FnClocksRun.tab10 laws_FnClocksRun.bits10 (fun HT_ HW_ => ?_)
  generalize w26.drew = w41 at HO354 HO358 BK351 HB hHeld ⊢
  refine pu 0 105 (bl 54 1) HT_.out (v := ?_) (a' := ?_) ?_ ?_ ?_
  rotate_left; (intro w'; go_simp; with_reducible rfl); rotate_left; (simp only [sqa, sqb, sqc, sqd, i64_w, i32_w]; rfl)
  refine pu 1 106 (bl 54 3) HT_.out (v := ?_) (a' := ?_) ?_ ?_ ?_
  rotate_left; (intro w'; go_simp; with_reducible rfl); rotate_left; (simp only [sqa, sqb, sqc, sqd, i64_w, i32_w]; rfl)
  refine pu 2 107 (bl 54 7) HT_.out (v := ?_) (a' := ?_) ?_ ?_ ?_
  rotate_left; (intro w'; go_simp; with_reducible rfl); rotate_left; (simp only [sqa, sqb, sqc, sqd, i64_w, i32_w]; rfl)
  refine pu 3 108 (bl 54 15) HT_.out (v := ?_) (a' := ?_) ?_ ?_ ?_
  rotate_left; (intro w'; go_simp; with_reducible rfl); rotate_left; (simp only [sqa, sqb, sqc, sqd, i64_w, i32_w]; rfl)
  refine pu 4 109 (bl 54 31) HT_.out (v := ?_) (a' := ?_) ?_ ?_ ?_
  rotate_left; (intro w'; go_simp; with_reducible rfl); rotate_left; (simp only [sqa, sqb, sqc, sqd, i64_w, i32_w]; rfl)
  refine pu 5 110 (bl 54 63) HT_.out (v := ?_) (a' := ?_) ?_ ?_ ?_
  rotate_left; (intro w'; go_simp; with_reducible rfl); rotate_left; (simp only [sqa, sqb, sqc, sqd, i64_w, i32_w]; rfl)
  refine on 6 111 (bl 54 127) HT_.out (fun K hK => ?_)
  refine gs Try.func29 #[.slice Ao42 t352.length co42, .slice Ao43 t356.length co43] ?_
  with_reducible refine (laws_eSame.calls k _ _ t352 _ _ t356 true _ ?side1 ?side2 ?side3 ?side4 A28.out).mono ?_
  (case side1 => exact cr HO354)
  (case side2 => exact (Kd.R_reads' HO354.out).2.1)
  (case side3 => exact cr HO358)
  (case side4 => exact (Kd.R_reads' HO358.out).2.1)
  rintro e w' ⟨rfl, ⟨nd, rfl⟩⟩
  refine ⟨_, rfl, ?_⟩
  refine hK.out _ _ ⟨bc0 BK351, bc1 BK351⟩ (fun hHeld => ?_)
  clear hK K
  refine norm_ (a' := ?_) ?_ ?_; rotate_left; (show Act.put _ (some 111) _ = _; simp only [sqa, sqb, sqc, sqd, i64_w, i32_w]; rfl)
  refine pu 7 112 (bl 54 255) HT_.out (v := ?_) (a' := ?_) ?_ ?_ ?_
  rotate_left; (intro w'; go_simp; with_reducible rfl); rotate_left; (simp only [sqa, sqb, sqc, sqd, i64_w, i32_w]; rfl)
  refine pu 8 113 (bl 54 511) HT_.out (v := ?_) (a' := ?_) ?_ ?_ ?_
  rotate_left; (intro w'; go_simp; with_reducible rfl); rotate_left; (simp only [sqa, sqb, sqc, sqd, i64_w, i32_w]; rfl)
  refine pu 9 114 (bl 54 1023) HT_.out (v := ?_) (a' := ?_) ?_ ?_ ?_
  rotate_left; (intro w'; go_simp; with_reducible rfl); rotate_left; (simp only [sqa, sqb, sqc, sqd, i64_w, i32_w]; rfl)
  refine pu 10 115 (bl 54 2047) HT_.out (v := ?_) (a' := ?_) ?_ ?_ ?_
  rotate_left; (intro w'; go_simp; with_reducible rfl); rotate_left; (simp only [sqa, sqb, sqc, sqd, i64_w, i32_w]; rfl)
  refine pu 11 116 (bl 54 4095) HT_.out (v := ?_) (a' := ?_) ?_ ?_ ?_
  rotate_left; (intro w'; go_simp; with_reducible rfl); rotate_left; (simp only [sqa, sqb, sqc, sqd, i64_w, i32_w]; rfl)
  refine pu 12 117 (bl 54 8191) HT_.out (v := ?_) (a' := ?_) ?_ ?_ ?_
  rotate_left; (intro w'; go_simp; with_reducible rfl); rotate_left; (simp only [sqa, sqb, sqc, sqd, i64_w, i32_w]; rfl)
  refine pu 13 118 (bl 54 16383) HT_.out (v := ?_) (a' := ?_) ?_ ?_ ?_
  rotate_left; (intro w'; go_simp; with_reducible rfl); rotate_left; (simp only [sqa, sqb, sqc, sqd, i64_w, i32_w]; rfl)
  refine pu 14 119 (bl 54 32767) HT_.out (v := ?_) (a' := ?_) ?_ ?_ ?_
  rotate_left; (intro w'; go_simp; with_reducible rfl); rotate_left; (simp only [sqa, sqb, sqc, sqd, i64_w, i32_w]; rfl)
  refine pu 15 120 (bl 54 65535) HT_.out (v := ?_) (a' := ?_) ?_ ?_ ?_
  rotate_left; (intro w'; go_simp; with_reducible rfl); rotate_left; (simp only [sqa, sqb, sqc, sqd, i64_w, i32_w]; rfl)
  refine pu 16 121 (bl 54 131071) HT_.out (v := ?_) (a' := ?_) ?_ ?_ ?_
  rotate_left; (intro w'; go_simp; with_reducible rfl); rotate_left; (simp only [sqa, sqb, sqc, sqd, i64_w, i32_w]; rfl)
  refine pu 17 122 (bl 54 262143) HT_.out (v := ?_) (a' := ?_) ?_ ?_ ?_
  rotate_left; (intro w'; go_simp; with_reducible rfl); rotate_left; (simp only [sqa, sqb, sqc, sqd, i64_w, i32_w]; rfl)
  refine pu 18 123 (bl 54 524287) HT_.out (v := ?_) (a' := ?_) ?_ ?_ ?_
  rotate_left; (intro w'; go_simp; with_reducible rfl); rotate_left; (simp only [sqa, sqb, sqc, sqd, i64_w, i32_w]; rfl)
  refine pu 19 124 (bl 54 1048575) HT_.out (v := ?_) (a' := ?_) ?_ ?_ ?_
  rotate_left; (intro w'; go_simp; with_reducible rfl); rotate_left; (simp only [sqa, sqb, sqc, sqd, i64_w, i32_w]; rfl)
  refine pu 20 125 (bl 54 2097151) HT_.out (v := ?_) (a' := ?_) ?_ ?_ ?_
  rotate_left; (intro w'; go_simp; with_reducible rfl); rotate_left; (simp only [sqa, sqb, sqc, sqd, i64_w, i32_w]; rfl)
  refine pu 21 126 (bl 54 4194303) HT_.out (v := ?_) (a' := ?_) ?_ ?_ ?_
  rotate_left; (intro w'; go_simp; with_reducible rfl); rotate_left; (simp only [sqa, sqb, sqc, sqd, i64_w, i32_w]; rfl)
  refine pu 22 127 (bl 54 8388607) HT_.out (v := ?_) (a' := ?_) ?_ ?_ ?_
  rotate_left; (intro w'; go_simp; with_reducible rfl); rotate_left; (simp only [sqa, sqb, sqc, sqd, i64_w, i32_w]; rfl)
  refine pu 23 128 (bl 54 16777215) HT_.out (v := ?_) (a' := ?_) ?_ ?_ ?_
  rotate_left; (intro w'; go_simp; with_reducible rfl); rotate_left; (simp only [sqa, sqb, sqc, sqd, i64_w, i32_w]; rfl)
  refine pu 24 129 (bl 54 33554431) HT_.out (v := ?_) (a' := ?_) ?_ ?_ ?_
  rotate_left; (intro w'; go_simp; with_reducible rfl); rotate_left; (simp only [sqa, sqb, sqc, sqd, i64_w, i32_w]; rfl)
  refine pu 25 130 (bl 54 67108863) HT_.out (v := ?_) (a' := ?_) ?_ ?_ ?_
  rotate_left; (intro w'; go_simp; with_reducible rfl); rotate_left; (simp only [sqa, sqb, sqc, sqd, i64_w, i32_w]; rfl)
  refine pu 26 131 (bl 54 134217727) HT_.out (v := ?_) (a' := ?_) ?_ ?_ ?_
  rotate_left; (intro w'; go_simp; with_reducible rfl); rotate_left; (simp only [sqa, sqb, sqc, sqd, i64_w, i32_w]; rfl)
  refine pu 27 132 (bl 54 268435455) HT_.out (v := ?_) (a' := ?_) ?_ ?_ ?_
  rotate_left; (intro w'; go_simp; with_reducible rfl); rotate_left; (simp only [sqa, sqb, sqc, sqd, i64_w, i32_w]; rfl)
  refine pu 28 133 (bl 54 536870911) HT_.out (v := ?_) (a' := ?_) ?_ ?_ ?_
  rotate_left; (intro w'; go_simp; with_reducible rfl); rotate_left; (simp only [sqa, sqb, sqc, sqd, i64_w, i32_w]; rfl)
  refine pu 29 134 (bl 54 1073741823) HT_.out (v := ?_) (a' := ?_) ?_ ?_ ?_
  rotate_left; (intro w'; go_simp; with_reducible rfl); rotate_left; (simp only [sqa, sqb, sqc, sqd, i64_w, i32_w]; rfl)
  refine pu 30 135 (bl 54 2147483647) HT_.out (v := ?_) (a' := ?_) ?_ ?_ ?_
  rotate_left; (intro w'; go_simp; with_reducible rfl); rotate_left; (simp only [sqa, sqb, sqc, sqd, i64_w, i32_w]; rfl)
  refine tk 31 136 (bl 54 4294967295) HT_.out HW_.out hHeld (v := ?_) (a' := ?_) ?_ ?_ ?_
  rotate_left; (rintro w' ⟨s0, s1⟩; go_simp; with_reducible rfl); rotate_left; (simp only [sqa, sqb, sqc, sqd, i64_w, i32_w]; rfl)
  refine on 32 137 (bl 54 8589934591) HT_.out (fun K hK => ?_)
  refine gs Try.func37 #[.agg #[.int .i64 t349, .int .i64 t350]] ?_
  with_reducible refine (impl_IsClock.calls t349 t350 t369 _ A34.out).mono ?_
  rintro e w44 ⟨rfl, hb⟩
  refine ⟨_, rfl, ?_⟩
  replace HO354 := rb HO354 hb
  replace HO358 := rb HO358 hb
  replace BK351 := bb BK351 hb
  replace HB := bs HB hb
  (try clear hb)
  refine hK.out _ _ ⟨bc0 BK351, bc1 BK351⟩ (fun hHeld => ?_)
  clear hK K
  refine norm_ (a' := ?_) ?_ ?_; rotate_left; (show Act.put _ (some 137) _ = _; simp only [sqa, sqb, sqc, sqd, i64_w, i32_w]; rfl)
  refine pu 33 138 (bl 54 17179869183) HT_.out (v := ?_) (a' := ?_) ?_ ?_ ?_
  rotate_left; (intro w'; go_simp; with_reducible rfl); rotate_left; (simp only [sqa, sqb, sqc, sqd, i64_w, i32_w]; rfl)
  refine pu 34 139 (bl 54 34359738367) HT_.out (v := ?_) (a' := ?_) ?_ ?_ ?_
  rotate_left; (intro w'; go_simp; with_reducible rfl); rotate_left; (simp only [sqa, sqb, sqc, sqd, i64_w, i32_w]; rfl)
  refine pu 35 140 (bl 54 68719476735) HT_.out (v := ?_) (a' := ?_) ?_ ?_ ?_
  rotate_left; (intro w'; go_simp; with_reducible rfl); rotate_left; (simp only [sqa, sqb, sqc, sqd, i64_w, i32_w]; rfl)
  refine tk 36 141 (bl 54 137438953471) HT_.out HW_.out hHeld (v := ?_) (a' := ?_) ?_ ?_ ?_
  rotate_left; (rintro w' ⟨s0, s1⟩; go_simp; with_reducible rfl); rotate_left; (simp only [sqa, sqb, sqc, sqd, i64_w, i32_w]; rfl)
  refine tk 38 143 (bl 54 412316860415) HT_.out HW_.out hHeld (v := ?_) (a' := ?_) ?_ ?_ ?_
  rotate_left; (rintro w' ⟨s0, s1⟩; go_simp; with_reducible rfl); rotate_left; (simp only [sqa, sqb, sqc, sqd, i64_w, i32_w]; rfl)
  refine on 37 142 (bl 54 549755813887) HT_.out (fun K hK => ?_)
  refine gs Try.func37 #[.agg #[.int .i64 t349, .int .i64 t350]] ?_
  with_reducible refine (impl_IsClock.calls t349 t350 t370 _ A36.out).mono ?_
  rintro e w45 ⟨rfl, hb⟩
  refine ⟨_, rfl, ?_⟩
  replace HO354 := rb HO354 hb
  replace HO358 := rb HO358 hb
  replace BK351 := bb BK351 hb
  replace HB := bs HB hb
  (try clear hb)
  refine hK.out _ _ ⟨bc0 BK351, bc1 BK351⟩ (fun hHeld => ?_)
  clear hK K
  refine norm_ (a' := ?_) ?_ ?_; rotate_left; (show Act.put _ (some 142) _ = _; simp only [sqa, sqb, sqc, sqd, i64_w, i32_w]; rfl)
  refine on 39 144 (bl 54 1099511627775) HT_.out (fun K hK => ?_)
  refine gs Try.func38 #[.agg #[.int .i64 t349, .int .i64 t350]] ?_
  with_reducible refine (spec_IsClock.calls t349 t350 t371 _ A37.out).mono ?_
  rintro e w46 ⟨rfl, hb⟩
  refine ⟨_, rfl, ?_⟩
  replace HO354 := rb HO354 hb
  replace HO358 := rb HO358 hb
  replace BK351 := bb BK351 hb
  replace HB := bs HB hb
  (try clear hb)
  refine hK.out _ _ ⟨bc0 BK351, bc1 BK351⟩ (fun hHeld => ?_)
  clear hK K
  refine norm_ (a' := ?_) ?_ ?_; rotate_left; (show Act.put _ (some 144) _ = _; simp only [sqa, sqb, sqc, sqd, i64_w, i32_w]; rfl)
  refine pu 40 145 (bl 54 2199023255551) HT_.out (v := ?_) (a' := ?_) ?_ ?_ ?_
  rotate_left; (intro w'; go_simp; with_reducible rfl); rotate_left; (simp only [sqa, sqb, sqc, sqd, i64_w, i32_w]; rfl)
  refine pu 41 146 (bl 54 4398046511103) HT_.out (v := ?_) (a' := ?_) ?_ ?_ ?_
  rotate_left; (intro w'; go_simp; with_reducible rfl); rotate_left; (simp only [sqa, sqb, sqc, sqd, i64_w, i32_w]; rfl)
  refine pu 42 147 (bl 54 8796093022207) HT_.out (v := ?_) (a' := ?_) ?_ ?_ ?_
  rotate_left; (intro w'; go_simp; with_reducible rfl); rotate_left; (simp only [sqa, sqb, sqc, sqd, i64_w, i32_w]; rfl)
  refine pu 43 148 (bl 54 17592186044415) HT_.out (v := ?_) (a' := ?_) ?_ ?_ ?_
  rotate_left; (intro w'; go_simp; with_reducible rfl); rotate_left; (simp only [sqa, sqb, sqc, sqd, i64_w, i32_w]; rfl)
  refine pu 44 149 (bl 54 35184372088831) HT_.out (v := ?_) (a' := ?_) ?_ ?_ ?_
  rotate_left; (intro w'; go_simp; with_reducible rfl); rotate_left; (simp only [sqa, sqb, sqc, sqd, i64_w, i32_w]; rfl)
  refine pu 45 150 (bl 54 70368744177663) HT_.out (v := ?_) (a' := ?_) ?_ ?_ ?_
  rotate_left; (intro w'; go_simp; with_reducible rfl); rotate_left; (simp only [sqa, sqb, sqc, sqd, i64_w, i32_w]; rfl)
  refine pu 46 151 (bl 54 140737488355327) HT_.out (v := ?_) (a' := ?_) ?_ ?_ ?_
  rotate_left; (intro w'; go_simp; with_reducible rfl); rotate_left; (simp only [sqa, sqb, sqc, sqd, i64_w, i32_w]; rfl)
  refine pu 47 152 (bl 54 281474976710655) HT_.out (v := ?_) (a' := ?_) ?_ ?_ ?_
  rotate_left; (intro w'; go_simp; with_reducible rfl); rotate_left; (simp only [sqa, sqb, sqc, sqd, i64_w, i32_w]; rfl)
  refine pu 48 153 (bl 54 562949953421311) HT_.out (v := ?_) (a' := ?_) ?_ ?_ ?_
  rotate_left; (intro w'; go_simp; with_reducible rfl); rotate_left; (simp only [sqa, sqb, sqc, sqd, i64_w, i32_w]; rfl)
  refine pu 49 154 (bl 54 1125899906842623) HT_.out (v := ?_) (a' := ?_) ?_ ?_ ?_
  rotate_left; (intro w'; go_simp; with_reducible rfl); rotate_left; (simp only [sqa, sqb, sqc, sqd, i64_w, i32_w]; rfl)
  refine pu 50 155 (bl 54 2251799813685247) HT_.out (v := ?_) (a' := ?_) ?_ ?_ ?_
  rotate_left; (intro w'; go_simp; with_reducible rfl); rotate_left; (simp only [sqa, sqb, sqc, sqd, i64_w, i32_w]; rfl)
  refine pu 51 156 (bl 54 4503599627370495) HT_.out (v := ?_) (a' := ?_) ?_ ?_ ?_
  rotate_left; (intro w'; go_simp; with_reducible rfl); rotate_left; (simp only [sqa, sqb, sqc, sqd, i64_w, i32_w]; rfl)
  refine pu 52 157 (bl 54 9007199254740991) HT_.out (v := ?_) (a' := ?_) ?_ ?_ ?_
  rotate_left; (intro w'; go_simp; with_reducible rfl); rotate_left; (simp only [sqa, sqb, sqc, sqd, i64_w, i32_w]; rfl)
  refine pu 53 158 (bl 54 18014398509481983) HT_.out (v := ?_) (a' := ?_) ?_ ?_ ?_
  rotate_left; (intro w'; go_simp; with_reducible rfl); rotate_left; (simp only [sqa, sqb, sqc, sqd, i64_w, i32_w]; rfl)
  refine done_ (done_of HT_.out (by kernel_rfl)) ?_
  try go_wp2
  (refine Met.intro ?_; go_step; refine Cut_mk (by kernel_rfl) ?rel3)
  case rel3 => exact ⟨_, (!t361), (by first | rfl | (simp; done) | (simp [*]; done)), H', ⟨by first | exact Nat.le_refl _ | (omega)⟩, ⟨by (with_reducible repeat (first | apply Kd.R_alloc | apply Kd.R_drewN | apply Kd.R_drew)); exact Kd.R_mono HO354.out (fun _ hk => trivial)⟩, ⟨bk BK351⟩, ⟨bw HB⟩⟩
 case rest1 =>
 as_aux_lemma =>
 intro u_ wc hcut l_ hl_; (simp only [rl, List.reduceReplicate, List.cons_append, List.nil_append, List.append_nil, Bool.not_true, Bool.not_false, fu, Nat.reduceAdd] at hl_); subst hl_; generalize u_ 158 = v158 at hcut ⊢
 clear HC12
 (try clear c4)
 obtain ⟨kq, x158_11, rfl, HA, HJ11, HO_6, BK351, HB⟩ := hcut
 cases kq with
 | zero => exact absurd HA.out (by simp [j0])
 | succ kj11 =>
  have H := HA.out
  clear HA
  simp only [j0] at H
  by_cases c53 : x158_11 = true
  ·subst c53
   have H1 : (some false) = some r := by rw [if_pos rfl] at H; exact H
   clear H
   have H := H1
   clear H1
   exact absurd ((Option.some.inj H).trans hrt.out) (by decide)
  replace c53 := Bool.eq_false_iff.mpr c53
  subst c53
  have H1 : (if t355 = true then (if (t352.length : Int) = (wrap64 (t360 + 1)) then (if 0 < (t352.length : Int) then (if (rd t352 0) = t349 then (if 0 ≤ t360 then (if t360 < (t352.length : Int) then (j1 kj11 l1 t352 ((rd t352 t360) != 0) t349 t350) else (none)) else (none)) else (j1 kj11 l1 t352 true t349 t350)) else (none)) else (j1 kj11 l1 t352 true t349 t350)) else (j4 kj11 l1)) = some r := by rw [if_neg (show ¬ (false = true) by decide)] at H; exact H
  clear H
  have H := H1
  clear H1
  have HC54 := Aside0.mk H
  clear H
  go_upto_if 159 with (fail)
  refine cutF (rl [4, 1, 13, 4, 48, 274, 3, 210] false) (fun u_ wc => ∃ (kq : Nat), Aside0 (j4 kq l1 = some r) ∧ Aside0 (kq ≤ kj11) ∧ Aside0 (wc.heap[gb351]? = some (.cells #[.int .i64 t349, .int .i64 t350] 49 (0, 0))) ∧ Aside0 (Below w.heap.size w wc)) ?first4 ?rest4
  case first4 =>
   as_aux_lemma =>
   intro J_ K_ hJ_ hK_
   have H := HC54.out
   clear HC54
   by_cases c55 : t355 = true
   rotate_left
   ·replace c55 := Bool.eq_false_iff.mpr c55
    subst c55
    have H1 : (j4 kj11 l1) = some r := by rw [if_neg (show ¬ (false = true) by decide)] at H; exact H
    clear H
    have H := H1
    clear H1
    have H' := Aside0.mk H
    clear H
    go_wp2
    (refine Met.intro ?_; go_step; refine Cut_mk (by kernel_rfl) ?rel5)
    case rel5 => exact ⟨_, H', ⟨by first | exact Nat.le_refl _ | exact Nat.le_of_succ_le HJ11.out | (have := HJ11.out; omega)⟩, ⟨bk BK351⟩, ⟨bw HB⟩⟩
   subst c55
   have H1 : (if (t352.length : Int) = (wrap64 (t360 + 1)) then (if 0 < (t352.length : Int) then (if (rd t352 0) = t349 then (if 0 ≤ t360 then (if t360 < (t352.length : Int) then (j1 kj11 l1 t352 ((rd t352 t360) != 0) t349 t350) else (none)) else (none)) else (j1 kj11 l1 t352 true t349 t350)) else (none)) else (j1 kj11 l1 t352 true t349 t350)) = some r := by rw [if_pos rfl] at H; exact H
   clear H
   have H := H1
   clear H1
   have HC56 := Aside0.mk H
   clear H
   go_upto_region 13 with (fail)
   refine cutF (rl [70, 110, 3, 161, 3, 210] false) (fun u_ wc => ∃ (kq : Nat) (x179_55 : Bool), (u_ 179) = .bool x179_55 ∧ Aside0 (j1 kq l1 t352 x179_55 t349 t350 = some r) ∧ Aside0 (kq ≤ kj11) ∧ Aside0 (Kd.R (Kd.int .i64) 3 wc w.heap.size (fun _ => True) v353 t352) ∧ Aside0 (wc.heap[gb351]? = some (.cells #[.int .i64 t349, .int .i64 t350] 49 (0, 0))) ∧ Aside0 (Below w.heap.size w wc)) ?first6 ?rest6
   case first6 =>
    as_aux_lemma =>
    intro J_ K_ hJ_ hK_
    have H := HC56.out
    clear HC56
    by_cases c57 : (t352.length : Int) = (wrap64 (t360 + 1))
    rotate_left
    ·rw [if_neg c57] at H
     have c57b0 : ((t352.length : Int) == (wrap64 (t360 + 1))) = false := beq_eq_false_iff_ne.mpr c57
     have c57b1 : ((t352.length : Int) != (wrap64 (t360 + 1))) = true := bne_iff_ne.mpr c57
     (first | rw [c57b0] | (simp only [i64_w, i32_w]; rw [c57b0]) | skip)
     exact absurd H (by rw [hrt.out]; cases kj11 <;> simp [j1])
    rw [if_pos c57] at H
    have c57b0 : ((t352.length : Int) == (wrap64 (t360 + 1))) = true := beq_iff_eq.mpr c57
    have c57b1 : ((t352.length : Int) != (wrap64 (t360 + 1))) = false := bne_eq_false_iff_eq.mpr c57
    clear c57
    (first | rw [c57b0] | (simp only [i64_w, i32_w]; rw [c57b0]) | skip)
    by_cases c58 : 0 < (t352.length : Int)
    rotate_left
    ·rw [if_neg c58] at H
     exact absurd H (by simp)
    rw [if_pos c58] at H
    have c58b0 : decide (0 < (t352.length : Int)) = true := decide_eq_true c58
    have c58b1 : decide (0 < t352.length) = true := decide_eq_true (by omega)
    clear c58
    by_cases c59 : (rd t352 0) = t349
    rotate_left
    ·rw [if_neg c59] at H
     have c59b0 : ((rd t352 0) == t349) = false := beq_eq_false_iff_ne.mpr c59
     have c59b1 : ((rd t352 0) != t349) = true := bne_iff_ne.mpr c59
     exact absurd H (by rw [hrt.out]; cases kj11 <;> simp [j1])
    rw [if_pos c59] at H
    have c59b0 : ((rd t352 0) == t349) = true := beq_iff_eq.mpr c59
    have c59b1 : ((rd t352 0) != t349) = false := bne_eq_false_iff_eq.mpr c59
    clear c59
    by_cases c60 : 0 ≤ t360
    rotate_left
    ·rw [if_neg c60] at H
     exact absurd H (by simp)
    rw [if_pos c60] at H
    have c60b0 : decide (0 ≤ t360) = true := decide_eq_true c60
    clear c60
    by_cases c61 : t360 < (t352.length : Int)
    rotate_left
    ·rw [if_neg c61] at H
     exact absurd H (by simp)
    rw [if_pos c61] at H
    have c61b0 : decide (t360 < (t352.length : Int)) = true := decide_eq_true c61
    clear c61
    have H' := Aside0.mk H
    clear H
    try go_wp2
    replace HO_6 := Aside0.mk (Kd.R_drew HO_6.out)
    replace BK351 := Aside0.mk (blk_drew BK351.out)
    replace HB := Aside0.mk (below_drew1 HB.out)
    obtain ⟨Ao63, co63, eo63⟩ := Kd.R_slice HO_6.out
    (first | subst eo63 | (injection eo63 with f1_ f2_ f3_; have f4_ := f1_.symm; have f5_ := f3_.symm; clear f1_ f2_ f3_; subst f4_; subst f5_))
    have p372 : 0 ≤ (0 : Int) := (by omega)
    have q372 : 0 < (t352.length : Int) := of_decide_eq_true ‹_›
    obtain ⟨ad372, e372, hx372_0⟩ := Kd.at_int (Kd.R_reads' HO_6.out).2.2 0 p372 q372
    cases e372
    have qi372 : (0 < t352.length) = True := eq_true (by omega)
    (try rw [show ((0 : Int)).toNat = 0 from rfl] at hx372_0)
    (try rw [Addr.add_zero'] at hx372_0)
    replace p372 := eq_true p372
    replace q372 := eq_true q372
    have p373 : 0 ≤ (t360 : Int) := of_decide_eq_true ‹_›
    have q373 : t360 < (t352.length : Int) := of_decide_eq_true ‹_›
    obtain ⟨ad373, e373, hx373_0⟩ := Kd.at_int (Kd.R_reads' HO_6.out).2.2 t360 p373 q373
    obtain rfl : ad372 = ad373 := (by injection e373)
    replace p373 := eq_true p373
    replace q373 := eq_true q373
    refine start_ (n := 20) (S := fun w' => w'.cell? ⟨gb351, 0, none⟩ = some (.int .i64 t349) ∧ w'.cell? ⟨gb351, 1, none⟩ = some (.int .i64 t350) ∧ w'.cell? ad372 = some (.int .i64 (rd t352 0)) ∧ w'.cell? (ad372.add (t360).toNat) = some (.int .i64 (rd t352 t360))) (ds := []) (bl 20 0) (by kernel_rfl) rfl rfl ⟨bc0 BK351, bc1 BK351, hx372_0, hx373_0⟩ (fun hHeld => ?_); refine with_tabW laws_FnClocksRun.tab13 laws_FnClocksRun.bits13 (fun HT_ HW_ => ?_)
    generalize wc.drew = w62 at HO_6 BK351 HB hx372_0 hx373_0 hHeld ⊢
    refine pu 0 160 (bl 20 1) HT_.out (v := ?_) (a' := ?_) ?_ ?_ ?_
    rotate_left; (intro w'; go_simp; with_reducible rfl); rotate_left; (simp only [sqa, sqb, sqc, sqd, i64_w, i32_w]; rfl)
    refine pu 1 161 (bl 20 3) HT_.out (v := ?_) (a' := ?_) ?_ ?_ ?_
    rotate_left; (intro w'; go_simp; with_reducible rfl); rotate_left; (simp only [sqa, sqb, sqc, sqd, i64_w, i32_w]; rfl)
    refine pu 2 162 (bl 20 7) HT_.out (v := ?_) (a' := ?_) ?_ ?_ ?_
    rotate_left; (intro w'; go_simp; with_reducible rfl); rotate_left; (simp only [sqa, sqb, sqc, sqd, i64_w, i32_w]; rfl)
    refine pu 3 163 (bl 20 15) HT_.out (v := ?_) (a' := ?_) ?_ ?_ ?_
    rotate_left; (intro w'; go_simp; with_reducible rfl); rotate_left; (simp only [sqa, sqb, sqc, sqd, i64_w, i32_w]; rfl)
    refine pu 4 164 (bl 20 31) HT_.out (v := ?_) (a' := ?_) ?_ ?_ ?_
    rotate_left; (intro w'; go_simp; with_reducible rfl); rotate_left; (simp only [sqa, sqb, sqc, sqd, i64_w, i32_w]; rfl)
    refine pu 5 165 (bl 20 63) HT_.out (v := ?_) (a' := ?_) ?_ ?_ ?_
    rotate_left; (intro w'; go_simp; with_reducible rfl); rotate_left; (simp only [sqa, sqb, sqc, sqd, i64_w, i32_w]; rfl)
    refine pu 6 166 (bl 20 127) HT_.out (v := ?_) (a' := ?_) ?_ ?_ ?_
    rotate_left; (intro w'; go_simp; with_reducible rfl); rotate_left; (simp only [sqa, sqb, sqc, sqd, i64_w, i32_w]; rfl)
    refine pu 7 167 (bl 20 255) HT_.out (v := ?_) (a' := ?_) ?_ ?_ ?_
    rotate_left; (intro w'; go_simp; with_reducible rfl); rotate_left; (simp only [sqa, sqb, sqc, sqd, i64_w, i32_w]; rfl)
    refine pu 9 169 (bl 20 767) HT_.out (v := ?_) (a' := ?_) ?_ ?_ ?_
    rotate_left; (intro w'; go_simp; with_reducible rfl); rotate_left; (simp only [sqa, sqb, sqc, sqd, i64_w, i32_w]; rfl)
    refine tk 8 168 (bl 20 1023) HT_.out HW_.out hHeld (v := ?_) (a' := ?_) ?_ ?_ ?_
    rotate_left; (rintro w' ⟨s0, s1, s2, s3⟩; go_simp; with_reducible rfl); rotate_left; (simp only [sqa, sqb, sqc, sqd, i64_w, i32_w]; rfl)
    refine tk 10 170 (bl 20 2047) HT_.out HW_.out hHeld (v := ?_) (a' := ?_) ?_ ?_ ?_
    rotate_left; (rintro w' ⟨s0, s1, s2, s3⟩; go_simp; with_reducible rfl); rotate_left; (simp only [sqa, sqb, sqc, sqd, i64_w, i32_w]; rfl)
    refine pu 11 171 (bl 20 4095) HT_.out (v := ?_) (a' := ?_) ?_ ?_ ?_
    rotate_left; (intro w'; go_simp; with_reducible rfl); rotate_left; (simp only [sqa, sqb, sqc, sqd, i64_w, i32_w]; rfl)
    refine pu 12 172 (bl 20 8191) HT_.out (v := ?_) (a' := ?_) ?_ ?_ ?_
    rotate_left; (intro w'; go_simp; with_reducible rfl); rotate_left; (simp only [sqa, sqb, sqc, sqd, i64_w, i32_w]; rfl)
    refine pu 13 173 (bl 20 16383) HT_.out (v := ?_) (a' := ?_) ?_ ?_ ?_
    rotate_left; (intro w'; go_simp; with_reducible rfl); rotate_left; (simp only [sqa, sqb, sqc, sqd, i64_w, i32_w]; rfl)
    refine pu 14 174 (bl 20 32767) HT_.out (v := ?_) (a' := ?_) ?_ ?_ ?_
    rotate_left; (intro w'; go_simp; with_reducible rfl); rotate_left; (simp only [sqa, sqb, sqc, sqd, i64_w, i32_w]; rfl)
    refine pu 15 175 (bl 20 65535) HT_.out (v := ?_) (a' := ?_) ?_ ?_ ?_
    rotate_left; (intro w'; go_simp; with_reducible rfl); rotate_left; (simp only [sqa, sqb, sqc, sqd, i64_w, i32_w]; rfl)
    refine pu 16 176 (bl 20 131071) HT_.out (v := ?_) (a' := ?_) ?_ ?_ ?_
    rotate_left; (intro w'; go_simp; with_reducible rfl); rotate_left; (simp only [sqa, sqb, sqc, sqd, i64_w, i32_w]; rfl)
    refine tk 17 177 (bl 20 262143) HT_.out HW_.out hHeld (v := ?_) (a' := ?_) ?_ ?_ ?_
    rotate_left; (rintro w' ⟨s0, s1, s2, s3⟩; go_simp; with_reducible rfl); rotate_left; (simp only [sqa, sqb, sqc, sqd, i64_w, i32_w]; rfl)
    refine pu 18 178 (bl 20 524287) HT_.out (v := ?_) (a' := ?_) ?_ ?_ ?_
    rotate_left; (intro w'; go_simp; with_reducible rfl); rotate_left; (simp only [sqa, sqb, sqc, sqd, i64_w, i32_w]; rfl)
    refine pu 19 179 (bl 20 1048575) HT_.out (v := ?_) (a' := ?_) ?_ ?_ ?_
    rotate_left; (intro w'; go_simp; with_reducible rfl); rotate_left; (simp only [sqa, sqb, sqc, sqd, i64_w, i32_w]; rfl)
    refine done_ (done_of HT_.out (by kernel_rfl)) ?_
    try go_wp2
    (refine Met.intro ?_; go_step; refine Cut_mk (by kernel_rfl) ?rel7)
    case rel7 => exact ⟨_, (((rd t352 t360) != 0)), (by first | rfl | (simp; done) | (simp [*]; done)), H', ⟨by first | exact Nat.le_refl _ | exact Nat.le_of_succ_le HJ11.out | (have := HJ11.out; omega)⟩, ⟨rk HO_6⟩, ⟨bk BK351⟩, ⟨bw HB⟩⟩
   case rest6 =>
   as_aux_lemma =>
   intro u_ wc hcut l_ hl_; (simp only [rl, List.reduceReplicate, List.cons_append, List.nil_append, List.append_nil, Bool.not_true, Bool.not_false, fu, Nat.reduceAdd] at hl_); subst hl_; generalize u_ 179 = v179 at hcut ⊢
   clear HC56
   (try clear c4); (try clear c53); (try clear c55)
   obtain ⟨kq, x179_55, rfl, HA, HJ55, HO_6, BK351, HB⟩ := hcut
   cases kq with
   | zero => exact absurd HA.out (by simp [j1])
   | succ kj55 =>
    have H := HA.out
    clear HA
    simp only [j1] at H
    by_cases c64 : x179_55 = true
    ·subst c64
     have H1 : (some false) = some r := by rw [if_pos rfl] at H; exact H
     clear H
     have H := H1
     clear H1
     exact absurd ((Option.some.inj H).trans hrt.out) (by decide)
    replace c64 := Bool.eq_false_iff.mpr c64
    subst c64
    have H1 : (laws_FnClocksRun.l0 kj55 l1 t352 t352 (t352.length : Int) 0 t349 t350) = some r := by rw [if_neg (show ¬ (false = true) by decide)] at H; exact H
    clear H
    have H := H1
    clear H1
    have H' := Aside0.mk H
    clear H
    obtain ⟨Ao65, co65, eo65⟩ := Kd.R_slice HO_6.out
    subst eo65
    go_wp2
    try simp only [sqa, sqb, sqc, sqd]
    refine loopF (rl [4, 1, 13, 4, 160, 60, 315] false) kj55 (fun kq u_ w' => ∃ (x182_3 : Int), (u_ 182) = .int .i64 x182_3 ∧ Aside0 (laws_FnClocksRun.l0 kq l1 t352 t352 (t352.length : Int) x182_3 t349 t350 = some r) ∧ Aside0 (kq ≤ kj55) ∧ Aside0 (Kd.R (Kd.int .i64) 3 w' w.heap.size (fun _ => True) (.slice Ao65 t352.length co65) t352) ∧ Aside0 (Kd.R (Kd.int .i64) 3 w' w.heap.size (fun _ => True) (.slice Ao65 t352.length co65) t352) ∧ Aside0 (w'.heap[gb351]? = some (.cells #[.int .i64 t349, .int .i64 t350] 49 (0, 0))) ∧ Aside0 (Below w.heap.size w w')) ?atStart8 ?round8
    case atStart8 => exact ⟨(0), (by first | rfl | (simp; done) | (simp [*]; done)), H', ⟨Nat.le_refl _⟩, ⟨rk HO_6⟩, ⟨rk HO_6⟩, ⟨bk BK351⟩, ⟨bw HB⟩⟩
    case round8 =>
     intro gk u_ wr hrel l_ hl_; (simp only [rl, List.reduceReplicate, List.cons_append, List.nil_append, List.append_nil, Bool.not_true, Bool.not_false, fu, Nat.reduceAdd] at hl_); subst hl_; generalize u_ 182 = v182 at hrel ⊢
     intro J_ K_ hJ_ hK_
     clear H'
     (try clear c4); (try clear c53); (try clear c55); (try clear c64)
     obtain ⟨x182_3, rfl, HA, HK3, HO_6, HO_180, BK351, HB⟩ := hrel
     cases gk with
     | zero => exact absurd HA.out (by simp [laws_FnClocksRun.l0])
     | succ k3 =>
      have H := HA.out
      clear HA
      simp only [laws_FnClocksRun.l0] at H
      by_cases c66 : x182_3 < (t352.length : Int)
      rotate_left
      ·rw [if_neg c66] at H
       have c66b0 : decide (x182_3 < (t352.length : Int)) = false := decide_eq_false c66
       clear c66
       have H' := Aside0.mk H
       clear H
       go_wp2
       (refine Met.intro ?_; go_step; refine Cut_mk (by kernel_rfl) ?rel9)
       case rel9 => exact ⟨_, H', ⟨by first | exact Nat.le_refl _ | exact Nat.le_of_succ_le HK3.out | exact Nat.le_of_succ_le (Nat.le_trans HK3.out (Nat.le_of_succ_le HJ55.out)) | exact Nat.le_of_succ_le (Nat.le_trans (Nat.le_trans HK3.out (Nat.le_of_succ_le HJ55.out)) (Nat.le_of_succ_le HJ11.out)) | exact Nat.le_of_succ_le HJ55.out | exact Nat.le_of_succ_le (Nat.le_trans HJ55.out (Nat.le_of_succ_le HJ11.out)) | exact Nat.le_of_succ_le HJ11.out | (have := HJ11.out; have := HJ55.out; have := HK3.out; omega)⟩, ⟨bk BK351⟩, ⟨bw HB⟩⟩
      rw [if_pos c66] at H
      have c66b0 : decide (x182_3 < (t352.length : Int)) = true := decide_eq_true c66
      clear c66
      by_cases c67 : 0 ≤ x182_3
      rotate_left
      ·rw [if_neg c67] at H
       exact absurd H (by simp)
      rw [if_pos c67] at H
      have c67b0 : decide (0 ≤ x182_3) = true := decide_eq_true c67
      clear c67
      by_cases c68 : x182_3 < (t352.length : Int)
      rotate_left
      ·rw [if_neg c68] at H
       exact absurd H (by simp)
      rw [if_pos c68] at H
      have c68b0 : decide (x182_3 < (t352.length : Int)) = true := decide_eq_true c68
      clear c68
      replace H := Option.bind_eq_some_iff.mp H
      obtain ⟨⟨t375, t376, t377⟩, A690, H⟩ := H
      replace H : (if t377 = true then (if t375 = (rd t352 x182_3) then (j3 k3 l1 t352 x182_3 (rd t352 x182_3) t352 (t352.length : Int) x182_3 (t376 != t350) t349 t350) else (j3 k3 l1 t352 x182_3 (rd t352 x182_3) t352 (t352.length : Int) x182_3 true t349 t350)) else (j3 k3 l1 t352 x182_3 (rd t352 x182_3) t352 (t352.length : Int) x182_3 true t349 t350)) = some r := H
      have A69 := Aside0.mk A690
      clear A690
      have HC70 := Aside0.mk H
      clear H
      have p374 : 0 ≤ (x182_3 : Int) := of_decide_eq_true ‹_›
      have q374 : x182_3 < (t352.length : Int) := of_decide_eq_true ‹_›
      obtain ⟨ad374, e374, hx374_0⟩ := Kd.at_int (Kd.R_reads' HO_180.out).2.2 x182_3 p374 q374
      cases e374
      replace p374 := eq_true p374
      replace q374 := eq_true q374
      have hcz71_0 := bc0 BK351
      have hcz71_1 := bc1 BK351
      have hfz71_0 := blk_frozen BK351.out 0
      have hfz71_1 := blk_frozen BK351.out 1
      go_upto_region 19 with (first | ((with_reducible refine gate_callee (f := 39) rfl ?_); refine gl 190 Try.func39 #[.agg #[.int .i64 t349, .int .i64 t350], .int .i64 x182_3] ?_; (with_reducible refine (impl_ClockAfter.calls k3 t349 t350 x182_3 t375 t376 t377 _ A69.out).mono ?_); rintro e w72 ⟨rfl, hb⟩; refine ⟨_, rfl, ?_⟩; replace HO_6 := rb HO_6 hb; replace HO_180 := rb HO_180 hb; replace BK351 := bb BK351 hb; replace HB := bs HB hb; (try clear hb)) | ((with_reducible refine gate_dst (N := 20) rfl ?_); (try (refine gate_guard (by rfl) ?_; dsimp only)); refine bx 20 #[.int .i64 0, .int .i64 0] 49 ?_; intro gb378 hg w73 hbox hb; replace HO_6 := rb HO_6 hb; replace HO_180 := rb HO_180 hb; have BK378 := Aside0.mk (hbox); have GW378 := ge HB hg; have GE378 := ge HB hg; replace HB := bs HB hb; have NB351_378 := nl BK351 hg; have NB378_351 := nr BK351 hg; replace BK351 := bb BK351 hb; clear hb hbox hg; have hnb74 := NB378_351.out; have hnc74 := NB351_378.out; have hcz75_0 := bc0 BK378; have hcz75_1 := bc1 BK378; have hfz75_0 := blk_frozen BK378.out 0; have hfz75_1 := blk_frozen BK378.out 1))
      (try simp only [sqa, sqb, sqc, sqd])
      refine cutF (rl [183, 59, 315] false) (fun u_ wc => ∃ (kq : Nat) (x207_69 : Bool), (u_ 207) = .bool x207_69 ∧ Aside0 (j3 kq l1 t352 x182_3 (rd t352 x182_3) t352 (t352.length : Int) x182_3 x207_69 t349 t350 = some r) ∧ Aside0 (kq ≤ k3) ∧ Aside0 (Kd.R (Kd.int .i64) 3 wc w.heap.size (fun _ => True) (.slice (some ad374) t352.length co65) t352) ∧ Aside0 (Kd.R (Kd.int .i64) 3 wc w.heap.size (fun _ => True) (.slice (some ad374) t352.length co65) t352) ∧ Aside0 (wc.heap[gb351]? = some (.cells #[.int .i64 t349, .int .i64 t350] 49 (0, 0))) ∧ Aside0 (wc.heap[gb378]? = some (.cells #[.int .i64 t375, .int .i64 t376] 49 (0, 0))) ∧ Aside0 (Below w.heap.size w wc)) ?first10 ?rest10
      case first10 =>
       as_aux_lemma =>
       intro J_ K_ hJ_ hK_
       have H := HC70.out
       clear HC70
       by_cases c76 : t377 = true
       rotate_left
       ·replace c76 := Bool.eq_false_iff.mpr c76
        subst c76
        have H1 : (j3 k3 l1 t352 x182_3 (rd t352 x182_3) t352 (t352.length : Int) x182_3 true t349 t350) = some r := by rw [if_neg (show ¬ (false = true) by decide)] at H; exact H
        clear H
        have H := H1
        clear H1
        exact absurd H (by rw [hrt.out]; cases k3 <;> simp [j3])
       subst c76
       have H1 : (if t375 = (rd t352 x182_3) then (j3 k3 l1 t352 x182_3 (rd t352 x182_3) t352 (t352.length : Int) x182_3 (t376 != t350) t349 t350) else (j3 k3 l1 t352 x182_3 (rd t352 x182_3) t352 (t352.length : Int) x182_3 true t349 t350)) = some r := by rw [if_pos rfl] at H; exact H
       clear H
       have H := H1
       clear H1
       by_cases c77 : t375 = (rd t352 x182_3)
       rotate_left
       ·rw [if_neg c77] at H
        have c77b0 : (t375 == (rd t352 x182_3)) = false := beq_eq_false_iff_ne.mpr c77
        have c77b1 : (t375 != (rd t352 x182_3)) = true := bne_iff_ne.mpr c77
        (first | rw [c77b0] | (simp only [i64_w, i32_w]; rw [c77b0]) | skip)
        exact absurd H (by rw [hrt.out]; cases k3 <;> simp [j3])
       rw [if_pos c77] at H
       have c77b0 : (t375 == (rd t352 x182_3)) = true := beq_iff_eq.mpr c77
       have c77b1 : (t375 != (rd t352 x182_3)) = false := bne_eq_false_iff_eq.mpr c77
       clear c77
       (first | rw [c77b0] | (simp only [i64_w, i32_w]; rw [c77b0]) | skip)
       have H' := Aside0.mk H
       clear H
       have hnb78 := NB378_351.out
       have hnc78 := NB351_378.out
       have hcz79_0 := bc0 BK378
       have hcz79_1 := bc1 BK378
       have hfz79_0 := blk_frozen BK378.out 0
       have hfz79_1 := blk_frozen BK378.out 1
       have hcz80_0 := bc0 BK351
       have hcz80_1 := bc1 BK351
       have hfz80_0 := blk_frozen BK351.out 0
       have hfz80_1 := blk_frozen BK351.out 1
       go_wp2
       (refine Met.intro ?_; go_step; refine Cut_mk (by kernel_rfl) ?rel11)
       case rel11 => exact ⟨_, ((t376 != t350)), (by first | rfl | (simp; done) | (simp [*]; done)), H', ⟨by first | exact Nat.le_refl _ | exact Nat.le_of_succ_le HK3.out | exact Nat.le_of_succ_le (Nat.le_trans HK3.out (Nat.le_of_succ_le HJ55.out)) | exact Nat.le_of_succ_le (Nat.le_trans (Nat.le_trans HK3.out (Nat.le_of_succ_le HJ55.out)) (Nat.le_of_succ_le HJ11.out)) | exact Nat.le_of_succ_le HJ55.out | exact Nat.le_of_succ_le (Nat.le_trans HJ55.out (Nat.le_of_succ_le HJ11.out)) | exact Nat.le_of_succ_le HJ11.out | (have := HJ11.out; have := HJ55.out; have := HK3.out; omega)⟩, ⟨by (with_reducible repeat (first | apply Kd.R_alloc | apply Kd.R_drewN | apply Kd.R_drew)); exact Kd.R_mono (Kd.R_far (p := ⟨gb378, 1, none⟩) (Kd.R_far (p := ⟨gb378, 0, none⟩) (Kd.R_types HO_6.out BK378.out (by decide)) (fun _ hk => hk.2) (.int .i64 t375)) (fun _ hk => hk.2) (.int .i64 t376)) (fun _ hk => trivial)⟩, ⟨by (with_reducible repeat (first | apply Kd.R_alloc | apply Kd.R_drewN | apply Kd.R_drew)); exact Kd.R_mono (Kd.R_far (p := ⟨gb378, 1, none⟩) (Kd.R_far (p := ⟨gb378, 0, none⟩) (Kd.R_types HO_180.out BK378.out (by decide)) (fun _ hk => hk.2) (.int .i64 t375)) (fun _ hk => hk.2) (.int .i64 t376)) (fun _ hk => trivial)⟩, ⟨bk BK351⟩, ⟨by (with_reducible repeat (first | refine blk_drewN ?_ _ | refine blk_drew ?_ | refine blk_alloc ?_ _)); refine blk_put (cs := #[.int .i64 t375, .int .i64 0]) ?_ 1 _ rfl; (with_reducible repeat (first | refine blk_drewN ?_ _ | refine blk_drew ?_ | refine blk_alloc ?_ _)); refine blk_put (cs := #[.int .i64 0, .int .i64 0]) ?_ 0 _ rfl; exact bk BK378⟩, ⟨bw HB⟩⟩
      case rest10 =>
      as_aux_lemma =>
      intro u_ wc hcut l_ hl_; (simp only [rl, List.reduceReplicate, List.cons_append, List.nil_append, List.append_nil, Bool.not_true, Bool.not_false, fu, Nat.reduceAdd] at hl_); subst hl_; generalize u_ 207 = v207 at hcut ⊢
      clear HC70
      (try clear c4); (try clear c53); (try clear c55); (try clear c64); (try clear c66); (try clear c66b0); (try clear c67); (try clear c67b0); (try clear c68); (try clear c68b0); (try clear hcz71_0); (try clear hcz71_1); (try clear hcz75_0); (try clear hcz75_1); (try clear hfz71_0); (try clear hfz71_1); (try clear hfz75_0); (try clear hfz75_1); (try clear hx374_0); (try clear p374); (try clear q374)
      obtain ⟨kq, x207_69, rfl, HA, HJ69, HO_6, HO_180, BK351, BK378, HB⟩ := hcut
      cases kq with
      | zero => exact absurd HA.out (by simp [j3])
      | succ kj69 =>
       have H := HA.out
       clear HA
       simp only [j3] at H
       by_cases c81 : x207_69 = true
       ·subst c81
        have H1 : (some false) = some r := by rw [if_pos rfl] at H; exact H
        clear H
        have H := H1
        clear H1
        exact absurd ((Option.some.inj H).trans hrt.out) (by decide)
       replace c81 := Bool.eq_false_iff.mpr c81
       subst c81
       have H1 : (if x182_3 > 0 then (if 0 ≤ (wrap64 (x182_3 - 1)) then (if (wrap64 (x182_3 - 1)) < (t352.length : Int) then (if t350 = 0 then (none) else (if (wrap64 ((rd t352 (wrap64 (x182_3 - 1))) - (rd t352 x182_3))) = (wrap64 (Int.tdiv (wrap64 ((wrap64 ((rd t352 (wrap64 (x182_3 - 1))) + t350)) - 1)) t350)) then (if (rd t352 x182_3) ≥ (rd t352 (wrap64 (x182_3 - 1))) then (some false) else (laws_FnClocksRun.l0 kj69 l1 t352 t352 (t352.length : Int) (wrap64 (x182_3 + 1)) t349 t350)) else (some false))) else (none)) else (none)) else (laws_FnClocksRun.l0 kj69 l1 t352 t352 (t352.length : Int) (wrap64 (x182_3 + 1)) t349 t350)) = some r := by rw [if_neg (show ¬ (false = true) by decide)] at H; exact H
       clear H
       have H := H1
       clear H1
       by_cases c82 : x182_3 > 0
       rotate_left
       ·rw [if_neg c82] at H
        have c82b0 : decide (0 < x182_3) = false := decide_eq_false c82
        clear c82
        have H' := Aside0.mk H
        clear H
        try go_wp2
        replace HO_6 := Aside0.mk (Kd.R_drew HO_6.out)
        replace HO_180 := Aside0.mk (Kd.R_drew HO_180.out)
        replace BK351 := Aside0.mk (blk_drew BK351.out)
        replace BK378 := Aside0.mk (blk_drew BK378.out)
        replace HB := Aside0.mk (below_drew1 HB.out)
        refine start_ (n := 33) (S := fun w' => True) (ds := []) (bl 33 0) (by kernel_rfl) rfl rfl trivial (fun hHeld => ?_); refine with_tabW laws_FnClocksRun.tab21 laws_FnClocksRun.bits21 (fun HT_ HW_ => ?_)
        generalize wc.drew = w90 at HO_6 HO_180 BK351 BK378 HB hHeld ⊢
        refine pu 0 208 (bl 33 1) HT_.out (v := ?_) (a' := ?_) ?_ ?_ ?_
        rotate_left; (intro w'; go_simp; with_reducible rfl); rotate_left; (simp only [sqa, sqb, sqc, sqd, i64_w, i32_w]; rfl)
        refine pu 1 209 (bl 33 3) HT_.out (v := ?_) (a' := ?_) ?_ ?_ ?_
        rotate_left; (intro w'; go_simp; with_reducible rfl); rotate_left; (simp only [sqa, sqb, sqc, sqd, i64_w, i32_w]; rfl)
        refine pu 2 210 (bl 33 7) HT_.out (v := ?_) (a' := ?_) ?_ ?_ ?_
        rotate_left; (intro w'; go_simp; with_reducible rfl); rotate_left; (simp only [sqa, sqb, sqc, sqd, i64_w, i32_w]; rfl)
        refine pure_ (i := 3) (N := some 211) (v := undef) (a' := ?_) (bl 33 15) rfl rfl (any_of HT_.out (by kernel_rfl)) (fun _ _ _ h => h) (Or.inr ⟨by rfl, rfl⟩) ?_ ?_
        rotate_left
        ·simp only [sqa, sqb, sqc, sqd, i64_w, i32_w]
         rfl
        refine pure_ (i := 4) (N := some 212) (v := undef) (a' := ?_) (bl 33 31) rfl rfl (any_of HT_.out (by kernel_rfl)) (fun _ _ _ h => h) (Or.inr ⟨by rfl, rfl⟩) ?_ ?_
        rotate_left
        ·simp only [sqa, sqb, sqc, sqd, i64_w, i32_w]
         rfl
        refine pure_ (i := 5) (N := some 213) (v := undef) (a' := ?_) (bl 33 63) rfl rfl (any_of HT_.out (by kernel_rfl)) (fun _ _ _ h => h) (Or.inr ⟨by rfl, rfl⟩) ?_ ?_
        rotate_left
        ·simp only [sqa, sqb, sqc, sqd, i64_w, i32_w]
         rfl
        refine pure_ (i := 6) (N := some 214) (v := undef) (a' := ?_) (bl 33 127) rfl rfl (any_of HT_.out (by kernel_rfl)) (fun _ _ _ h => h) (Or.inr ⟨by rfl, rfl⟩) ?_ ?_
        rotate_left
        ·simp only [sqa, sqb, sqc, sqd, i64_w, i32_w]
         rfl
        refine pure_ (i := 7) (N := some 215) (v := undef) (a' := ?_) (bl 33 255) rfl rfl (any_of HT_.out (by kernel_rfl)) (fun _ _ _ h => h) (Or.inr ⟨by rfl, rfl⟩) ?_ ?_
        rotate_left
        ·simp only [sqa, sqb, sqc, sqd, i64_w, i32_w]
         rfl
        refine pure_ (i := 8) (N := some 216) (v := undef) (a' := ?_) (bl 33 511) rfl rfl (any_of HT_.out (by kernel_rfl)) (fun _ _ _ h => h) (Or.inr ⟨by rfl, rfl⟩) ?_ ?_
        rotate_left
        ·simp only [sqa, sqb, sqc, sqd, i64_w, i32_w]
         rfl
        refine pure_ (i := 9) (N := some 217) (v := undef) (a' := ?_) (bl 33 1023) rfl rfl (any_of HT_.out (by kernel_rfl)) (fun _ _ _ h => h) (Or.inr ⟨by rfl, rfl⟩) ?_ ?_
        rotate_left
        ·simp only [sqa, sqb, sqc, sqd, i64_w, i32_w]
         rfl
        refine pure_ (i := 10) (N := some 218) (v := undef) (a' := ?_) (bl 33 2047) rfl rfl (any_of HT_.out (by kernel_rfl)) (fun _ _ _ h => h) (Or.inr ⟨by rfl, rfl⟩) ?_ ?_
        rotate_left
        ·simp only [sqa, sqb, sqc, sqd, i64_w, i32_w]
         rfl
        refine pure_ (i := 11) (N := some 219) (v := undef) (a' := ?_) (bl 33 4095) rfl rfl (any_of HT_.out (by kernel_rfl)) (fun _ _ _ h => h) (Or.inr ⟨by rfl, rfl⟩) ?_ ?_
        rotate_left
        ·simp only [sqa, sqb, sqc, sqd, i64_w, i32_w]
         rfl
        refine pure_ (i := 12) (N := some 220) (v := undef) (a' := ?_) (bl 33 8191) rfl rfl (any_of HT_.out (by kernel_rfl)) (fun _ _ _ h => h) (Or.inr ⟨by rfl, rfl⟩) ?_ ?_
        rotate_left
        ·simp only [sqa, sqb, sqc, sqd, i64_w, i32_w]
         rfl
        refine pure_ (i := 13) (N := some 221) (v := undef) (a' := ?_) (bl 33 16383) rfl rfl (any_of HT_.out (by kernel_rfl)) (fun _ _ _ h => h) (Or.inr ⟨by rfl, rfl⟩) ?_ ?_
        rotate_left
        ·simp only [sqa, sqb, sqc, sqd, i64_w, i32_w]
         rfl
        refine pure_ (i := 14) (N := some 222) (v := undef) (a' := ?_) (bl 33 32767) rfl rfl (any_of HT_.out (by kernel_rfl)) (fun _ _ _ h => h) (Or.inr ⟨by rfl, rfl⟩) ?_ ?_
        rotate_left
        ·simp only [sqa, sqb, sqc, sqd, i64_w, i32_w]
         rfl
        refine pure_ (i := 15) (N := some 223) (v := undef) (a' := ?_) (bl 33 65535) rfl rfl (any_of HT_.out (by kernel_rfl)) (fun _ _ _ h => h) (Or.inr ⟨by rfl, rfl⟩) ?_ ?_
        rotate_left
        ·simp only [sqa, sqb, sqc, sqd, i64_w, i32_w]
         rfl
        refine pure_ (i := 16) (N := some 224) (v := undef) (a' := ?_) (bl 33 131071) rfl rfl (any_of HT_.out (by kernel_rfl)) (fun _ _ _ h => h) (Or.inr ⟨by rfl, rfl⟩) ?_ ?_
        rotate_left
        ·simp only [sqa, sqb, sqc, sqd, i64_w, i32_w]
         rfl
        refine pure_ (i := 17) (N := some 225) (v := undef) (a' := ?_) (bl 33 262143) rfl rfl (any_of HT_.out (by kernel_rfl)) (fun _ _ _ h => h) (Or.inr ⟨by rfl, rfl⟩) ?_ ?_
        rotate_left
        ·simp only [sqa, sqb, sqc, sqd, i64_w, i32_w]
         rfl
        refine pure_ (i := 18) (N := some 226) (v := undef) (a' := ?_) (bl 33 524287) rfl rfl (any_of HT_.out (by kernel_rfl)) (fun _ _ _ h => h) (Or.inr ⟨by rfl, rfl⟩) ?_ ?_
        rotate_left
        ·simp only [sqa, sqb, sqc, sqd, i64_w, i32_w]
         rfl
        refine pure_ (i := 19) (N := some 227) (v := undef) (a' := ?_) (bl 33 1048575) rfl rfl (any_of HT_.out (by kernel_rfl)) (fun _ _ _ h => h) (Or.inr ⟨by rfl, rfl⟩) ?_ ?_
        rotate_left
        ·simp only [sqa, sqb, sqc, sqd, i64_w, i32_w]
         rfl
        refine pure_ (i := 20) (N := some 228) (v := undef) (a' := ?_) (bl 33 2097151) rfl rfl (any_of HT_.out (by kernel_rfl)) (fun _ _ _ h => h) (Or.inr ⟨by rfl, rfl⟩) ?_ ?_
        rotate_left
        ·simp only [sqa, sqb, sqc, sqd, i64_w, i32_w]
         rfl
        refine pure_ (i := 21) (N := some 229) (v := undef) (a' := ?_) (bl 33 4194303) rfl rfl (any_of HT_.out (by kernel_rfl)) (fun _ _ _ h => h) (Or.inr ⟨by rfl, rfl⟩) ?_ ?_
        rotate_left
        ·simp only [sqa, sqb, sqc, sqd, i64_w, i32_w]
         rfl
        refine pure_ (i := 22) (N := some 230) (v := undef) (a' := ?_) (bl 33 8388607) rfl rfl (any_of HT_.out (by kernel_rfl)) (fun _ _ _ h => h) (Or.inr ⟨by rfl, rfl⟩) ?_ ?_
        rotate_left
        ·simp only [sqa, sqb, sqc, sqd, i64_w, i32_w]
         rfl
        refine pure_ (i := 23) (N := some 231) (v := undef) (a' := ?_) (bl 33 16777215) rfl rfl (any_of HT_.out (by kernel_rfl)) (fun _ _ _ h => h) (Or.inr ⟨by rfl, rfl⟩) ?_ ?_
        rotate_left
        ·simp only [sqa, sqb, sqc, sqd, i64_w, i32_w]
         rfl
        refine pure_ (i := 24) (N := some 232) (v := undef) (a' := ?_) (bl 33 33554431) rfl rfl (any_of HT_.out (by kernel_rfl)) (fun _ _ _ h => h) (Or.inr ⟨by rfl, rfl⟩) ?_ ?_
        rotate_left
        ·simp only [sqa, sqb, sqc, sqd, i64_w, i32_w]
         rfl
        refine pure_ (i := 25) (N := some 233) (v := undef) (a' := ?_) (bl 33 67108863) rfl rfl (any_of HT_.out (by kernel_rfl)) (fun _ _ _ h => h) (Or.inr ⟨by rfl, rfl⟩) ?_ ?_
        rotate_left
        ·simp only [sqa, sqb, sqc, sqd, i64_w, i32_w]
         rfl
        refine pure_ (i := 26) (N := some 234) (v := undef) (a' := ?_) (bl 33 134217727) rfl rfl (any_of HT_.out (by kernel_rfl)) (fun _ _ _ h => h) (Or.inr ⟨by rfl, rfl⟩) ?_ ?_
        rotate_left
        ·simp only [sqa, sqb, sqc, sqd, i64_w, i32_w]
         rfl
        refine pure_ (i := 27) (N := some 235) (v := undef) (a' := ?_) (bl 33 268435455) rfl rfl (any_of HT_.out (by kernel_rfl)) (fun _ _ _ h => h) (Or.inr ⟨by rfl, rfl⟩) ?_ ?_
        rotate_left
        ·simp only [sqa, sqb, sqc, sqd, i64_w, i32_w]
         rfl
        refine pure_ (i := 28) (N := some 236) (v := undef) (a' := ?_) (bl 33 536870911) rfl rfl (any_of HT_.out (by kernel_rfl)) (fun _ _ _ h => h) (Or.inr ⟨by rfl, rfl⟩) ?_ ?_
        rotate_left
        ·simp only [sqa, sqb, sqc, sqd, i64_w, i32_w]
         rfl
        refine pure_ (i := 29) (N := some 237) (v := undef) (a' := ?_) (bl 33 1073741823) rfl rfl (any_of HT_.out (by kernel_rfl)) (fun _ _ _ h => h) (Or.inr ⟨by rfl, rfl⟩) ?_ ?_
        rotate_left
        ·simp only [sqa, sqb, sqc, sqd, i64_w, i32_w]
         rfl
        refine pure_ (i := 30) (N := some 238) (v := undef) (a' := ?_) (bl 33 2147483647) rfl rfl (any_of HT_.out (by kernel_rfl)) (fun _ _ _ h => h) (Or.inr ⟨by rfl, rfl⟩) ?_ ?_
        rotate_left
        ·simp only [sqa, sqb, sqc, sqd, i64_w, i32_w]
         rfl
        refine pure_ (i := 31) (N := some 239) (v := undef) (a' := ?_) (bl 33 4294967295) rfl rfl (any_of HT_.out (by kernel_rfl)) (fun _ _ _ h => h) (Or.inr ⟨by rfl, rfl⟩) ?_ ?_
        rotate_left
        ·simp only [sqa, sqb, sqc, sqd, i64_w, i32_w]
         rfl
        refine pu 32 240 (bl 33 8589934591) HT_.out (v := ?_) (a' := ?_) ?_ ?_ ?_
        rotate_left; (intro w'; go_simp; with_reducible rfl); rotate_left; (simp only [sqa, sqb, sqc, sqd, i64_w, i32_w]; rfl)
        refine done_ (done_of HT_.out (by kernel_rfl)) ?_
        try go_wp2
        (refine Handed.intro kj69 ?measure12 ?_; rotate_left; go_step; refine LoopI_mk (by kernel_rfl) ?rel12)
        case measure12 => have := HJ11.out; have := HJ55.out; have := HK3.out; have := HJ69.out; omega
        case rel12 => exact ⟨(wrap64 (x182_3 + 1)), (by first | rfl | (simp; done) | (simp [*]; done)), H', ⟨by have := HJ11.out; have := HJ55.out; have := HK3.out; have := HJ69.out; omega⟩, ⟨rk HO_6⟩, ⟨rk HO_180⟩, ⟨bk BK351⟩, ⟨bw HB⟩⟩
       rw [if_pos c82] at H
       have c82b0 : decide (0 < x182_3) = true := decide_eq_true c82
       clear c82
       obtain ⟨ji83, hji83⟩ : ∃ j_ : Int, (wrap64 (x182_3 - 1)) = j_ := ⟨_, rfl⟩
       replace H : (if 0 ≤ (ji83) then (if (ji83) < (t352.length : Int) then (if t350 = 0 then (none) else (if (wrap64 ((rd t352 (ji83)) - (rd t352 x182_3))) = (wrap64 (Int.tdiv (wrap64 ((wrap64 ((rd t352 (ji83)) + t350)) - 1)) t350)) then (if (rd t352 x182_3) ≥ (rd t352 (ji83)) then (some false) else (laws_FnClocksRun.l0 kj69 l1 t352 t352 (t352.length : Int) (wrap64 (x182_3 + 1)) t349 t350)) else (some false))) else (none)) else (none)) = some r := by first | (rw [hji83] at H; exact H) | (simp only [hji83] at H ⊢; exact H)
       have hji83w : (IntKind.i64.wrap (x182_3 - 1)) = ji83 := (i64_w _).trans hji83
       by_cases c84 : 0 ≤ (ji83)
       rotate_left
       ·rw [if_neg c84] at H
        exact absurd H (by simp)
       rw [if_pos c84] at H
       have c84b0 : decide (0 ≤ (ji83)) = true := decide_eq_true c84
       clear c84
       by_cases c85 : (ji83) < (t352.length : Int)
       rotate_left
       ·rw [if_neg c85] at H
        exact absurd H (by simp)
       rw [if_pos c85] at H
       have c85b0 : decide ((ji83) < (t352.length : Int)) = true := decide_eq_true c85
       clear c85
       by_cases c86 : t350 = 0
       ·rw [if_pos c86] at H
        exact absurd H (by simp)
       rw [if_neg c86] at H
       have c86b0 : (t350 == 0) = false := beq_eq_false_iff_ne.mpr c86
       have c86b1 : (t350 != 0) = true := bne_iff_ne.mpr c86
       by_cases c87 : (wrap64 ((rd t352 (ji83)) - (rd t352 x182_3))) = (wrap64 (Int.tdiv (wrap64 ((wrap64 ((rd t352 (ji83)) + t350)) - 1)) t350))
       rotate_left
       ·rw [if_neg c87] at H
        have c87b0 : ((wrap64 ((rd t352 (ji83)) - (rd t352 x182_3))) == (wrap64 (Int.tdiv (wrap64 ((wrap64 ((rd t352 (ji83)) + t350)) - 1)) t350))) = false := beq_eq_false_iff_ne.mpr c87
        have c87b1 : ((wrap64 ((rd t352 (ji83)) - (rd t352 x182_3))) != (wrap64 (Int.tdiv (wrap64 ((wrap64 ((rd t352 (ji83)) + t350)) - 1)) t350))) = true := bne_iff_ne.mpr c87
        exact absurd ((Option.some.inj H).trans hrt.out) (by decide)
       rw [if_pos c87] at H
       have c87b0 : ((wrap64 ((rd t352 (ji83)) - (rd t352 x182_3))) == (wrap64 (Int.tdiv (wrap64 ((wrap64 ((rd t352 (ji83)) + t350)) - 1)) t350))) = true := beq_iff_eq.mpr c87
       have c87b1 : ((wrap64 ((rd t352 (ji83)) - (rd t352 x182_3))) != (wrap64 (Int.tdiv (wrap64 ((wrap64 ((rd t352 (ji83)) + t350)) - 1)) t350))) = false := bne_eq_false_iff_eq.mpr c87
       clear c87
       by_cases c88 : (rd t352 x182_3) ≥ (rd t352 (ji83))
       ·rw [if_pos c88] at H
        have c88b0 : decide ((rd t352 (ji83)) ≤ (rd t352 x182_3)) = true := decide_eq_true c88
        clear c88
        exact absurd ((Option.some.inj H).trans hrt.out) (by decide)
       rw [if_neg c88] at H
       have c88b0 : decide ((rd t352 (ji83)) ≤ (rd t352 x182_3)) = false := decide_eq_false c88
       clear c88
       have H' := Aside0.mk H
       clear H
       try go_wp2
       replace HO_6 := Aside0.mk (Kd.R_drew HO_6.out)
       replace HO_180 := Aside0.mk (Kd.R_drew HO_180.out)
       replace BK351 := Aside0.mk (blk_drew BK351.out)
       replace BK378 := Aside0.mk (blk_drew BK378.out)
       replace HB := Aside0.mk (below_drew1 HB.out)
       have p379 : 0 ≤ ((ji83) : Int) := of_decide_eq_true ‹_›
       have q379 : (ji83) < (t352.length : Int) := of_decide_eq_true ‹_›
       obtain ⟨ad379, e379, hx379_0⟩ := Kd.at_int (Kd.R_reads' HO_6.out).2.2 (ji83) p379 q379
       obtain rfl : ad374 = ad379 := (by injection e379)
       replace p379 := eq_true p379
       replace q379 := eq_true q379
       have p380 : 0 ≤ ((ji83) : Int) := of_decide_eq_true ‹_›
       have q380 : (ji83) < (t352.length : Int) := of_decide_eq_true ‹_›
       obtain ⟨ad380, e380, hx380_0⟩ := Kd.at_int (Kd.R_reads' HO_6.out).2.2 (ji83) p380 q380
       obtain rfl : ad374 = ad380 := (by injection e380)
       replace p380 := eq_true p380
       replace q380 := eq_true q380
       have p381 : 0 ≤ ((ji83) : Int) := of_decide_eq_true ‹_›
       have q381 : (ji83) < (t352.length : Int) := of_decide_eq_true ‹_›
       obtain ⟨ad381, e381, hx381_0⟩ := Kd.at_int (Kd.R_reads' HO_6.out).2.2 (ji83) p381 q381
       obtain rfl : ad374 = ad381 := (by injection e381)
       replace p381 := eq_true p381
       replace q381 := eq_true q381
       refine start_ (n := 33) (S := fun w' => w'.cell? ⟨gb351, 0, none⟩ = some (.int .i64 t349) ∧ w'.cell? ⟨gb351, 1, none⟩ = some (.int .i64 t350) ∧ w'.cell? (ad374.add ((ji83)).toNat) = some (.int .i64 (rd t352 (ji83))) ∧ w'.cell? (ad374.add ((ji83)).toNat) = some (.int .i64 (rd t352 (ji83))) ∧ w'.cell? (ad374.add ((ji83)).toNat) = some (.int .i64 (rd t352 (ji83)))) (ds := []) (bl 33 0) (by kernel_rfl) rfl rfl ⟨bc0 BK351, bc1 BK351, hx379_0, hx380_0, hx381_0⟩ (fun hHeld => ?_); refine with_tabW laws_FnClocksRun.tab21 laws_FnClocksRun.bits21 (fun HT_ HW_ => ?_)
       generalize wc.drew = w89 at HO_6 HO_180 BK351 BK378 HB hx379_0 hx380_0 hx381_0 hHeld ⊢
       refine pu 0 208 (bl 33 1) HT_.out (v := ?_) (a' := ?_) ?_ ?_ ?_
       rotate_left; (intro w'; go_simp; with_reducible rfl); rotate_left; (simp only [sqa, sqb, sqc, sqd, i64_w, i32_w]; rfl)
       refine pu 1 209 (bl 33 3) HT_.out (v := ?_) (a' := ?_) ?_ ?_ ?_
       rotate_left; (intro w'; go_simp; with_reducible rfl); rotate_left; (simp only [sqa, sqb, sqc, sqd, i64_w, i32_w]; rfl)
       refine pu 2 210 (bl 33 7) HT_.out (v := ?_) (a' := ?_) ?_ ?_ ?_
       rotate_left; (intro w'; go_simp; with_reducible rfl); rotate_left; (simp only [sqa, sqb, sqc, sqd, i64_w, i32_w]; rfl)
       refine pu 3 211 (bl 33 15) HT_.out (v := ?_) (a' := ?_) ?_ ?_ ?_
       rotate_left; (intro w'; go_simp; with_reducible rfl); rotate_left; (simp only [sqa, sqb, sqc, sqd, i64_w, i32_w]; rfl)
       refine pu 4 212 (bl 33 31) HT_.out (v := ?_) (a' := ?_) ?_ ?_ ?_
       rotate_left; (intro w'; go_simp; with_reducible rfl); rotate_left; (simp only [sqa, sqb, sqc, sqd, i64_w, i32_w]; rfl)
       refine pu 5 213 (bl 33 63) HT_.out (v := ?_) (a' := ?_) ?_ ?_ ?_
       rotate_left; (intro w'; go_simp; with_reducible rfl); rotate_left; (simp only [sqa, sqb, sqc, sqd, i64_w, i32_w]; rfl)
       refine pu 6 214 (bl 33 127) HT_.out (v := ?_) (a' := ?_) ?_ ?_ ?_
       rotate_left; (intro w'; go_simp; with_reducible rfl); rotate_left; (simp only [sqa, sqb, sqc, sqd, i64_w, i32_w]; rfl)
       refine pu 8 216 (bl 33 383) HT_.out (v := ?_) (a' := ?_) ?_ ?_ ?_
       rotate_left; (intro w'; go_simp; with_reducible rfl); rotate_left; (simp only [sqa, sqb, sqc, sqd, i64_w, i32_w]; rfl)
       refine pu 10 218 (bl 33 1407) HT_.out (v := ?_) (a' := ?_) ?_ ?_ ?_
       rotate_left; (intro w'; go_simp; with_reducible rfl); rotate_left; (simp only [sqa, sqb, sqc, sqd, i64_w, i32_w]; rfl)
       refine pu 11 219 (bl 33 3455) HT_.out (v := ?_) (a' := ?_) ?_ ?_ ?_
       rotate_left; (intro w'; go_simp; with_reducible rfl); rotate_left; (simp only [sqa, sqb, sqc, sqd, i64_w, i32_w]; rfl)
       refine pu 12 220 (bl 33 7551) HT_.out (v := ?_) (a' := ?_) ?_ ?_ ?_
       rotate_left; (intro w'; go_simp; with_reducible rfl); rotate_left; (simp only [sqa, sqb, sqc, sqd, i64_w, i32_w]; rfl)
       refine pu 13 221 (bl 33 15743) HT_.out (v := ?_) (a' := ?_) ?_ ?_ ?_
       rotate_left; (intro w'; go_simp; with_reducible rfl); rotate_left; (simp only [sqa, sqb, sqc, sqd, i64_w, i32_w]; rfl)
       refine pu 15 223 (bl 33 48511) HT_.out (v := ?_) (a' := ?_) ?_ ?_ ?_
       rotate_left; (intro w'; go_simp; with_reducible rfl); rotate_left; (simp only [sqa, sqb, sqc, sqd, i64_w, i32_w]; rfl)
       refine pu 19 227 (bl 33 572799) HT_.out (v := ?_) (a' := ?_) ?_ ?_ ?_
       rotate_left; (intro w'; go_simp; with_reducible rfl); rotate_left; (simp only [sqa, sqb, sqc, sqd, i64_w, i32_w]; rfl)
       refine tk 7 215 (bl 33 572927) HT_.out HW_.out hHeld (v := ?_) (a' := ?_) ?_ ?_ ?_
       rotate_left; (rintro w' ⟨s0, s1, s2, s3, s4⟩; go_simp; with_reducible rfl); rotate_left; (simp only [sqa, sqb, sqc, sqd, i64_w, i32_w]; rfl)
       refine pu 9 217 (bl 33 573439) HT_.out (v := ?_) (a' := ?_) ?_ ?_ ?_
       rotate_left; (intro w'; go_simp; with_reducible rfl); rotate_left; (simp only [sqa, sqb, sqc, sqd, i64_w, i32_w]; rfl)
       refine tk 14 222 (bl 33 589823) HT_.out HW_.out hHeld (v := ?_) (a' := ?_) ?_ ?_ ?_
       rotate_left; (rintro w' ⟨s0, s1, s2, s3, s4⟩; go_simp; with_reducible rfl); rotate_left; (simp only [sqa, sqb, sqc, sqd, i64_w, i32_w]; rfl)
       refine tk 16 224 (bl 33 655359) HT_.out HW_.out hHeld (v := ?_) (a' := ?_) ?_ ?_ ?_
       rotate_left; (rintro w' ⟨s0, s1, s2, s3, s4⟩; go_simp; with_reducible rfl); rotate_left; (simp only [sqa, sqb, sqc, sqd, i64_w, i32_w]; rfl)
       refine pu 17 225 (bl 33 786431) HT_.out (v := ?_) (a' := ?_) ?_ ?_ ?_
       rotate_left; (intro w'; go_simp; with_reducible rfl); rotate_left; (simp only [sqa, sqb, sqc, sqd, i64_w, i32_w]; rfl)
       refine pu 18 226 (bl 33 1048575) HT_.out (v := ?_) (a' := ?_) ?_ ?_ ?_
       rotate_left; (intro w'; go_simp; with_reducible rfl); rotate_left; (simp only [sqa, sqb, sqc, sqd, i64_w, i32_w]; rfl)
       refine tk 20 228 (bl 33 2097151) HT_.out HW_.out hHeld (v := ?_) (a' := ?_) ?_ ?_ ?_
       rotate_left; (rintro w' ⟨s0, s1, s2, s3, s4⟩; go_simp; with_reducible rfl); rotate_left; (simp only [sqa, sqb, sqc, sqd, i64_w, i32_w]; rfl)
       refine pu 21 229 (bl 33 4194303) HT_.out (v := ?_) (a' := ?_) ?_ ?_ ?_
       rotate_left; (intro w'; go_simp; with_reducible rfl); rotate_left; (simp only [sqa, sqb, sqc, sqd, i64_w, i32_w]; rfl)
       refine pu 22 230 (bl 33 8388607) HT_.out (v := ?_) (a' := ?_) ?_ ?_ ?_
       rotate_left; (intro w'; go_simp; with_reducible rfl); rotate_left; (simp only [sqa, sqb, sqc, sqd, i64_w, i32_w]; rfl)
       refine pu 23 231 (bl 33 16777215) HT_.out (v := ?_) (a' := ?_) ?_ ?_ ?_
       rotate_left; (intro w'; go_simp; with_reducible rfl); rotate_left; (simp only [sqa, sqb, sqc, sqd, i64_w, i32_w]; rfl)
       refine pu 24 232 (bl 33 33554431) HT_.out (v := ?_) (a' := ?_) ?_ ?_ ?_
       rotate_left; (intro w'; go_simp; with_reducible rfl); rotate_left; (simp only [sqa, sqb, sqc, sqd, i64_w, i32_w]; rfl)
       refine pu 25 233 (bl 33 67108863) HT_.out (v := ?_) (a' := ?_) ?_ ?_ ?_
       rotate_left; (intro w'; go_simp; with_reducible rfl); rotate_left; (simp only [sqa, sqb, sqc, sqd, i64_w, i32_w]; rfl)
       refine pu 26 234 (bl 33 134217727) HT_.out (v := ?_) (a' := ?_) ?_ ?_ ?_
       rotate_left; (intro w'; go_simp; with_reducible rfl); rotate_left; (simp only [sqa, sqb, sqc, sqd, i64_w, i32_w]; rfl)
       refine pu 27 235 (bl 33 268435455) HT_.out (v := ?_) (a' := ?_) ?_ ?_ ?_
       rotate_left; (intro w'; go_simp; with_reducible rfl); rotate_left; (simp only [sqa, sqb, sqc, sqd, i64_w, i32_w]; rfl)
       refine pu 28 236 (bl 33 536870911) HT_.out (v := ?_) (a' := ?_) ?_ ?_ ?_
       rotate_left; (intro w'; go_simp; with_reducible rfl); rotate_left; (simp only [sqa, sqb, sqc, sqd, i64_w, i32_w]; rfl)
       refine tk 29 237 (bl 33 1073741823) HT_.out HW_.out hHeld (v := ?_) (a' := ?_) ?_ ?_ ?_
       rotate_left; (rintro w' ⟨s0, s1, s2, s3, s4⟩; go_simp; with_reducible rfl); rotate_left; (simp only [sqa, sqb, sqc, sqd, i64_w, i32_w]; rfl)
       refine pu 30 238 (bl 33 2147483647) HT_.out (v := ?_) (a' := ?_) ?_ ?_ ?_
       rotate_left; (intro w'; go_simp; with_reducible rfl); rotate_left; (simp only [sqa, sqb, sqc, sqd, i64_w, i32_w]; rfl)
       refine pu 31 239 (bl 33 4294967295) HT_.out (v := ?_) (a' := ?_) ?_ ?_ ?_
       rotate_left; (intro w'; go_simp; with_reducible rfl); rotate_left; (simp only [sqa, sqb, sqc, sqd, i64_w, i32_w]; rfl)
       refine pu 32 240 (bl 33 8589934591) HT_.out (v := ?_) (a' := ?_) ?_ ?_ ?_
       rotate_left; (intro w'; go_simp; with_reducible rfl); rotate_left; (simp only [sqa, sqb, sqc, sqd, i64_w, i32_w]; rfl)
       refine done_ (done_of HT_.out (by kernel_rfl)) ?_
       try go_wp2
       (refine Handed.intro kj69 ?measure13 ?_; rotate_left; go_step; refine LoopI_mk (by kernel_rfl) ?rel13)
       case measure13 => have := HJ11.out; have := HJ55.out; have := HK3.out; have := HJ69.out; omega
       case rel13 => exact ⟨(wrap64 (x182_3 + 1)), (by first | rfl | (simp; done) | (simp [*]; done)), H', ⟨by have := HJ11.out; have := HJ55.out; have := HK3.out; have := HJ69.out; omega⟩, ⟨rk HO_6⟩, ⟨rk HO_180⟩, ⟨bk BK351⟩, ⟨bw HB⟩⟩
  case rest4 =>
  as_aux_lemma =>
  intro u_ wc hcut l_ hl_; (simp only [rl, List.reduceReplicate, List.cons_append, List.nil_append, List.append_nil, Bool.not_true, Bool.not_false, fu, Nat.reduceAdd] at hl_); subst hl_
  clear HC54
  obtain ⟨kq, HA, HJ53, BK351, HB⟩ := hcut
  cases kq with
  | zero => exact absurd HA.out (by simp [j4])
  | succ kj53 =>
   have H := HA.out
   clear HA
   simp only [j4] at H
   replace H := Option.bind_eq_some_iff.mp H
   obtain ⟨⟨t382, t383, t384⟩, A910, H⟩ := H
   replace H : ((impl_MarksOf.f kj53 t382 t383 t384).bind fun bt386 => ((spec_MarksOf.f kj53 t382 t383 t384).bind fun bt390 => ((spec_DrawTimeOfLevel.f l1).bind fun bt394 => ((impl_TimeOfLevel.f kj53 bt394.1 bt394.2.1 bt394.2.2).bind fun bt398 => ((spec_TimeOfLevel.f kj53 bt394.1 bt394.2.1 bt394.2.2).bind fun bt400 => ((spec_DrawClockAfter.f l1).bind fun bt402 => ((impl_ClockAfter.f kj53 bt402.1 bt402.2.1 bt402.2.2).bind fun bt406 => ((spec_ClockAfter.f kj53 bt402.1 bt402.2.1 bt402.2.2).bind fun bt410 => (if (bt386.2 != bt390.2) = true then (j5 kj53 l1 t384 bt386.1 bt386.2 bt394.2.2 bt398.1 bt398.2 true t382 t383 bt394.1 bt394.2.1) else ((laws_eSame.f kj53 bt386.1 bt390.1).bind fun t414 => (if t414 = true then (if (bt398.2 != bt400.2) = true then (j5 kj53 l1 t384 bt386.1 bt386.2 bt394.2.2 bt398.1 bt398.2 true t382 t383 bt394.1 bt394.2.1) else (if bt398.1 = bt400.1 then (if (bt406.2.2 != bt410.2.2) = true then (j5 kj53 l1 t384 bt386.1 bt386.2 bt394.2.2 bt398.1 bt398.2 true t382 t383 bt394.1 bt394.2.1) else (j5 kj53 l1 t384 bt386.1 bt386.2 bt394.2.2 bt398.1 bt398.2 (!(bt406.1 == bt410.1) || (!(bt406.2.1 == bt410.2.1))) t382 t383 bt394.1 bt394.2.1)) else (j5 kj53 l1 t384 bt386.1 bt386.2 bt394.2.2 bt398.1 bt398.2 true t382 t383 bt394.1 bt394.2.1))) else (j5 kj53 l1 t384 bt386.1 bt386.2 bt394.2.2 bt398.1 bt398.2 true t382 t383 bt394.1 bt394.2.1)))))))))))) = some r := H
   have A91 := Aside0.mk A910
   clear A910
   replace H := Option.bind_eq_some_iff.mp H
   obtain ⟨⟨t386, t389⟩, A920, H⟩ := H
   replace H : ((spec_MarksOf.f kj53 t382 t383 t384).bind fun bt390 => ((spec_DrawTimeOfLevel.f l1).bind fun bt394 => ((impl_TimeOfLevel.f kj53 bt394.1 bt394.2.1 bt394.2.2).bind fun bt398 => ((spec_TimeOfLevel.f kj53 bt394.1 bt394.2.1 bt394.2.2).bind fun bt400 => ((spec_DrawClockAfter.f l1).bind fun bt402 => ((impl_ClockAfter.f kj53 bt402.1 bt402.2.1 bt402.2.2).bind fun bt406 => ((spec_ClockAfter.f kj53 bt402.1 bt402.2.1 bt402.2.2).bind fun bt410 => (if (t389 != bt390.2) = true then (j5 kj53 l1 t384 t386 t389 bt394.2.2 bt398.1 bt398.2 true t382 t383 bt394.1 bt394.2.1) else ((laws_eSame.f kj53 t386 bt390.1).bind fun t414 => (if t414 = true then (if (bt398.2 != bt400.2) = true then (j5 kj53 l1 t384 t386 t389 bt394.2.2 bt398.1 bt398.2 true t382 t383 bt394.1 bt394.2.1) else (if bt398.1 = bt400.1 then (if (bt406.2.2 != bt410.2.2) = true then (j5 kj53 l1 t384 t386 t389 bt394.2.2 bt398.1 bt398.2 true t382 t383 bt394.1 bt394.2.1) else (j5 kj53 l1 t384 t386 t389 bt394.2.2 bt398.1 bt398.2 (!(bt406.1 == bt410.1) || (!(bt406.2.1 == bt410.2.1))) t382 t383 bt394.1 bt394.2.1)) else (j5 kj53 l1 t384 t386 t389 bt394.2.2 bt398.1 bt398.2 true t382 t383 bt394.1 bt394.2.1))) else (j5 kj53 l1 t384 t386 t389 bt394.2.2 bt398.1 bt398.2 true t382 t383 bt394.1 bt394.2.1))))))))))) = some r := H
   have A92 := Aside0.mk A920
   clear A920
   replace H := Option.bind_eq_some_iff.mp H
   obtain ⟨⟨t390, t393⟩, A930, H⟩ := H
   replace H : ((spec_DrawTimeOfLevel.f l1).bind fun bt394 => ((impl_TimeOfLevel.f kj53 bt394.1 bt394.2.1 bt394.2.2).bind fun bt398 => ((spec_TimeOfLevel.f kj53 bt394.1 bt394.2.1 bt394.2.2).bind fun bt400 => ((spec_DrawClockAfter.f l1).bind fun bt402 => ((impl_ClockAfter.f kj53 bt402.1 bt402.2.1 bt402.2.2).bind fun bt406 => ((spec_ClockAfter.f kj53 bt402.1 bt402.2.1 bt402.2.2).bind fun bt410 => (if (t389 != t393) = true then (j5 kj53 l1 t384 t386 t389 bt394.2.2 bt398.1 bt398.2 true t382 t383 bt394.1 bt394.2.1) else ((laws_eSame.f kj53 t386 t390).bind fun t414 => (if t414 = true then (if (bt398.2 != bt400.2) = true then (j5 kj53 l1 t384 t386 t389 bt394.2.2 bt398.1 bt398.2 true t382 t383 bt394.1 bt394.2.1) else (if bt398.1 = bt400.1 then (if (bt406.2.2 != bt410.2.2) = true then (j5 kj53 l1 t384 t386 t389 bt394.2.2 bt398.1 bt398.2 true t382 t383 bt394.1 bt394.2.1) else (j5 kj53 l1 t384 t386 t389 bt394.2.2 bt398.1 bt398.2 (!(bt406.1 == bt410.1) || (!(bt406.2.1 == bt410.2.1))) t382 t383 bt394.1 bt394.2.1)) else (j5 kj53 l1 t384 t386 t389 bt394.2.2 bt398.1 bt398.2 true t382 t383 bt394.1 bt394.2.1))) else (j5 kj53 l1 t384 t386 t389 bt394.2.2 bt398.1 bt398.2 true t382 t383 bt394.1 bt394.2.1)))))))))) = some r := H
   have A93 := Aside0.mk A930
   clear A930
   replace H := Option.bind_eq_some_iff.mp H
   obtain ⟨⟨t394, t395, t396⟩, A940, H⟩ := H
   replace H : ((impl_TimeOfLevel.f kj53 t394 t395 t396).bind fun bt398 => ((spec_TimeOfLevel.f kj53 t394 t395 t396).bind fun bt400 => ((spec_DrawClockAfter.f l1).bind fun bt402 => ((impl_ClockAfter.f kj53 bt402.1 bt402.2.1 bt402.2.2).bind fun bt406 => ((spec_ClockAfter.f kj53 bt402.1 bt402.2.1 bt402.2.2).bind fun bt410 => (if (t389 != t393) = true then (j5 kj53 l1 t384 t386 t389 t396 bt398.1 bt398.2 true t382 t383 t394 t395) else ((laws_eSame.f kj53 t386 t390).bind fun t414 => (if t414 = true then (if (bt398.2 != bt400.2) = true then (j5 kj53 l1 t384 t386 t389 t396 bt398.1 bt398.2 true t382 t383 t394 t395) else (if bt398.1 = bt400.1 then (if (bt406.2.2 != bt410.2.2) = true then (j5 kj53 l1 t384 t386 t389 t396 bt398.1 bt398.2 true t382 t383 t394 t395) else (j5 kj53 l1 t384 t386 t389 t396 bt398.1 bt398.2 (!(bt406.1 == bt410.1) || (!(bt406.2.1 == bt410.2.1))) t382 t383 t394 t395)) else (j5 kj53 l1 t384 t386 t389 t396 bt398.1 bt398.2 true t382 t383 t394 t395))) else (j5 kj53 l1 t384 t386 t389 t396 bt398.1 bt398.2 true t382 t383 t394 t395))))))))) = some r := H
   have A94 := Aside0.mk A940
   clear A940
   replace H := Option.bind_eq_some_iff.mp H
   obtain ⟨⟨t398, t399⟩, A950, H⟩ := H
   replace H : ((spec_TimeOfLevel.f kj53 t394 t395 t396).bind fun bt400 => ((spec_DrawClockAfter.f l1).bind fun bt402 => ((impl_ClockAfter.f kj53 bt402.1 bt402.2.1 bt402.2.2).bind fun bt406 => ((spec_ClockAfter.f kj53 bt402.1 bt402.2.1 bt402.2.2).bind fun bt410 => (if (t389 != t393) = true then (j5 kj53 l1 t384 t386 t389 t396 t398 t399 true t382 t383 t394 t395) else ((laws_eSame.f kj53 t386 t390).bind fun t414 => (if t414 = true then (if (t399 != bt400.2) = true then (j5 kj53 l1 t384 t386 t389 t396 t398 t399 true t382 t383 t394 t395) else (if t398 = bt400.1 then (if (bt406.2.2 != bt410.2.2) = true then (j5 kj53 l1 t384 t386 t389 t396 t398 t399 true t382 t383 t394 t395) else (j5 kj53 l1 t384 t386 t389 t396 t398 t399 (!(bt406.1 == bt410.1) || (!(bt406.2.1 == bt410.2.1))) t382 t383 t394 t395)) else (j5 kj53 l1 t384 t386 t389 t396 t398 t399 true t382 t383 t394 t395))) else (j5 kj53 l1 t384 t386 t389 t396 t398 t399 true t382 t383 t394 t395)))))))) = some r := H
   have A95 := Aside0.mk A950
   clear A950
   replace H := Option.bind_eq_some_iff.mp H
   obtain ⟨⟨t400, t401⟩, A960, H⟩ := H
   replace H : ((spec_DrawClockAfter.f l1).bind fun bt402 => ((impl_ClockAfter.f kj53 bt402.1 bt402.2.1 bt402.2.2).bind fun bt406 => ((spec_ClockAfter.f kj53 bt402.1 bt402.2.1 bt402.2.2).bind fun bt410 => (if (t389 != t393) = true then (j5 kj53 l1 t384 t386 t389 t396 t398 t399 true t382 t383 t394 t395) else ((laws_eSame.f kj53 t386 t390).bind fun t414 => (if t414 = true then (if (t399 != t401) = true then (j5 kj53 l1 t384 t386 t389 t396 t398 t399 true t382 t383 t394 t395) else (if t398 = t400 then (if (bt406.2.2 != bt410.2.2) = true then (j5 kj53 l1 t384 t386 t389 t396 t398 t399 true t382 t383 t394 t395) else (j5 kj53 l1 t384 t386 t389 t396 t398 t399 (!(bt406.1 == bt410.1) || (!(bt406.2.1 == bt410.2.1))) t382 t383 t394 t395)) else (j5 kj53 l1 t384 t386 t389 t396 t398 t399 true t382 t383 t394 t395))) else (j5 kj53 l1 t384 t386 t389 t396 t398 t399 true t382 t383 t394 t395))))))) = some r := H
   have A96 := Aside0.mk A960
   clear A960
   replace H := Option.bind_eq_some_iff.mp H
   obtain ⟨⟨t402, t403, t404⟩, A970, H⟩ := H
   replace H : ((impl_ClockAfter.f kj53 t402 t403 t404).bind fun bt406 => ((spec_ClockAfter.f kj53 t402 t403 t404).bind fun bt410 => (if (t389 != t393) = true then (j5 kj53 l1 t384 t386 t389 t396 t398 t399 true t382 t383 t394 t395) else ((laws_eSame.f kj53 t386 t390).bind fun t414 => (if t414 = true then (if (t399 != t401) = true then (j5 kj53 l1 t384 t386 t389 t396 t398 t399 true t382 t383 t394 t395) else (if t398 = t400 then (if (bt406.2.2 != bt410.2.2) = true then (j5 kj53 l1 t384 t386 t389 t396 t398 t399 true t382 t383 t394 t395) else (j5 kj53 l1 t384 t386 t389 t396 t398 t399 (!(bt406.1 == bt410.1) || (!(bt406.2.1 == bt410.2.1))) t382 t383 t394 t395)) else (j5 kj53 l1 t384 t386 t389 t396 t398 t399 true t382 t383 t394 t395))) else (j5 kj53 l1 t384 t386 t389 t396 t398 t399 true t382 t383 t394 t395)))))) = some r := H
   have A97 := Aside0.mk A970
   clear A970
   replace H := Option.bind_eq_some_iff.mp H
   obtain ⟨⟨t406, t407, t408⟩, A980, H⟩ := H
   replace H : ((spec_ClockAfter.f kj53 t402 t403 t404).bind fun bt410 => (if (t389 != t393) = true then (j5 kj53 l1 t384 t386 t389 t396 t398 t399 true t382 t383 t394 t395) else ((laws_eSame.f kj53 t386 t390).bind fun t414 => (if t414 = true then (if (t399 != t401) = true then (j5 kj53 l1 t384 t386 t389 t396 t398 t399 true t382 t383 t394 t395) else (if t398 = t400 then (if (t408 != bt410.2.2) = true then (j5 kj53 l1 t384 t386 t389 t396 t398 t399 true t382 t383 t394 t395) else (j5 kj53 l1 t384 t386 t389 t396 t398 t399 (!(t406 == bt410.1) || (!(t407 == bt410.2.1))) t382 t383 t394 t395)) else (j5 kj53 l1 t384 t386 t389 t396 t398 t399 true t382 t383 t394 t395))) else (j5 kj53 l1 t384 t386 t389 t396 t398 t399 true t382 t383 t394 t395))))) = some r := H
   have A98 := Aside0.mk A980
   clear A980
   replace H := Option.bind_eq_some_iff.mp H
   obtain ⟨⟨t410, t411, t412⟩, A990, H⟩ := H
   replace H : (if (t389 != t393) = true then (j5 kj53 l1 t384 t386 t389 t396 t398 t399 true t382 t383 t394 t395) else ((laws_eSame.f kj53 t386 t390).bind fun t414 => (if t414 = true then (if (t399 != t401) = true then (j5 kj53 l1 t384 t386 t389 t396 t398 t399 true t382 t383 t394 t395) else (if t398 = t400 then (if (t408 != t412) = true then (j5 kj53 l1 t384 t386 t389 t396 t398 t399 true t382 t383 t394 t395) else (j5 kj53 l1 t384 t386 t389 t396 t398 t399 (!(t406 == t410) || (!(t407 == t411))) t382 t383 t394 t395)) else (j5 kj53 l1 t384 t386 t389 t396 t398 t399 true t382 t383 t394 t395))) else (j5 kj53 l1 t384 t386 t389 t396 t398 t399 true t382 t383 t394 t395)))) = some r := H
   have A99 := Aside0.mk A990
   clear A990
   have HC100 := Aside0.mk H
   clear H
   go_upto_region 33 with (first | ((with_reducible refine gate_callee (f := 40) rfl ?_); refine gl 244 Try.func40 #[.slice A1 l1.length c1] ?_; (with_reducible refine (spec_DrawMarksOf.calls _ _ l1 t382 t383 t384 _ ?side1 ?side2 A91.out).mono ?_); (case side1 => exact ck HR1 HB); (case side2 => exact HC1.out); rintro e w101 ⟨rfl, hb⟩; refine ⟨_, rfl, ?_⟩; replace BK351 := bb BK351 hb; replace HB := bs HB hb; (try clear hb)) | ((with_reducible refine gate_dst (N := 22) rfl ?_); (try (refine gate_guard (by rfl) ?_; dsimp only)); refine bx 22 #[.int .i64 0, .int .i64 0] 49 ?_; intro gb385 hg w102 hbox hb; have BK385 := Aside0.mk (hbox); have GW385 := ge HB hg; have GE385 := ge HB hg; replace HB := bs HB hb; have NB351_385 := nl BK351 hg; have NB385_351 := nr BK351 hg; replace BK351 := bb BK351 hb; clear hb hbox hg; have hnb103 := NB385_351.out; have hnc103 := NB351_385.out; have hcz104_0 := bc0 BK385; have hcz104_1 := bc1 BK385; have hfz104_0 := blk_frozen BK385.out 0; have hfz104_1 := blk_frozen BK385.out 1) | ((with_reducible refine gate_callee (f := 41) rfl ?_); refine gl 250 Try.func41 #[.agg #[.int .i64 t382, .int .i64 t383], .int .i64 t384] ?_; (with_reducible refine (impl_MarksOf.calls kj53 t382 t383 t384 t386 t389 _ A92.out).mono ?_); rintro e w105 ⟨v387, rfl, ho0, hb⟩; refine ⟨_, rfl, ?_⟩; have HO388 := lo ho0 HB; replace BK351 := bb BK351 hb; replace BK385 := Aside0.mk (blk_below (g := gb385) (o := .cells #[.int .i64 t382, .int .i64 t383] 49 (0, 0)) (by (with_reducible repeat (first | refine blk_drewN ?_ _ | refine blk_drew ?_ | refine blk_alloc ?_ _)); refine blk_put (cs := #[.int .i64 t382, .int .i64 0]) ?_ 1 _ rfl; (with_reducible repeat (first | refine blk_drewN ?_ _ | refine blk_drew ?_ | refine blk_alloc ?_ _)); refine blk_put (cs := #[.int .i64 0, .int .i64 0]) ?_ 0 _ rfl; exact bk BK385) hb); replace HB := bs HB hb; (try clear hb); (try clear ho0); have hcz106_0 := bc0 BK385; have hcz106_1 := bc1 BK385; have hfz106_0 := blk_frozen BK385.out 0; have hfz106_1 := blk_frozen BK385.out 1) | ((with_reducible refine gate_callee (f := 42) rfl ?_); refine gl 256 Try.func42 #[.agg #[.int .i64 t382, .int .i64 t383], .int .i64 t384] ?_; (with_reducible refine (spec_MarksOf.calls kj53 t382 t383 t384 t390 t393 _ A93.out).mono ?_); rintro e w107 ⟨v391, rfl, ho0, hb⟩; refine ⟨_, rfl, ?_⟩; have HO392 := Aside0.mk (Kd.R_lower (Kd.R_new' ho0 (Kd.R_lt (rk HO388))) (below_size (bw HB))); replace HO388 := Aside0.mk (Kd.R_elder' (rk HO388) (Kd.R_base ho0) hb); replace BK351 := bb BK351 hb; replace BK385 := bb BK385 hb; replace HB := bs HB hb; (try clear hb); (try clear ho0)) | ((with_reducible refine gate_callee (f := 43) rfl ?_); refine gl 261 Try.func43 #[.slice A1 l1.length c1] ?_; (with_reducible refine (spec_DrawTimeOfLevel.calls _ _ l1 t394 t395 t396 _ ?side1 ?side2 A94.out).mono ?_); (case side1 => exact ck HR1 HB); (case side2 => exact HC1.out); rintro e w108 ⟨rfl, hb⟩; refine ⟨_, rfl, ?_⟩; replace HO388 := rb HO388 hb; replace HO392 := rb HO392 hb; replace BK351 := bb BK351 hb; replace BK385 := bb BK385 hb; replace HB := bs HB hb; (try clear hb)) | ((with_reducible refine gate_dst (N := 28) rfl ?_); (try (refine gate_guard (by rfl) ?_; dsimp only)); refine bx 28 #[.int .i64 0, .int .i64 0] 49 ?_; intro gb397 hg w109 hbox hb; replace HO388 := rb HO388 hb; replace HO392 := rb HO392 hb; have BK397 := Aside0.mk (hbox); have GW397 := ge HB hg; have GE397 := ge HB hg; replace HB := bs HB hb; have NB351_397 := nl BK351 hg; have NB397_351 := nr BK351 hg; replace BK351 := bb BK351 hb; have NB385_397 := nl BK385 hg; have NB397_385 := nr BK385 hg; replace BK385 := bb BK385 hb; clear hb hbox hg; have hnb110 := NB397_351.out; have hnc110 := NB351_397.out; have hnb111 := NB397_385.out; have hnc111 := NB385_397.out; have hcz112_0 := bc0 BK397; have hcz112_1 := bc1 BK397; have hfz112_0 := blk_frozen BK397.out 0; have hfz112_1 := blk_frozen BK397.out 1) | ((with_reducible refine gate_callee (f := 44) rfl ?_); refine gl 267 Try.func44 #[.agg #[.int .i64 t394, .int .i64 t395], .int .i64 t396] ?_; (with_reducible refine (impl_TimeOfLevel.calls kj53 t394 t395 t396 t398 t399 _ A95.out).mono ?_); rintro e w113 ⟨rfl, hb⟩; refine ⟨_, rfl, ?_⟩; replace HO388 := Aside0.mk (Kd.R_below (by (with_reducible repeat (first | apply Kd.R_alloc | apply Kd.R_drewN | apply Kd.R_drew)); exact (Kd.R_mono (Kd.R_far (p := ⟨gb397, 1, none⟩) (Kd.R_far (p := ⟨gb397, 0, none⟩) (Kd.R_types HO388.out BK397.out (by decide)) (fun _ hk => hk.2) (.int .i64 t394)) (fun _ hk => hk.2) (.int .i64 t395)) (fun _ h_ => h_.1))) hb); replace HO392 := Aside0.mk (Kd.R_below (by (with_reducible repeat (first | apply Kd.R_alloc | apply Kd.R_drewN | apply Kd.R_drew)); exact (Kd.R_mono (Kd.R_far (p := ⟨gb397, 1, none⟩) (Kd.R_far (p := ⟨gb397, 0, none⟩) (Kd.R_types HO392.out BK397.out (by decide)) (fun _ hk => hk.2) (.int .i64 t394)) (fun _ hk => hk.2) (.int .i64 t395)) (fun _ h_ => h_.1))) hb); replace BK351 := bb BK351 hb; replace BK385 := bb BK385 hb; replace BK397 := Aside0.mk (blk_below (g := gb397) (o := .cells #[.int .i64 t394, .int .i64 t395] 49 (0, 0)) (by (with_reducible repeat (first | refine blk_drewN ?_ _ | refine blk_drew ?_ | refine blk_alloc ?_ _)); refine blk_put (cs := #[.int .i64 t394, .int .i64 0]) ?_ 1 _ rfl; (with_reducible repeat (first | refine blk_drewN ?_ _ | refine blk_drew ?_ | refine blk_alloc ?_ _)); refine blk_put (cs := #[.int .i64 0, .int .i64 0]) ?_ 0 _ rfl; exact bk BK397) hb); replace HB := bs HB hb; (try clear hb); have hcz114_0 := bc0 BK397; have hcz114_1 := bc1 BK397; have hfz114_0 := blk_frozen BK397.out 0; have hfz114_1 := blk_frozen BK397.out 1) | ((with_reducible refine gate_callee (f := 45) rfl ?_); refine gl 273 Try.func45 #[.agg #[.int .i64 t394, .int .i64 t395], .int .i64 t396] ?_; (with_reducible refine (spec_TimeOfLevel.calls kj53 t394 t395 t396 t400 t401 _ A96.out).mono ?_); rintro e w115 ⟨rfl, hb⟩; refine ⟨_, rfl, ?_⟩; replace HO388 := rb HO388 hb; replace HO392 := rb HO392 hb; replace BK351 := bb BK351 hb; replace BK385 := bb BK385 hb; replace BK397 := bb BK397 hb; replace HB := bs HB hb; (try clear hb)) | ((with_reducible refine gate_callee (f := 46) rfl ?_); refine gl 278 Try.func46 #[.slice A1 l1.length c1] ?_; (with_reducible refine (spec_DrawClockAfter.calls _ _ l1 t402 t403 t404 _ ?side1 ?side2 A97.out).mono ?_); (case side1 => exact ck HR1 HB); (case side2 => exact HC1.out); rintro e w116 ⟨rfl, hb⟩; refine ⟨_, rfl, ?_⟩; replace HO388 := rb HO388 hb; replace HO392 := rb HO392 hb; replace BK351 := bb BK351 hb; replace BK385 := bb BK385 hb; replace BK397 := bb BK397 hb; replace HB := bs HB hb; (try clear hb)) | ((with_reducible refine gate_dst (N := 34) rfl ?_); (try (refine gate_guard (by rfl) ?_; dsimp only)); refine bx 34 #[.int .i64 0, .int .i64 0] 49 ?_; intro gb405 hg w117 hbox hb; replace HO388 := rb HO388 hb; replace HO392 := rb HO392 hb; have BK405 := Aside0.mk (hbox); have GW405 := ge HB hg; have GE405 := ge HB hg; replace HB := bs HB hb; have NB351_405 := nl BK351 hg; have NB405_351 := nr BK351 hg; replace BK351 := bb BK351 hb; have NB385_405 := nl BK385 hg; have NB405_385 := nr BK385 hg; replace BK385 := bb BK385 hb; have NB397_405 := nl BK397 hg; have NB405_397 := nr BK397 hg; replace BK397 := bb BK397 hb; clear hb hbox hg; have hnb118 := NB405_351.out; have hnc118 := NB351_405.out; have hnb119 := NB405_385.out; have hnc119 := NB385_405.out; have hnb120 := NB405_397.out; have hnc120 := NB397_405.out; have hcz121_0 := bc0 BK405; have hcz121_1 := bc1 BK405; have hfz121_0 := blk_frozen BK405.out 0; have hfz121_1 := blk_frozen BK405.out 1) | ((with_reducible refine gate_callee (f := 39) rfl ?_); refine gl 284 Try.func39 #[.agg #[.int .i64 t402, .int .i64 t403], .int .i64 t404] ?_; (with_reducible refine (impl_ClockAfter.calls kj53 t402 t403 t404 t406 t407 t408 _ A98.out).mono ?_); rintro e w122 ⟨rfl, hb⟩; refine ⟨_, rfl, ?_⟩; replace HO388 := Aside0.mk (Kd.R_below (by (with_reducible repeat (first | apply Kd.R_alloc | apply Kd.R_drewN | apply Kd.R_drew)); exact (Kd.R_mono (Kd.R_far (p := ⟨gb405, 1, none⟩) (Kd.R_far (p := ⟨gb405, 0, none⟩) (Kd.R_types HO388.out BK405.out (by decide)) (fun _ hk => hk.2) (.int .i64 t402)) (fun _ hk => hk.2) (.int .i64 t403)) (fun _ h_ => h_.1))) hb); replace HO392 := Aside0.mk (Kd.R_below (by (with_reducible repeat (first | apply Kd.R_alloc | apply Kd.R_drewN | apply Kd.R_drew)); exact (Kd.R_mono (Kd.R_far (p := ⟨gb405, 1, none⟩) (Kd.R_far (p := ⟨gb405, 0, none⟩) (Kd.R_types HO392.out BK405.out (by decide)) (fun _ hk => hk.2) (.int .i64 t402)) (fun _ hk => hk.2) (.int .i64 t403)) (fun _ h_ => h_.1))) hb); replace BK351 := bb BK351 hb; replace BK385 := bb BK385 hb; replace BK397 := bb BK397 hb; replace BK405 := Aside0.mk (blk_below (g := gb405) (o := .cells #[.int .i64 t402, .int .i64 t403] 49 (0, 0)) (by (with_reducible repeat (first | refine blk_drewN ?_ _ | refine blk_drew ?_ | refine blk_alloc ?_ _)); refine blk_put (cs := #[.int .i64 t402, .int .i64 0]) ?_ 1 _ rfl; (with_reducible repeat (first | refine blk_drewN ?_ _ | refine blk_drew ?_ | refine blk_alloc ?_ _)); refine blk_put (cs := #[.int .i64 0, .int .i64 0]) ?_ 0 _ rfl; exact bk BK405) hb); replace HB := bs HB hb; (try clear hb)) | ((with_reducible refine gate_dst (N := 36) rfl ?_); (try (refine gate_guard (by rfl) ?_; dsimp only)); refine bx 36 #[.int .i64 0, .int .i64 0] 49 ?_; intro gb409 hg w123 hbox hb; replace HO388 := rb HO388 hb; replace HO392 := rb HO392 hb; have BK409 := Aside0.mk (hbox); have GW409 := ge HB hg; have GE409 := ge HB hg; replace HB := bs HB hb; have NB351_409 := nl BK351 hg; have NB409_351 := nr BK351 hg; replace BK351 := bb BK351 hb; have NB385_409 := nl BK385 hg; have NB409_385 := nr BK385 hg; replace BK385 := bb BK385 hb; have NB397_409 := nl BK397 hg; have NB409_397 := nr BK397 hg; replace BK397 := bb BK397 hb; have NB405_409 := nl BK405 hg; have NB409_405 := nr BK405 hg; replace BK405 := bb BK405 hb; clear hb hbox hg; have hnb124 := NB409_351.out; have hnc124 := NB351_409.out; have hnb125 := NB409_385.out; have hnc125 := NB385_409.out; have hnb126 := NB409_397.out; have hnc126 := NB397_409.out; have hnb127 := NB409_405.out; have hnc127 := NB405_409.out; have hcz128_0 := bc0 BK409; have hcz128_1 := bc1 BK409; have hfz128_0 := blk_frozen BK409.out 0; have hfz128_1 := blk_frozen BK409.out 1; have hcz129_0 := bc0 BK405; have hcz129_1 := bc1 BK405; have hfz129_0 := blk_frozen BK405.out 0; have hfz129_1 := blk_frozen BK405.out 1) | ((with_reducible refine gate_callee (f := 47) rfl ?_); refine gl 290 Try.func47 #[.agg #[.int .i64 t402, .int .i64 t403], .int .i64 t404] ?_; (with_reducible refine (spec_ClockAfter.calls kj53 t402 t403 t404 t410 t411 t412 _ A99.out).mono ?_); rintro e w130 ⟨rfl, hb⟩; refine ⟨_, rfl, ?_⟩; replace HO388 := Aside0.mk (Kd.R_below (by (with_reducible repeat (first | apply Kd.R_alloc | apply Kd.R_drewN | apply Kd.R_drew)); exact (Kd.R_mono (Kd.R_far (p := ⟨gb409, 1, none⟩) (Kd.R_far (p := ⟨gb409, 0, none⟩) (Kd.R_types HO388.out BK409.out (by decide)) (fun _ hk => hk.2) (.int .i64 t406)) (fun _ hk => hk.2) (.int .i64 t407)) (fun _ h_ => h_.1))) hb); replace HO392 := Aside0.mk (Kd.R_below (by (with_reducible repeat (first | apply Kd.R_alloc | apply Kd.R_drewN | apply Kd.R_drew)); exact (Kd.R_mono (Kd.R_far (p := ⟨gb409, 1, none⟩) (Kd.R_far (p := ⟨gb409, 0, none⟩) (Kd.R_types HO392.out BK409.out (by decide)) (fun _ hk => hk.2) (.int .i64 t406)) (fun _ hk => hk.2) (.int .i64 t407)) (fun _ h_ => h_.1))) hb); replace BK351 := bb BK351 hb; replace BK385 := bb BK385 hb; replace BK397 := bb BK397 hb; replace BK405 := bb BK405 hb; replace BK409 := Aside0.mk (blk_below (g := gb409) (o := .cells #[.int .i64 t406, .int .i64 t407] 49 (0, 0)) (by (with_reducible repeat (first | refine blk_drewN ?_ _ | refine blk_drew ?_ | refine blk_alloc ?_ _)); refine blk_put (cs := #[.int .i64 t406, .int .i64 0]) ?_ 1 _ rfl; (with_reducible repeat (first | refine blk_drewN ?_ _ | refine blk_drew ?_ | refine blk_alloc ?_ _)); refine blk_put (cs := #[.int .i64 0, .int .i64 0]) ?_ 0 _ rfl; exact bk BK409) hb); replace HB := bs HB hb; (try clear hb)) | ((with_reducible refine gate_dst (N := 38) rfl ?_); (try (refine gate_guard (by rfl) ?_; dsimp only)); refine bx 38 #[.int .i64 0, .int .i64 0] 49 ?_; intro gb413 hg w131 hbox hb; replace HO388 := rb HO388 hb; replace HO392 := rb HO392 hb; have BK413 := Aside0.mk (hbox); have GW413 := ge HB hg; have GE413 := ge HB hg; replace HB := bs HB hb; have NB351_413 := nl BK351 hg; have NB413_351 := nr BK351 hg; replace BK351 := bb BK351 hb; have NB385_413 := nl BK385 hg; have NB413_385 := nr BK385 hg; replace BK385 := bb BK385 hb; have NB397_413 := nl BK397 hg; have NB413_397 := nr BK397 hg; replace BK397 := bb BK397 hb; have NB405_413 := nl BK405 hg; have NB413_405 := nr BK405 hg; replace BK405 := bb BK405 hb; have NB409_413 := nl BK409 hg; have NB413_409 := nr BK409 hg; replace BK409 := bb BK409 hb; clear hb hbox hg; have hnb132 := NB413_351.out; have hnc132 := NB351_413.out; have hnb133 := NB413_385.out; have hnc133 := NB385_413.out; have hnb134 := NB413_397.out; have hnc134 := NB397_413.out; have hnb135 := NB413_405.out; have hnc135 := NB405_413.out; have hnb136 := NB413_409.out; have hnc136 := NB409_413.out; have hcz137_0 := bc0 BK413; have hcz137_1 := bc1 BK413; have hfz137_0 := blk_frozen BK413.out 0; have hfz137_1 := blk_frozen BK413.out 1))
   (try simp only [sqa, sqb, sqc, sqd])
   refine cutF (rl [70, 110, 3, 161, 3, 210] false) (fun u_ wc => ∃ (kq : Nat) (x321_99 : Bool), (u_ 321) = .bool x321_99 ∧ Aside0 (j5 kq l1 t384 t386 t389 t396 t398 t399 x321_99 t382 t383 t394 t395 = some r) ∧ Aside0 (kq ≤ kj53) ∧ Aside0 (Kd.R (Kd.int .i64) 3 wc w.heap.size (fun _ => True) v387 t386) ∧ Aside0 (wc.heap[gb351]? = some (.cells #[.int .i64 t349, .int .i64 t350] 49 (0, 0))) ∧ Aside0 (wc.heap[gb385]? = some (.cells #[.int .i64 t382, .int .i64 t383] 49 (0, 0))) ∧ Aside0 (wc.heap[gb397]? = some (.cells #[.int .i64 t394, .int .i64 t395] 49 (0, 0))) ∧ Aside0 (wc.heap[gb405]? = some (.cells #[.int .i64 t402, .int .i64 t403] 49 (0, 0))) ∧ Aside0 (wc.heap[gb409]? = some (.cells #[.int .i64 t406, .int .i64 t407] 49 (0, 0))) ∧ Aside0 (wc.heap[gb413]? = some (.cells #[.int .i64 t410, .int .i64 t411] 49 (0, 0))) ∧ Aside0 (Below w.heap.size w wc)) ?first14 ?rest14
   case first14 =>
    as_aux_lemma =>
    intro J_ K_ hJ_ hK_
    have H := HC100.out
    clear HC100
    by_cases c138 : (t389 != t393) = true
    ·rw [if_pos c138] at H
     have c138b0 : (t389 != t393) = true := c138
     (try (have c138b1 : decide (t389 = t393) = false := by simpa using c138))
     (try (have c138b2 : (t389 == t393) = false := by simpa using c138))
     (try (have c138b3 : ¬ (t389 = t393) := by simpa using c138))
     clear c138
     (first | rw [c138b0] | (simp only [i64_w, i32_w]; rw [c138b0]) | skip)
     exact absurd H (by rw [hrt.out]; cases kj53 <;> simp [j5])
    rw [if_neg c138] at H
    have c138b0 : (t389 != t393) = false := by simpa using c138
    (try (have c138b1 : decide (t389 = t393) = true := by simpa using c138))
    (try (have c138b2 : (t389 == t393) = true := by simpa using c138))
    clear c138
    (first | rw [c138b0] | (simp only [i64_w, i32_w]; rw [c138b0]) | skip)
    replace H := Option.bind_eq_some_iff.mp H
    obtain ⟨t414, A1390, H⟩ := H
    replace H : (if t414 = true then (if (t399 != t401) = true then (j5 kj53 l1 t384 t386 t389 t396 t398 t399 true t382 t383 t394 t395) else (if t398 = t400 then (if (t408 != t412) = true then (j5 kj53 l1 t384 t386 t389 t396 t398 t399 true t382 t383 t394 t395) else (j5 kj53 l1 t384 t386 t389 t396 t398 t399 (!(t406 == t410) || (!(t407 == t411))) t382 t383 t394 t395)) else (j5 kj53 l1 t384 t386 t389 t396 t398 t399 true t382 t383 t394 t395))) else (j5 kj53 l1 t384 t386 t389 t396 t398 t399 true t382 t383 t394 t395)) = some r := H
    have A139 := Aside0.mk A1390
    clear A1390
    by_cases c140 : t414 = true
    rotate_left
    ·replace c140 := Bool.eq_false_iff.mpr c140
     subst c140
     have H1 : (j5 kj53 l1 t384 t386 t389 t396 t398 t399 true t382 t383 t394 t395) = some r := by rw [if_neg (show ¬ (false = true) by decide)] at H; exact H
     clear H
     have H := H1
     clear H1
     exact absurd H (by rw [hrt.out]; cases kj53 <;> simp [j5])
    subst c140
    have H1 : (if (t399 != t401) = true then (j5 kj53 l1 t384 t386 t389 t396 t398 t399 true t382 t383 t394 t395) else (if t398 = t400 then (if (t408 != t412) = true then (j5 kj53 l1 t384 t386 t389 t396 t398 t399 true t382 t383 t394 t395) else (j5 kj53 l1 t384 t386 t389 t396 t398 t399 (!(t406 == t410) || (!(t407 == t411))) t382 t383 t394 t395)) else (j5 kj53 l1 t384 t386 t389 t396 t398 t399 true t382 t383 t394 t395))) = some r := by rw [if_pos rfl] at H; exact H
    clear H
    have H := H1
    clear H1
    by_cases c141 : (t399 != t401) = true
    ·rw [if_pos c141] at H
     have c141b0 : (t399 != t401) = true := c141
     (try (have c141b1 : decide (t399 = t401) = false := by simpa using c141))
     (try (have c141b2 : (t399 == t401) = false := by simpa using c141))
     (try (have c141b3 : ¬ (t399 = t401) := by simpa using c141))
     clear c141
     exact absurd H (by rw [hrt.out]; cases kj53 <;> simp [j5])
    rw [if_neg c141] at H
    have c141b0 : (t399 != t401) = false := by simpa using c141
    (try (have c141b1 : decide (t399 = t401) = true := by simpa using c141))
    (try (have c141b2 : (t399 == t401) = true := by simpa using c141))
    clear c141
    by_cases c142 : t398 = t400
    rotate_left
    ·rw [if_neg c142] at H
     have c142b0 : (t398 == t400) = false := beq_eq_false_iff_ne.mpr c142
     have c142b1 : (t398 != t400) = true := bne_iff_ne.mpr c142
     exact absurd H (by rw [hrt.out]; cases kj53 <;> simp [j5])
    rw [if_pos c142] at H
    have c142b0 : (t398 == t400) = true := beq_iff_eq.mpr c142
    have c142b1 : (t398 != t400) = false := bne_eq_false_iff_eq.mpr c142
    clear c142
    by_cases c143 : (t408 != t412) = true
    ·rw [if_pos c143] at H
     have c143b0 : (t408 != t412) = true := c143
     (try (have c143b1 : decide (t408 = t412) = false := by simpa using c143))
     (try (have c143b2 : (t408 == t412) = false := by simpa using c143))
     (try (have c143b3 : ¬ (t408 = t412) := by simpa using c143))
     clear c143
     exact absurd H (by rw [hrt.out]; cases kj53 <;> simp [j5])
    rw [if_neg c143] at H
    have c143b0 : (t408 != t412) = false := by simpa using c143
    (try (have c143b1 : decide (t408 = t412) = true := by simpa using c143))
    (try (have c143b2 : (t408 == t412) = true := by simpa using c143))
    clear c143
    have H' := Aside0.mk H
    clear H
    obtain ⟨Ao144, co144, eo144⟩ := Kd.R_slice HO388.out
    subst eo144
    obtain ⟨Ao145, co145, eo145⟩ := Kd.R_slice HO392.out
    subst eo145
    go_wp2_with (first | (go_at_call 29; (with_reducible refine (laws_eSame.calls kj53 _ _ t386 _ _ t390 true _ ?side1 ?side2 ?side3 ?side4 A139.out).mono ?_); (case side1 => refine (Kd.R_reads' (e := 3) (base := w.heap.size) (ok := fun k_ => (True ∧ some k_ ≠ (.slice Ao145 t390.length co145 : Value).ownBlock)) (n := t386.length) (c := co144) ?_).2.2; exact (by (with_reducible repeat (first | apply Kd.R_alloc | apply Kd.R_drewN | apply Kd.R_drew)); exact (Kd.R_mono (Kd.R_far (p := ⟨gb413, 1, none⟩) (Kd.R_far (p := ⟨gb413, 0, none⟩) (Kd.R_types HO388.out BK413.out (by decide)) (fun _ hk => hk.2) (.int .i64 t410)) (fun _ hk => hk.2) (.int .i64 t411)) (fun _ h_ => h_.1)))); (case side2 => exact (Kd.R_reads' HO388.out).2.1); (case side3 => refine (Kd.R_reads' (e := 3) (base := w.heap.size) (ok := fun k_ => (True ∧ some k_ ≠ (.slice Ao144 t386.length co144 : Value).ownBlock)) (n := t390.length) (c := co145) ?_).2.2; exact (by (with_reducible repeat (first | apply Kd.R_alloc | apply Kd.R_drewN | apply Kd.R_drew)); exact (Kd.R_mono (Kd.R_far (p := ⟨gb413, 1, none⟩) (Kd.R_far (p := ⟨gb413, 0, none⟩) (Kd.R_types HO392.out BK413.out (by decide)) (fun _ hk => hk.2) (.int .i64 t410)) (fun _ hk => hk.2) (.int .i64 t411)) (fun _ h_ => h_.1)))); (case side4 => exact (Kd.R_reads' HO392.out).2.1); rintro e w' ⟨rfl, ⟨nd, rfl⟩⟩; have hnb146 := NB409_351.out; have hnc146 := NB351_409.out; have hnb147 := NB409_385.out; have hnc147 := NB385_409.out; have hnb148 := NB409_397.out; have hnc148 := NB397_409.out; have hnb149 := NB409_405.out; have hnc149 := NB405_409.out; have hnb150 := NB409_413.out; have hnc150 := NB413_409.out; have hcz151_0 := bc0 BK409; have hcz151_1 := bc1 BK409; have hfz151_0 := blk_frozen BK409.out 0; have hfz151_1 := blk_frozen BK409.out 1; have hnb152 := NB413_351.out; have hnc152 := NB351_413.out; have hnb153 := NB413_385.out; have hnc153 := NB385_413.out; have hnb154 := NB413_397.out; have hnc154 := NB397_413.out; have hnb155 := NB413_405.out; have hnc155 := NB405_413.out; have hcz156_0 := bc0 BK413; have hcz156_1 := bc1 BK413; have hfz156_0 := blk_frozen BK413.out 0; have hfz156_1 := blk_frozen BK413.out 1))
    (refine Met.intro ?_; go_step; refine Cut_mk (by kernel_rfl) ?rel15)
    case rel15 => exact ⟨_, ((!(t406 == t410) || (!(t407 == t411)))), (by first | rfl | (simp; done) | (simp [*]; done)), H', ⟨by first | exact Nat.le_refl _ | exact Nat.le_of_succ_le HJ53.out | exact Nat.le_of_succ_le (Nat.le_trans HJ53.out (Nat.le_of_succ_le HJ11.out)) | exact Nat.le_of_succ_le HJ11.out | (have := HJ11.out; have := HJ53.out; omega)⟩, ⟨by (with_reducible repeat (first | apply Kd.R_alloc | apply Kd.R_drewN | apply Kd.R_drew)); exact Kd.R_mono (Kd.R_far (p := ⟨gb413, 1, none⟩) (Kd.R_far (p := ⟨gb413, 0, none⟩) (Kd.R_types HO388.out BK413.out (by decide)) (fun _ hk => hk.2) (.int .i64 t410)) (fun _ hk => hk.2) (.int .i64 t411)) (fun _ hk => trivial)⟩, ⟨bk BK351⟩, ⟨bk BK385⟩, ⟨bk BK397⟩, ⟨bk BK405⟩, ⟨bk BK409⟩, ⟨by (with_reducible repeat (first | refine blk_drewN ?_ _ | refine blk_drew ?_ | refine blk_alloc ?_ _)); refine blk_put (cs := #[.int .i64 t410, .int .i64 0]) ?_ 1 _ rfl; (with_reducible repeat (first | refine blk_drewN ?_ _ | refine blk_drew ?_ | refine blk_alloc ?_ _)); refine blk_put (cs := #[.int .i64 0, .int .i64 0]) ?_ 0 _ rfl; exact bk BK413⟩, ⟨bw HB⟩⟩
   case rest14 =>
   as_aux_lemma =>
   intro u_ wc hcut l_ hl_; (simp only [rl, List.reduceReplicate, List.cons_append, List.nil_append, List.append_nil, Bool.not_true, Bool.not_false, fu, Nat.reduceAdd] at hl_); subst hl_; generalize u_ 321 = v321 at hcut ⊢
   clear HC100
   (try clear c1); (try clear c4); (try clear hcz104_0); (try clear hcz104_1); (try clear hcz106_0); (try clear hcz106_1); (try clear hcz112_0); (try clear hcz112_1); (try clear hcz114_0); (try clear hcz114_1); (try clear hcz121_0); (try clear hcz121_1); (try clear hcz128_0); (try clear hcz128_1); (try clear hcz129_0); (try clear hcz129_1); (try clear hcz137_0); (try clear hcz137_1); (try clear hfz104_0); (try clear hfz104_1); (try clear hfz106_0); (try clear hfz106_1); (try clear hfz112_0); (try clear hfz112_1); (try clear hfz114_0); (try clear hfz114_1); (try clear hfz121_0); (try clear hfz121_1); (try clear hfz128_0); (try clear hfz128_1); (try clear hfz129_0); (try clear hfz129_1); (try clear hfz137_0); (try clear hfz137_1)
   obtain ⟨kq, x321_99, rfl, HA, HJ99, HO_24, BK351, BK385, BK397, BK405, BK409, BK413, HB⟩ := hcut
   cases kq with
   | zero => exact absurd HA.out (by simp [j5])
   | succ kj99 =>
    have H := HA.out
    clear HA
    simp only [j5] at H
    by_cases c157 : x321_99 = true
    ·subst c157
     have H1 : (some false) = some r := by rw [if_pos rfl] at H; exact H
     clear H
     have H := H1
     clear H1
     exact absurd ((Option.some.inj H).trans hrt.out) (by decide)
    replace c157 := Bool.eq_false_iff.mpr c157
    subst c157
    have H1 : (if t389 = true then ((impl_TimeToEmpty.f kj99 t382 t383).bind fun bt415 => (if bt415.2 = true then (if (t386.length : Int) = t384 then (if 0 ≤ (wrap64 (t384 - 1)) then (if (wrap64 (t384 - 1)) < (t386.length : Int) then (j6 kj99 l1 t384 t386 t396 t398 t399 bt415.1 ((rd t386 (wrap64 (t384 - 1))) != 0) t382 t383 t394 t395) else (none)) else (none)) else (j6 kj99 l1 t384 t386 t396 t398 t399 bt415.1 true t382 t383 t394 t395)) else (j6 kj99 l1 t384 t386 t396 t398 t399 bt415.1 true t382 t383 t394 t395))) else (j8 kj99 l1 t396 t398 t399 t394 t395)) = some r := by rw [if_neg (show ¬ (false = true) by decide)] at H; exact H
    clear H
    have H := H1
    clear H1
    have HC158 := Aside0.mk H
    clear H
    go_upto_if 322 with (fail)
    refine cutF (rl [4, 1, 35, 6, 24, 110, 3, 374] false) (fun u_ wc => ∃ (kq : Nat), Aside0 (j8 kq l1 t396 t398 t399 t394 t395 = some r) ∧ Aside0 (kq ≤ kj99) ∧ Aside0 (wc.heap[gb351]? = some (.cells #[.int .i64 t349, .int .i64 t350] 49 (0, 0))) ∧ Aside0 (wc.heap[gb385]? = some (.cells #[.int .i64 t382, .int .i64 t383] 49 (0, 0))) ∧ Aside0 (wc.heap[gb397]? = some (.cells #[.int .i64 t394, .int .i64 t395] 49 (0, 0))) ∧ Aside0 (wc.heap[gb405]? = some (.cells #[.int .i64 t402, .int .i64 t403] 49 (0, 0))) ∧ Aside0 (wc.heap[gb409]? = some (.cells #[.int .i64 t406, .int .i64 t407] 49 (0, 0))) ∧ Aside0 (wc.heap[gb413]? = some (.cells #[.int .i64 t410, .int .i64 t411] 49 (0, 0))) ∧ Aside0 (Below w.heap.size w wc)) ?first16 ?rest16
    case first16 =>
     as_aux_lemma =>
     intro J_ K_ hJ_ hK_
     have H := HC158.out
     clear HC158
     by_cases c159 : t389 = true
     rotate_left
     ·replace c159 := Bool.eq_false_iff.mpr c159
      subst c159
      have H1 : (j8 kj99 l1 t396 t398 t399 t394 t395) = some r := by rw [if_neg (show ¬ (false = true) by decide)] at H; exact H
      clear H
      have H := H1
      clear H1
      have H' := Aside0.mk H
      clear H
      go_wp2
      (refine Met.intro ?_; go_step; refine Cut_mk (by kernel_rfl) ?rel17)
      case rel17 => exact ⟨_, H', ⟨by first | exact Nat.le_refl _ | exact Nat.le_of_succ_le HJ99.out | exact Nat.le_of_succ_le (Nat.le_trans HJ99.out (Nat.le_of_succ_le HJ53.out)) | exact Nat.le_of_succ_le (Nat.le_trans (Nat.le_trans HJ99.out (Nat.le_of_succ_le HJ53.out)) (Nat.le_of_succ_le HJ11.out)) | exact Nat.le_of_succ_le HJ53.out | exact Nat.le_of_succ_le (Nat.le_trans HJ53.out (Nat.le_of_succ_le HJ11.out)) | exact Nat.le_of_succ_le HJ11.out | (have := HJ11.out; have := HJ53.out; have := HJ99.out; omega)⟩, ⟨bk BK351⟩, ⟨bk BK385⟩, ⟨bk BK397⟩, ⟨bk BK405⟩, ⟨bk BK409⟩, ⟨bk BK413⟩, ⟨bw HB⟩⟩
     subst c159
     have H1 : ((impl_TimeToEmpty.f kj99 t382 t383).bind fun bt415 => (if bt415.2 = true then (if (t386.length : Int) = t384 then (if 0 ≤ (wrap64 (t384 - 1)) then (if (wrap64 (t384 - 1)) < (t386.length : Int) then (j6 kj99 l1 t384 t386 t396 t398 t399 bt415.1 ((rd t386 (wrap64 (t384 - 1))) != 0) t382 t383 t394 t395) else (none)) else (none)) else (j6 kj99 l1 t384 t386 t396 t398 t399 bt415.1 true t382 t383 t394 t395)) else (j6 kj99 l1 t384 t386 t396 t398 t399 bt415.1 true t382 t383 t394 t395))) = some r := by rw [if_pos rfl] at H; exact H
     clear H
     have H := H1
     clear H1
     replace H := Option.bind_eq_some_iff.mp H
     obtain ⟨⟨t415, t416⟩, A1600, H⟩ := H
     replace H : (if t416 = true then (if (t386.length : Int) = t384 then (if 0 ≤ (wrap64 (t384 - 1)) then (if (wrap64 (t384 - 1)) < (t386.length : Int) then (j6 kj99 l1 t384 t386 t396 t398 t399 t415 ((rd t386 (wrap64 (t384 - 1))) != 0) t382 t383 t394 t395) else (none)) else (none)) else (j6 kj99 l1 t384 t386 t396 t398 t399 t415 true t382 t383 t394 t395)) else (j6 kj99 l1 t384 t386 t396 t398 t399 t415 true t382 t383 t394 t395)) = some r := H
     have A160 := Aside0.mk A1600
     clear A1600
     have HC161 := Aside0.mk H
     clear H
     have hnb162 := NB385_351.out
     have hnc162 := NB351_385.out
     have hnb163 := NB385_397.out
     have hnc163 := NB397_385.out
     have hnb164 := NB385_405.out
     have hnc164 := NB405_385.out
     have hnb165 := NB385_409.out
     have hnc165 := NB409_385.out
     have hnb166 := NB385_413.out
     have hnc166 := NB413_385.out
     have hcz167_0 := bc0 BK385
     have hcz167_1 := bc1 BK385
     have hfz167_0 := blk_frozen BK385.out 0
     have hfz167_1 := blk_frozen BK385.out 1
     go_upto_region 37 with (first | ((with_reducible refine gate_callee (f := 33) rfl ?_); refine gl 325 Try.func33 #[.agg #[.int .i64 t382, .int .i64 t383]] ?_; (with_reducible refine (impl_TimeToEmpty.calls kj99 t382 t383 t415 t416 _ A160.out).mono ?_); rintro e w168 ⟨rfl, hb⟩; refine ⟨_, rfl, ?_⟩; replace HO_24 := rb HO_24 hb; replace BK351 := bb BK351 hb; replace BK385 := bb BK385 hb; replace BK397 := bb BK397 hb; replace BK405 := bb BK405 hb; replace BK409 := bb BK409 hb; replace BK413 := bb BK413 hb; replace HB := bs HB hb; (try clear hb)))
     (try simp only [sqa, sqb, sqc, sqd])
     refine cutF (rl [70, 110, 3, 161, 3, 210] false) (fun u_ wc => ∃ (kq : Nat) (x343_160 : Bool), (u_ 343) = .bool x343_160 ∧ Aside0 (j6 kq l1 t384 t386 t396 t398 t399 t415 x343_160 t382 t383 t394 t395 = some r) ∧ Aside0 (kq ≤ kj99) ∧ Aside0 (Kd.R (Kd.int .i64) 3 wc w.heap.size (fun _ => True) v387 t386) ∧ Aside0 (wc.heap[gb351]? = some (.cells #[.int .i64 t349, .int .i64 t350] 49 (0, 0))) ∧ Aside0 (wc.heap[gb385]? = some (.cells #[.int .i64 t382, .int .i64 t383] 49 (0, 0))) ∧ Aside0 (wc.heap[gb397]? = some (.cells #[.int .i64 t394, .int .i64 t395] 49 (0, 0))) ∧ Aside0 (wc.heap[gb405]? = some (.cells #[.int .i64 t402, .int .i64 t403] 49 (0, 0))) ∧ Aside0 (wc.heap[gb409]? = some (.cells #[.int .i64 t406, .int .i64 t407] 49 (0, 0))) ∧ Aside0 (wc.heap[gb413]? = some (.cells #[.int .i64 t410, .int .i64 t411] 49 (0, 0))) ∧ Aside0 (Below w.heap.size w wc)) ?first18 ?rest18
     case first18 =>
      as_aux_lemma =>
      intro J_ K_ hJ_ hK_
      have H := HC161.out
      clear HC161
      by_cases c169 : t416 = true
      rotate_left
      ·replace c169 := Bool.eq_false_iff.mpr c169
       subst c169
       have H1 : (j6 kj99 l1 t384 t386 t396 t398 t399 t415 true t382 t383 t394 t395) = some r := by rw [if_neg (show ¬ (false = true) by decide)] at H; exact H
       clear H
       have H := H1
       clear H1
       exact absurd H (by rw [hrt.out]; cases kj99 <;> simp [j6])
      subst c169
      have H1 : (if (t386.length : Int) = t384 then (if 0 ≤ (wrap64 (t384 - 1)) then (if (wrap64 (t384 - 1)) < (t386.length : Int) then (j6 kj99 l1 t384 t386 t396 t398 t399 t415 ((rd t386 (wrap64 (t384 - 1))) != 0) t382 t383 t394 t395) else (none)) else (none)) else (j6 kj99 l1 t384 t386 t396 t398 t399 t415 true t382 t383 t394 t395)) = some r := by rw [if_pos rfl] at H; exact H
      clear H
      have H := H1
      clear H1
      by_cases c170 : (t386.length : Int) = t384
      rotate_left
      ·rw [if_neg c170] at H
       have c170b0 : ((t386.length : Int) == t384) = false := beq_eq_false_iff_ne.mpr c170
       have c170b1 : ((t386.length : Int) != t384) = true := bne_iff_ne.mpr c170
       (first | rw [c170b0] | (simp only [i64_w, i32_w]; rw [c170b0]) | skip)
       exact absurd H (by rw [hrt.out]; cases kj99 <;> simp [j6])
      rw [if_pos c170] at H
      have c170b0 : ((t386.length : Int) == t384) = true := beq_iff_eq.mpr c170
      have c170b1 : ((t386.length : Int) != t384) = false := bne_eq_false_iff_eq.mpr c170
      clear c170
      (first | rw [c170b0] | (simp only [i64_w, i32_w]; rw [c170b0]) | skip)
      obtain ⟨ji171, hji171⟩ : ∃ j_ : Int, (wrap64 (t384 - 1)) = j_ := ⟨_, rfl⟩
      replace H : (if 0 ≤ (ji171) then (if (ji171) < (t386.length : Int) then (j6 kj99 l1 t384 t386 t396 t398 t399 t415 ((rd t386 (ji171)) != 0) t382 t383 t394 t395) else (none)) else (none)) = some r := by first | (rw [hji171] at H; exact H) | (simp only [hji171] at H ⊢; exact H)
      have hji171w : (IntKind.i64.wrap (t384 - 1)) = ji171 := (i64_w _).trans hji171
      by_cases c172 : 0 ≤ (ji171)
      rotate_left
      ·rw [if_neg c172] at H
       exact absurd H (by simp)
      rw [if_pos c172] at H
      have c172b0 : decide (0 ≤ (ji171)) = true := decide_eq_true c172
      clear c172
      by_cases c173 : (ji171) < (t386.length : Int)
      rotate_left
      ·rw [if_neg c173] at H
       exact absurd H (by simp)
      rw [if_pos c173] at H
      have c173b0 : decide ((ji171) < (t386.length : Int)) = true := decide_eq_true c173
      clear c173
      have H' := Aside0.mk H
      clear H
      obtain ⟨Ao174, co174, eo174⟩ := Kd.R_slice HO_24.out
      subst eo174
      have p417 : 0 ≤ ((ji171) : Int) := of_decide_eq_true ‹_›
      have q417 : (ji171) < (t386.length : Int) := of_decide_eq_true ‹_›
      obtain ⟨ad417, e417, hx417_0⟩ := Kd.at_int (Kd.R_reads' HO_24.out).2.2 (ji171) p417 q417
      cases e417
      replace p417 := eq_true p417
      replace q417 := eq_true q417
      go_wp2
      (refine Met.intro ?_; go_step; refine Cut_mk (by kernel_rfl) ?rel19)
      case rel19 => exact ⟨_, (((rd t386 (ji171)) != 0)), (by first | rfl | (simp; done) | (simp only [← hji171] <;> (first | rfl | simp)) | (simp [*]; done)), H', ⟨by first | exact Nat.le_refl _ | exact Nat.le_of_succ_le HJ99.out | exact Nat.le_of_succ_le (Nat.le_trans HJ99.out (Nat.le_of_succ_le HJ53.out)) | exact Nat.le_of_succ_le (Nat.le_trans (Nat.le_trans HJ99.out (Nat.le_of_succ_le HJ53.out)) (Nat.le_of_succ_le HJ11.out)) | exact Nat.le_of_succ_le HJ53.out | exact Nat.le_of_succ_le (Nat.le_trans HJ53.out (Nat.le_of_succ_le HJ11.out)) | exact Nat.le_of_succ_le HJ11.out | (have := HJ11.out; have := HJ53.out; have := HJ99.out; omega)⟩, ⟨rk HO_24⟩, ⟨bk BK351⟩, ⟨bk BK385⟩, ⟨bk BK397⟩, ⟨bk BK405⟩, ⟨bk BK409⟩, ⟨bk BK413⟩, ⟨bw HB⟩⟩
     case rest18 =>
     as_aux_lemma =>
     intro u_ wc hcut l_ hl_; (simp only [rl, List.reduceReplicate, List.cons_append, List.nil_append, List.append_nil, Bool.not_true, Bool.not_false, fu, Nat.reduceAdd] at hl_); subst hl_; generalize u_ 343 = v343 at hcut ⊢
     clear HC161
     (try clear c1); (try clear c4); (try clear c157); (try clear c159); (try clear hcz104_0); (try clear hcz104_1); (try clear hcz106_0); (try clear hcz106_1); (try clear hcz112_0); (try clear hcz112_1); (try clear hcz114_0); (try clear hcz114_1); (try clear hcz121_0); (try clear hcz121_1); (try clear hcz128_0); (try clear hcz128_1); (try clear hcz129_0); (try clear hcz129_1); (try clear hcz137_0); (try clear hcz137_1); (try clear hcz167_0); (try clear hcz167_1); (try clear hfz104_0); (try clear hfz104_1); (try clear hfz106_0); (try clear hfz106_1); (try clear hfz112_0); (try clear hfz112_1); (try clear hfz114_0); (try clear hfz114_1); (try clear hfz121_0); (try clear hfz121_1); (try clear hfz128_0); (try clear hfz128_1); (try clear hfz129_0); (try clear hfz129_1); (try clear hfz137_0); (try clear hfz137_1); (try clear hfz167_0); (try clear hfz167_1)
     obtain ⟨kq, x343_160, rfl, HA, HJ160, HO_24, BK351, BK385, BK397, BK405, BK409, BK413, HB⟩ := hcut
     cases kq with
     | zero => exact absurd HA.out (by simp [j6])
     | succ kj160 =>
      have H := HA.out
      clear HA
      simp only [j6] at H
      by_cases c175 : x343_160 = true
      ·subst c175
       have H1 : (some false) = some r := by rw [if_pos rfl] at H; exact H
       clear H
       have H := H1
       clear H1
       exact absurd ((Option.some.inj H).trans hrt.out) (by decide)
      replace c175 := Bool.eq_false_iff.mpr c175
      subst c175
      have H1 : (laws_FnClocksRun.l1 kj160 l1 t384 t386 t396 t398 t399 t415 t386 (t386.length : Int) 0 t382 t383 t394 t395) = some r := by rw [if_neg (show ¬ (false = true) by decide)] at H; exact H
      clear H
      have H := H1
      clear H1
      have H' := Aside0.mk H
      clear H
      obtain ⟨Ao176, co176, eo176⟩ := Kd.R_slice HO_24.out
      subst eo176
      go_wp2
      try simp only [sqa, sqb, sqc, sqd]
      refine loopF (rl [4, 1, 37, 4, 300, 38, 173] false) kj160 (fun kq u_ w' => ∃ (x346_5 : Int), (u_ 346) = .int .i64 x346_5 ∧ Aside0 (laws_FnClocksRun.l1 kq l1 t384 t386 t396 t398 t399 t415 t386 (t386.length : Int) x346_5 t382 t383 t394 t395 = some r) ∧ Aside0 (kq ≤ kj160) ∧ Aside0 (Kd.R (Kd.int .i64) 3 w' w.heap.size (fun _ => True) (.slice Ao176 t386.length co176) t386) ∧ Aside0 (Kd.R (Kd.int .i64) 3 w' w.heap.size (fun _ => True) (.slice Ao176 t386.length co176) t386) ∧ Aside0 (w'.heap[gb351]? = some (.cells #[.int .i64 t349, .int .i64 t350] 49 (0, 0))) ∧ Aside0 (w'.heap[gb385]? = some (.cells #[.int .i64 t382, .int .i64 t383] 49 (0, 0))) ∧ Aside0 (w'.heap[gb397]? = some (.cells #[.int .i64 t394, .int .i64 t395] 49 (0, 0))) ∧ Aside0 (w'.heap[gb405]? = some (.cells #[.int .i64 t402, .int .i64 t403] 49 (0, 0))) ∧ Aside0 (w'.heap[gb409]? = some (.cells #[.int .i64 t406, .int .i64 t407] 49 (0, 0))) ∧ Aside0 (w'.heap[gb413]? = some (.cells #[.int .i64 t410, .int .i64 t411] 49 (0, 0))) ∧ Aside0 (Below w.heap.size w w')) ?atStart20 ?round20
      case atStart20 => exact ⟨(0), (by first | rfl | (simp; done) | (simp [*]; done)), H', ⟨Nat.le_refl _⟩, ⟨rk HO_24⟩, ⟨rk HO_24⟩, ⟨bk BK351⟩, ⟨bk BK385⟩, ⟨bk BK397⟩, ⟨bk BK405⟩, ⟨bk BK409⟩, ⟨bk BK413⟩, ⟨bw HB⟩⟩
      case round20 =>
       intro gk u_ wr hrel l_ hl_; (simp only [rl, List.reduceReplicate, List.cons_append, List.nil_append, List.append_nil, Bool.not_true, Bool.not_false, fu, Nat.reduceAdd] at hl_); subst hl_; generalize u_ 346 = v346 at hrel ⊢
       intro J_ K_ hJ_ hK_
       clear H'
       (try clear c1); (try clear c4); (try clear c157); (try clear c159); (try clear c175); (try clear hcz104_0); (try clear hcz104_1); (try clear hcz106_0); (try clear hcz106_1); (try clear hcz112_0); (try clear hcz112_1); (try clear hcz114_0); (try clear hcz114_1); (try clear hcz121_0); (try clear hcz121_1); (try clear hcz128_0); (try clear hcz128_1); (try clear hcz129_0); (try clear hcz129_1); (try clear hcz137_0); (try clear hcz137_1); (try clear hcz167_0); (try clear hcz167_1); (try clear hfz104_0); (try clear hfz104_1); (try clear hfz106_0); (try clear hfz106_1); (try clear hfz112_0); (try clear hfz112_1); (try clear hfz114_0); (try clear hfz114_1); (try clear hfz121_0); (try clear hfz121_1); (try clear hfz128_0); (try clear hfz128_1); (try clear hfz129_0); (try clear hfz129_1); (try clear hfz137_0); (try clear hfz137_1); (try clear hfz167_0); (try clear hfz167_1)
       obtain ⟨x346_5, rfl, HA, HK5, HO_24, HO_344, BK351, BK385, BK397, BK405, BK409, BK413, HB⟩ := hrel
       cases gk with
       | zero => exact absurd HA.out (by simp [laws_FnClocksRun.l1])
       | succ k5 =>
        have H := HA.out
        clear HA
        simp only [laws_FnClocksRun.l1] at H
        by_cases c177 : x346_5 < (t386.length : Int)
        rotate_left
        ·rw [if_neg c177] at H
         have c177b0 : decide (x346_5 < (t386.length : Int)) = false := decide_eq_false c177
         clear c177
         have H' := Aside0.mk H
         clear H
         go_wp2
         (refine Met.intro ?_; go_step; refine Cut_mk (by kernel_rfl) ?rel21)
         case rel21 => exact ⟨_, H', ⟨by first | exact Nat.le_refl _ | exact Nat.le_of_succ_le HK5.out | exact Nat.le_of_succ_le (Nat.le_trans HK5.out (Nat.le_of_succ_le HJ160.out)) | exact Nat.le_of_succ_le (Nat.le_trans (Nat.le_trans HK5.out (Nat.le_of_succ_le HJ160.out)) (Nat.le_of_succ_le HJ99.out)) | exact Nat.le_of_succ_le (Nat.le_trans (Nat.le_trans (Nat.le_trans HK5.out (Nat.le_of_succ_le HJ160.out)) (Nat.le_of_succ_le HJ99.out)) (Nat.le_of_succ_le HJ53.out)) | exact Nat.le_of_succ_le (Nat.le_trans (Nat.le_trans (Nat.le_trans (Nat.le_trans HK5.out (Nat.le_of_succ_le HJ160.out)) (Nat.le_of_succ_le HJ99.out)) (Nat.le_of_succ_le HJ53.out)) (Nat.le_of_succ_le HJ11.out)) | exact Nat.le_of_succ_le HJ160.out | exact Nat.le_of_succ_le (Nat.le_trans HJ160.out (Nat.le_of_succ_le HJ99.out)) | (have := HJ11.out; have := HJ53.out; have := HJ99.out; have := HJ160.out; have := HK5.out; omega)⟩, ⟨bk BK351⟩, ⟨bk BK385⟩, ⟨bk BK397⟩, ⟨bk BK405⟩, ⟨bk BK409⟩, ⟨bk BK413⟩, ⟨bw HB⟩⟩
        rw [if_pos c177] at H
        have c177b0 : decide (x346_5 < (t386.length : Int)) = true := decide_eq_true c177
        clear c177
        by_cases c178 : 0 ≤ x346_5
        rotate_left
        ·rw [if_neg c178] at H
         exact absurd H (by simp)
        rw [if_pos c178] at H
        have c178b0 : decide (0 ≤ x346_5) = true := decide_eq_true c178
        clear c178
        by_cases c179 : x346_5 < (t386.length : Int)
        rotate_left
        ·rw [if_neg c179] at H
         exact absurd H (by simp)
        rw [if_pos c179] at H
        have c179b0 : decide (x346_5 < (t386.length : Int)) = true := decide_eq_true c179
        clear c179
        by_cases c180 : t384 = 0
        ·rw [if_pos c180] at H
         exact absurd H (by simp)
        rw [if_neg c180] at H
        have c180b0 : (t384 == 0) = false := beq_eq_false_iff_ne.mpr c180
        have c180b1 : (t384 != 0) = true := bne_iff_ne.mpr c180
        replace H := Option.bind_eq_some_iff.mp H
        obtain ⟨⟨t419, t420, t421⟩, A1810, H⟩ := H
        replace H : (if t421 = true then (if t419 = (rd t386 x346_5) then (if x346_5 > 0 then (if 0 ≤ (wrap64 (x346_5 - 1)) then (if (wrap64 (x346_5 - 1)) < (t386.length : Int) then (if (rd t386 (wrap64 (x346_5 - 1))) ≤ (rd t386 x346_5) then (some false) else (laws_FnClocksRun.l1 k5 l1 t384 t386 t396 t398 t399 t415 t386 (t386.length : Int) (wrap64 (x346_5 + 1)) t382 t383 t394 t395)) else (none)) else (none)) else (laws_FnClocksRun.l1 k5 l1 t384 t386 t396 t398 t399 t415 t386 (t386.length : Int) (wrap64 (x346_5 + 1)) t382 t383 t394 t395)) else (some false)) else (some false)) = some r := H
        have A181 := Aside0.mk A1810
        clear A1810
        by_cases c182 : t421 = true
        rotate_left
        ·replace c182 := Bool.eq_false_iff.mpr c182
         subst c182
         have H1 : (some false) = some r := by rw [if_neg (show ¬ (false = true) by decide)] at H; exact H
         clear H
         have H := H1
         clear H1
         exact absurd ((Option.some.inj H).trans hrt.out) (by decide)
        subst c182
        have H1 : (if t419 = (rd t386 x346_5) then (if x346_5 > 0 then (if 0 ≤ (wrap64 (x346_5 - 1)) then (if (wrap64 (x346_5 - 1)) < (t386.length : Int) then (if (rd t386 (wrap64 (x346_5 - 1))) ≤ (rd t386 x346_5) then (some false) else (laws_FnClocksRun.l1 k5 l1 t384 t386 t396 t398 t399 t415 t386 (t386.length : Int) (wrap64 (x346_5 + 1)) t382 t383 t394 t395)) else (none)) else (none)) else (laws_FnClocksRun.l1 k5 l1 t384 t386 t396 t398 t399 t415 t386 (t386.length : Int) (wrap64 (x346_5 + 1)) t382 t383 t394 t395)) else (some false)) = some r := by rw [if_pos rfl] at H; exact H
        clear H
        have H := H1
        clear H1
        by_cases c183 : t419 = (rd t386 x346_5)
        rotate_left
        ·rw [if_neg c183] at H
         have c183b0 : (t419 == (rd t386 x346_5)) = false := beq_eq_false_iff_ne.mpr c183
         have c183b1 : (t419 != (rd t386 x346_5)) = true := bne_iff_ne.mpr c183
         exact absurd ((Option.some.inj H).trans hrt.out) (by decide)
        rw [if_pos c183] at H
        have c183b0 : (t419 == (rd t386 x346_5)) = true := beq_iff_eq.mpr c183
        have c183b1 : (t419 != (rd t386 x346_5)) = false := bne_eq_false_iff_eq.mpr c183
        clear c183
        by_cases c184 : x346_5 > 0
        rotate_left
        ·rw [if_neg c184] at H
         have c184b0 : decide (0 < x346_5) = false := decide_eq_false c184
         clear c184
         have H' := Aside0.mk H
         clear H
         have p418 : 0 ≤ (x346_5 : Int) := of_decide_eq_true ‹_›
         have q418 : x346_5 < (t386.length : Int) := of_decide_eq_true ‹_›
         obtain ⟨ad418, e418, hx418_0⟩ := Kd.at_int (Kd.R_reads' HO_344.out).2.2 x346_5 p418 q418
         cases e418
         replace p418 := eq_true p418
         replace q418 := eq_true q418
         try go_wp2
         replace HO_24 := Aside0.mk (Kd.R_drew HO_24.out)
         replace HO_344 := Aside0.mk (Kd.R_drew HO_344.out)
         replace BK351 := Aside0.mk (blk_drew BK351.out)
         replace BK385 := Aside0.mk (blk_drew BK385.out)
         replace BK397 := Aside0.mk (blk_drew BK397.out)
         replace BK405 := Aside0.mk (blk_drew BK405.out)
         replace BK409 := Aside0.mk (blk_drew BK409.out)
         replace BK413 := Aside0.mk (blk_drew BK413.out)
         replace HB := Aside0.mk (below_drew1 HB.out)
         refine start_ (n := 14) (S := fun w' => w'.cell? ⟨gb385, 0, none⟩ = some (.int .i64 t382) ∧ w'.cell? ⟨gb385, 1, none⟩ = some (.int .i64 t383)) (ds := []) (bl 14 0) (by kernel_rfl) rfl rfl ⟨bc0 BK385, bc1 BK385⟩ (fun hHeld => ?_); refine with_tabW laws_FnClocksRun.tab42 laws_FnClocksRun.bits42 (fun HT_ HW_ => ?_)
         generalize wr.drew = w202 at HO_24 HO_344 BK351 BK385 BK397 BK405 BK409 BK413 HB hHeld ⊢
         refine pu 1 353 (bl 14 2) HT_.out (v := ?_) (a' := ?_) ?_ ?_ ?_
         rotate_left; (intro w'; go_simp; with_reducible rfl); rotate_left; (simp only [sqa, sqb, sqc, sqd, i64_w, i32_w]; rfl)
         refine pu 2 354 (bl 14 6) HT_.out (v := ?_) (a' := ?_) ?_ ?_ ?_
         rotate_left; (intro w'; go_simp; with_reducible rfl); rotate_left; (simp only [sqa, sqb, sqc, sqd, i64_w, i32_w]; rfl)
         refine pu 3 355 (bl 14 14) HT_.out (v := ?_) (a' := ?_) ?_ ?_ ?_
         rotate_left; (intro w'; go_simp; with_reducible rfl); rotate_left; (simp only [sqa, sqb, sqc, sqd, i64_w, i32_w]; rfl)
         refine pu 4 356 (bl 14 30) HT_.out (v := ?_) (a' := ?_) ?_ ?_ ?_
         rotate_left; (intro w'; go_simp; with_reducible rfl); rotate_left; (simp only [sqa, sqb, sqc, sqd, i64_w, i32_w]; rfl)
         refine pu 5 357 (bl 14 62) HT_.out (v := ?_) (a' := ?_) ?_ ?_ ?_
         rotate_left; (intro w'; go_simp; with_reducible rfl); rotate_left; (simp only [sqa, sqb, sqc, sqd, i64_w, i32_w]; rfl)
         refine pu 6 358 (bl 14 126) HT_.out (v := ?_) (a' := ?_) ?_ ?_ ?_
         rotate_left; (intro w'; go_simp; with_reducible rfl); rotate_left; (simp only [sqa, sqb, sqc, sqd, i64_w, i32_w]; rfl)
         refine tk 0 352 (bl 14 127) HT_.out HW_.out hHeld (v := ?_) (a' := ?_) ?_ ?_ ?_
         rotate_left; (rintro w' ⟨s0, s1⟩; go_simp; with_reducible rfl); rotate_left; (simp only [sqa, sqb, sqc, sqd, i64_w, i32_w]; rfl)
         refine join_ (σ := Nat) 2 (bl 14 4095) (fun s_ => [(359, .tuple #[.agg #[.int .i64 t419, .int .i64 t420], .bool true]), (44, .pointer (some ⟨s_, 0, none⟩)), (351, .tuple #[.agg #[.int .i64 t419, .int .i64 t420], .bool true]), (360, .agg #[.int .i64 t419, .int .i64 t420]), (361, .bool true)]) (fun s_ w' => (w'.cell? ⟨gb385, 0, none⟩ = some (.int .i64 t382) ∧ w'.cell? ⟨gb385, 1, none⟩ = some (.int .i64 t383)) ∧ (Kd.R (Kd.int .i64) 3 w' w.heap.size (fun _ => True) (.slice (some ad418) t386.length co176) t386) ∧ (Kd.R (Kd.int .i64) 3 w' w.heap.size (fun _ => True) (.slice (some ad418) t386.length co176) t386) ∧ (w'.heap[gb351]? = some (.cells #[.int .i64 t349, .int .i64 t350] 49 (0, 0))) ∧ (w'.heap[gb385]? = some (.cells #[.int .i64 t382, .int .i64 t383] 49 (0, 0))) ∧ (w'.heap[gb397]? = some (.cells #[.int .i64 t394, .int .i64 t395] 49 (0, 0))) ∧ (w'.heap[gb405]? = some (.cells #[.int .i64 t402, .int .i64 t403] 49 (0, 0))) ∧ (w'.heap[gb409]? = some (.cells #[.int .i64 t406, .int .i64 t407] 49 (0, 0))) ∧ (w'.heap[gb413]? = some (.cells #[.int .i64 t410, .int .i64 t411] 49 (0, 0))) ∧ (w'.heap[s_]? = some (.cells #[.int .i64 0, .int .i64 0] 49 (0, 0))) ∧ (w.heap.size ≤ s_) ∧ (w.heap.size ≤ s_) ∧ (gb351 ≠ s_) ∧ (s_ ≠ gb351) ∧ (gb385 ≠ s_) ∧ (s_ ≠ gb385) ∧ (gb397 ≠ s_) ∧ (s_ ≠ gb397) ∧ (gb405 ≠ s_) ∧ (s_ ≠ gb405) ∧ (gb409 ≠ s_) ∧ (s_ ≠ gb409) ∧ (gb413 ≠ s_) ∧ (s_ ≠ gb413) ∧ (Below w.heap.size w w')) ?_ ?_
         rotate_left
         ·intro hCont
          refine two_ (i := 7) (j := 11) (Ni := some 359) (Nj := some 44) (bl 14 255) (bl 14 2175) rfl rfl rfl rfl (two_of HT_.out (by kernel_rfl)) (by decide) (by decide) (fun K hK => ?_) (fun K hK => ?_)
          ·skip
           refine gs Try.func39 #[.agg #[.int .i64 t382, .int .i64 t383], .int .i64 (wrap64 (Int.tdiv (wrap64 ((wrap64 (x346_5 + 1)) * t415)) t384))] ?_
           with_reducible refine (impl_ClockAfter.calls k5 t382 t383 (wrap64 (Int.tdiv (wrap64 ((wrap64 (x346_5 + 1)) * t415)) t384)) t419 t420 true _ A181.out).mono ?_
           rintro e w203 ⟨rfl, hb⟩
           refine ⟨_, rfl, ?_⟩
           replace HO_24 := rb HO_24 hb
           replace HO_344 := rb HO_344 hb
           replace BK351 := bb BK351 hb
           replace BK385 := bb BK385 hb
           replace BK397 := bb BK397 hb
           replace BK405 := bb BK405 hb
           replace BK409 := bb BK409 hb
           replace BK413 := bb BK413 hb
           replace HB := bs HB hb
           (try clear hb); (try clear hk)
           refine hK.out _ _ ⟨bc0 BK385, bc1 BK385⟩ (fun hHeld => ?_)
           clear hK K
           refine norm_ (a' := ?_) ?_ ?_; rotate_left; (show Act.put _ (some 359) _ = _; simp only [sqa, sqb, sqc, sqd, i64_w, i32_w]; rfl)
           refine pu 8 351 (bl 14 511) HT_.out (v := ?_) (a' := ?_) ?_ ?_ ?_
           rotate_left; (intro w'; go_simp; with_reducible rfl); rotate_left; (simp only [sqa, sqb, sqc, sqd, i64_w, i32_w]; rfl)
           refine pu 9 360 (bl 14 1023) HT_.out (v := ?_) (a' := ?_) ?_ ?_ ?_
           rotate_left; (intro w'; go_simp; with_reducible rfl); rotate_left; (simp only [sqa, sqb, sqc, sqd, i64_w, i32_w]; rfl)
           refine pu 10 361 (bl 14 2047) HT_.out (v := ?_) (a' := ?_) ?_ ?_ ?_
           rotate_left; (intro w'; go_simp; with_reducible rfl); rotate_left; (simp only [sqa, sqb, sqc, sqd, i64_w, i32_w]; rfl)
           refine on 11 44 (bl 14 4095) HT_.out (fun K hK => ?_)
           refine box_step ?hg (N := 44) ?hd (cs := #[.int .i64 0, .int .i64 0]) (t := 49) ?hr ?_; (case hd => rfl); (case hg => rfl); (case hr => first | (go_simp; done) | (go_simp; rfl))
           intro gb422 hg w204 hbox hb
           replace HO_24 := rb HO_24 hb
           replace HO_344 := rb HO_344 hb
           have BK422 := Aside0.mk (hbox)
           have GW422 := ge HB hg
           have GE422 := ge HB hg
           replace HB := bs HB hb
           have NB351_422 := nl BK351 hg
           have NB422_351 := nr BK351 hg
           replace BK351 := bb BK351 hb
           have NB385_422 := nl BK385 hg
           have NB422_385 := nr BK385 hg
           replace BK385 := bb BK385 hb
           have NB397_422 := nl BK397 hg
           have NB422_397 := nr BK397 hg
           replace BK397 := bb BK397 hb
           have NB405_422 := nl BK405 hg
           have NB422_405 := nr BK405 hg
           replace BK405 := bb BK405 hb
           have NB409_422 := nl BK409 hg
           have NB422_409 := nr BK409 hg
           replace BK409 := bb BK409 hb
           have NB413_422 := nl BK413 hg
           have NB422_413 := nr BK413 hg
           replace BK413 := bb BK413 hb
           clear hb hbox hg
           refine hK.out _ _ ⟨bc0 BK385, bc1 BK385⟩ (fun hHeld => ?_)
           clear hK K
           refine norm_ (a' := ?_) ?_ ?_; rotate_left; (show Act.put _ (some 44) _ = _; simp only [sqa, sqb, sqc, sqd, i64_w, i32_w]; rfl)
           exact norm_ (by simp only [putAll, Act.put, List.setIfInBounds_toArray, List.set_cons_zero, List.set_cons_succ]) (hCont (gb422) _ ⟨hHeld, (rk HO_24), (rk HO_344), (bk BK351), (bk BK385), (bk BK397), (bk BK405), (bk BK409), (bk BK413), (bk BK422), GW422.out, GE422.out, NB351_422.out, NB422_351.out, NB385_422.out, NB422_385.out, NB397_422.out, NB422_397.out, NB405_422.out, NB422_405.out, NB409_422.out, NB422_409.out, NB413_422.out, NB422_413.out, (bw HB)⟩)
          ·skip
           refine box_step ?hg (N := 44) ?hd (cs := #[.int .i64 0, .int .i64 0]) (t := 49) ?hr ?_; (case hd => rfl); (case hg => rfl); (case hr => first | (go_simp; done) | (go_simp; rfl))
           intro gb422 hg w203 hbox hb
           replace HO_24 := rb HO_24 hb
           replace HO_344 := rb HO_344 hb
           have BK422 := Aside0.mk (hbox)
           have GW422 := ge HB hg
           have GE422 := ge HB hg
           replace HB := bs HB hb
           have NB351_422 := nl BK351 hg
           have NB422_351 := nr BK351 hg
           replace BK351 := bb BK351 hb
           have NB385_422 := nl BK385 hg
           have NB422_385 := nr BK385 hg
           replace BK385 := bb BK385 hb
           have NB397_422 := nl BK397 hg
           have NB422_397 := nr BK397 hg
           replace BK397 := bb BK397 hb
           have NB405_422 := nl BK405 hg
           have NB422_405 := nr BK405 hg
           replace BK405 := bb BK405 hb
           have NB409_422 := nl BK409 hg
           have NB422_409 := nr BK409 hg
           replace BK409 := bb BK409 hb
           have NB413_422 := nl BK413 hg
           have NB422_413 := nr BK413 hg
           replace BK413 := bb BK413 hb
           clear hb hbox hg
           refine hK.out _ _ ⟨bc0 BK385, bc1 BK385⟩ (fun hHeld => ?_)
           clear hK K
           refine norm_ (a' := ?_) ?_ ?_; rotate_left; (show Act.put _ (some 44) _ = _; simp only [sqa, sqb, sqc, sqd, i64_w, i32_w]; rfl)
           refine on 7 359 (bl 14 2303) HT_.out (fun K hK => ?_)
           refine gs Try.func39 #[.agg #[.int .i64 t382, .int .i64 t383], .int .i64 (wrap64 (Int.tdiv (wrap64 ((wrap64 (x346_5 + 1)) * t415)) t384))] ?_
           with_reducible refine (impl_ClockAfter.calls k5 t382 t383 (wrap64 (Int.tdiv (wrap64 ((wrap64 (x346_5 + 1)) * t415)) t384)) t419 t420 true _ A181.out).mono ?_
           rintro e w204 ⟨rfl, hb⟩
           refine ⟨_, rfl, ?_⟩
           replace HO_24 := rb HO_24 hb
           replace HO_344 := rb HO_344 hb
           replace BK351 := bb BK351 hb
           replace BK385 := bb BK385 hb
           replace BK397 := bb BK397 hb
           replace BK405 := bb BK405 hb
           replace BK409 := bb BK409 hb
           replace BK413 := bb BK413 hb
           replace BK422 := bb BK422 hb
           replace HB := bs HB hb
           (try clear hb); (try clear hk)
           refine hK.out _ _ ⟨bc0 BK385, bc1 BK385⟩ (fun hHeld => ?_)
           clear hK K
           refine norm_ (a' := ?_) ?_ ?_; rotate_left; (show Act.put _ (some 359) _ = _; simp only [sqa, sqb, sqc, sqd, i64_w, i32_w]; rfl)
           refine pu 8 351 (bl 14 2559) HT_.out (v := ?_) (a' := ?_) ?_ ?_ ?_
           rotate_left; (intro w'; go_simp; with_reducible rfl); rotate_left; (simp only [sqa, sqb, sqc, sqd, i64_w, i32_w]; rfl)
           refine pu 9 360 (bl 14 3071) HT_.out (v := ?_) (a' := ?_) ?_ ?_ ?_
           rotate_left; (intro w'; go_simp; with_reducible rfl); rotate_left; (simp only [sqa, sqb, sqc, sqd, i64_w, i32_w]; rfl)
           refine pu 10 361 (bl 14 4095) HT_.out (v := ?_) (a' := ?_) ?_ ?_ ?_
           rotate_left; (intro w'; go_simp; with_reducible rfl); rotate_left; (simp only [sqa, sqb, sqc, sqd, i64_w, i32_w]; rfl)
           exact norm_ (by simp only [putAll, Act.put, List.setIfInBounds_toArray, List.set_cons_zero, List.set_cons_succ]) (hCont (gb422) _ ⟨hHeld, (rk HO_24), (rk HO_344), (bk BK351), (bk BK385), (bk BK397), (bk BK405), (bk BK409), (bk BK413), (bk BK422), GW422.out, GE422.out, NB351_422.out, NB422_351.out, NB385_422.out, NB422_385.out, NB397_422.out, NB422_397.out, NB405_422.out, NB422_405.out, NB409_422.out, NB422_409.out, NB413_422.out, NB422_413.out, (bw HB)⟩)
         rintro gb422 w205 ⟨hS_, h0_, h1_, h2_, h3_, h4_, h5_, h6_, h7_, h8_, h9_, h10_, h11_, h12_, h13_, h14_, h15_, h16_, h17_, h18_, h19_, h20_, h21_, h22_, h23_⟩
         replace HO_24 := Aside0.mk h0_
         replace HO_344 := Aside0.mk h1_
         replace BK351 := Aside0.mk h2_
         replace BK385 := Aside0.mk h3_
         replace BK397 := Aside0.mk h4_
         replace BK405 := Aside0.mk h5_
         replace BK409 := Aside0.mk h6_
         replace BK413 := Aside0.mk h7_
         have BK422 := Aside0.mk h8_
         have GW422 := GeC.mk h9_
         have GE422 := GeC.mk h10_
         have NB351_422 := NeC.mk h11_
         have NB422_351 := NeC.mk h12_
         have NB385_422 := NeC.mk h13_
         have NB422_385 := NeC.mk h14_
         have NB397_422 := NeC.mk h15_
         have NB422_397 := NeC.mk h16_
         have NB405_422 := NeC.mk h17_
         have NB422_405 := NeC.mk h18_
         have NB409_422 := NeC.mk h19_
         have NB422_409 := NeC.mk h20_
         have NB413_422 := NeC.mk h21_
         have NB422_413 := NeC.mk h22_
         replace HB := Aside0.mk h23_
         clear h0_ h1_ h2_ h3_ h4_ h5_ h6_ h7_ h8_ h9_ h10_ h11_ h12_ h13_ h14_ h15_ h16_ h17_ h18_ h19_ h20_ h21_ h22_ h23_
         have hHeld : w205.cell? ⟨gb385, 0, none⟩ = some (.int .i64 t382) ∧ w205.cell? ⟨gb385, 1, none⟩ = some (.int .i64 t383) := hS_
         refine norm_ (a' := ?_) ?_ ?_
         rotate_left
         ·simp only [putAll, Act.put, List.setIfInBounds_toArray, List.set_cons_zero, List.set_cons_succ]
          rfl
         refine one_ (i := 12) (N := none) (bl 14 8191) rfl rfl (one_of HT_.out (by kernel_rfl)) (by decide) (fun K hK => ?_)
         have hs206 : w205.cell? ⟨gb422, 0, none⟩ = some (.int .i64 0) := bc0 BK422
         have hfs206 := blk_frozen BK422.out 0
         have hns206_0 := NB351_422.out
         have hns206_1 := NB385_422.out
         have hns206_2 := NB397_422.out
         have hns206_3 := NB405_422.out
         have hns206_4 := NB409_422.out
         have hns206_5 := NB413_422.out
         have hms206_0 := NB422_351.out
         have hms206_1 := NB422_385.out
         have hms206_2 := NB422_397.out
         have hms206_3 := NB422_405.out
         have hms206_4 := NB422_409.out
         have hms206_5 := NB422_413.out
         have hs207 : w205.cell? ⟨gb422, 1, none⟩ = some (.int .i64 0) := bc1 BK422
         have hfs207 := blk_frozen BK422.out 1
         have hns207_0 := NB351_422.out
         have hns207_1 := NB385_422.out
         have hns207_2 := NB397_422.out
         have hns207_3 := NB405_422.out
         have hns207_4 := NB409_422.out
         have hns207_5 := NB413_422.out
         have hms207_0 := NB422_351.out
         have hms207_1 := NB422_385.out
         have hms207_2 := NB422_397.out
         have hms207_3 := NB422_405.out
         have hms207_4 := NB422_409.out
         have hms207_5 := NB422_413.out
         refine skip_ (w1 := ?_) (by rfl) rfl ?_ ?_
         rotate_left
         ·go_simp
          rfl
         refine hK.out _ _ ⟨((cell_far (p := ⟨gb422, _, none⟩) NB385_422.out _).trans (((cell_far (p := ⟨gb422, _, none⟩) NB385_422.out _).trans (hHeld.1)))), ((cell_far (p := ⟨gb422, _, none⟩) NB385_422.out _).trans (((cell_far (p := ⟨gb422, _, none⟩) NB385_422.out _).trans (hHeld.2))))⟩ (fun hHeld => ?_)
         clear hK K
         refine pu 13 45 (bl 14 16383) HT_.out (v := ?_) (a' := ?_) ?_ ?_ ?_
         rotate_left; (intro w'; go_simp; with_reducible rfl); rotate_left; (simp only [sqa, sqb, sqc, sqd, i64_w, i32_w]; rfl)
         refine done_ (done_of HT_.out (by kernel_rfl)) ?_
         have hnb208 := NB422_351.out
         have hnc208 := NB351_422.out
         have hnb209 := NB422_385.out
         have hnc209 := NB385_422.out
         have hnb210 := NB422_397.out
         have hnc210 := NB397_422.out
         have hnb211 := NB422_405.out
         have hnc211 := NB405_422.out
         have hnb212 := NB422_409.out
         have hnc212 := NB409_422.out
         have hnb213 := NB422_413.out
         have hnc213 := NB413_422.out
         have hcz214_0 := bc0 BK422
         have hcz214_1 := bc1 BK422
         have hfz214_0 := blk_frozen BK422.out 0
         have hfz214_1 := blk_frozen BK422.out 1
         try go_wp2
         (refine Handed.intro k5 ?measure22 ?_; rotate_left; go_step; refine LoopI_mk (by kernel_rfl) ?rel22)
         case measure22 => have := HJ11.out; have := HJ53.out; have := HJ99.out; have := HJ160.out; have := HK5.out; omega
         case rel22 => exact ⟨(wrap64 (x346_5 + 1)), (by first | rfl | (simp; done) | (simp [*]; done)), H', ⟨by have := HJ11.out; have := HJ53.out; have := HJ99.out; have := HJ160.out; have := HK5.out; omega⟩, ⟨by (with_reducible repeat (first | apply Kd.R_alloc | apply Kd.R_drewN | apply Kd.R_drew)); exact Kd.R_mono (Kd.R_far (p := ⟨gb422, 1, none⟩) (Kd.R_far (p := ⟨gb422, 0, none⟩) (Kd.R_types HO_24.out BK422.out (by decide)) (fun _ hk => hk.2) (.int .i64 t419)) (fun _ hk => hk.2) (.int .i64 t420)) (fun _ hk => trivial)⟩, ⟨by (with_reducible repeat (first | apply Kd.R_alloc | apply Kd.R_drewN | apply Kd.R_drew)); exact Kd.R_mono (Kd.R_far (p := ⟨gb422, 1, none⟩) (Kd.R_far (p := ⟨gb422, 0, none⟩) (Kd.R_types HO_344.out BK422.out (by decide)) (fun _ hk => hk.2) (.int .i64 t419)) (fun _ hk => hk.2) (.int .i64 t420)) (fun _ hk => trivial)⟩, ⟨bk BK351⟩, ⟨bk BK385⟩, ⟨bk BK397⟩, ⟨bk BK405⟩, ⟨bk BK409⟩, ⟨bk BK413⟩, ⟨bw HB⟩⟩
        rw [if_pos c184] at H
        have c184b0 : decide (0 < x346_5) = true := decide_eq_true c184
        clear c184
        obtain ⟨ji185, hji185⟩ : ∃ j_ : Int, (wrap64 (x346_5 - 1)) = j_ := ⟨_, rfl⟩
        replace H : (if 0 ≤ (ji185) then (if (ji185) < (t386.length : Int) then (if (rd t386 (ji185)) ≤ (rd t386 x346_5) then (some false) else (laws_FnClocksRun.l1 k5 l1 t384 t386 t396 t398 t399 t415 t386 (t386.length : Int) (wrap64 (x346_5 + 1)) t382 t383 t394 t395)) else (none)) else (none)) = some r := by first | (rw [hji185] at H; exact H) | (simp only [hji185] at H ⊢; exact H)
        (try rw [hji185] at A181)
        have hji185w : (IntKind.i64.wrap (x346_5 - 1)) = ji185 := (i64_w _).trans hji185
        by_cases c186 : 0 ≤ (ji185)
        rotate_left
        ·rw [if_neg c186] at H
         exact absurd H (by simp)
        rw [if_pos c186] at H
        have c186b0 : decide (0 ≤ (ji185)) = true := decide_eq_true c186
        clear c186
        by_cases c187 : (ji185) < (t386.length : Int)
        rotate_left
        ·rw [if_neg c187] at H
         exact absurd H (by simp)
        rw [if_pos c187] at H
        have c187b0 : decide ((ji185) < (t386.length : Int)) = true := decide_eq_true c187
        clear c187
        by_cases c188 : (rd t386 (ji185)) ≤ (rd t386 x346_5)
        ·rw [if_pos c188] at H
         have c188b0 : decide ((rd t386 (ji185)) ≤ (rd t386 x346_5)) = true := decide_eq_true c188
         clear c188
         exact absurd ((Option.some.inj H).trans hrt.out) (by decide)
        rw [if_neg c188] at H
        have c188b0 : decide ((rd t386 (ji185)) ≤ (rd t386 x346_5)) = false := decide_eq_false c188
        clear c188
        have H' := Aside0.mk H
        clear H
        have p418 : 0 ≤ (x346_5 : Int) := of_decide_eq_true ‹_›
        have q418 : x346_5 < (t386.length : Int) := of_decide_eq_true ‹_›
        obtain ⟨ad418, e418, hx418_0⟩ := Kd.at_int (Kd.R_reads' HO_344.out).2.2 x346_5 p418 q418
        cases e418
        replace p418 := eq_true p418
        replace q418 := eq_true q418
        try go_wp2
        replace HO_24 := Aside0.mk (Kd.R_drew HO_24.out)
        replace HO_344 := Aside0.mk (Kd.R_drew HO_344.out)
        replace BK351 := Aside0.mk (blk_drew BK351.out)
        replace BK385 := Aside0.mk (blk_drew BK385.out)
        replace BK397 := Aside0.mk (blk_drew BK397.out)
        replace BK405 := Aside0.mk (blk_drew BK405.out)
        replace BK409 := Aside0.mk (blk_drew BK409.out)
        replace BK413 := Aside0.mk (blk_drew BK413.out)
        replace HB := Aside0.mk (below_drew1 HB.out)
        refine start_ (n := 14) (S := fun w' => w'.cell? ⟨gb385, 0, none⟩ = some (.int .i64 t382) ∧ w'.cell? ⟨gb385, 1, none⟩ = some (.int .i64 t383)) (ds := []) (bl 14 0) (by kernel_rfl) rfl rfl ⟨bc0 BK385, bc1 BK385⟩ (fun hHeld => ?_); refine with_tabW laws_FnClocksRun.tab42 laws_FnClocksRun.bits42 (fun HT_ HW_ => ?_)
        generalize wr.drew = w189 at HO_24 HO_344 BK351 BK385 BK397 BK405 BK409 BK413 HB hHeld ⊢
        refine pu 1 353 (bl 14 2) HT_.out (v := ?_) (a' := ?_) ?_ ?_ ?_
        rotate_left; (intro w'; go_simp; with_reducible rfl); rotate_left; (simp only [sqa, sqb, sqc, sqd, i64_w, i32_w]; rfl)
        refine pu 2 354 (bl 14 6) HT_.out (v := ?_) (a' := ?_) ?_ ?_ ?_
        rotate_left; (intro w'; go_simp; with_reducible rfl); rotate_left; (simp only [sqa, sqb, sqc, sqd, i64_w, i32_w]; rfl)
        refine pu 3 355 (bl 14 14) HT_.out (v := ?_) (a' := ?_) ?_ ?_ ?_
        rotate_left; (intro w'; go_simp; with_reducible rfl); rotate_left; (simp only [sqa, sqb, sqc, sqd, i64_w, i32_w]; rfl)
        refine pu 4 356 (bl 14 30) HT_.out (v := ?_) (a' := ?_) ?_ ?_ ?_
        rotate_left; (intro w'; go_simp; with_reducible rfl); rotate_left; (simp only [sqa, sqb, sqc, sqd, i64_w, i32_w]; rfl)
        refine pu 5 357 (bl 14 62) HT_.out (v := ?_) (a' := ?_) ?_ ?_ ?_
        rotate_left; (intro w'; go_simp; with_reducible rfl); rotate_left; (simp only [sqa, sqb, sqc, sqd, i64_w, i32_w]; rfl)
        refine pu 6 358 (bl 14 126) HT_.out (v := ?_) (a' := ?_) ?_ ?_ ?_
        rotate_left; (intro w'; go_simp; with_reducible rfl); rotate_left; (simp only [sqa, sqb, sqc, sqd, i64_w, i32_w]; rfl)
        refine tk 0 352 (bl 14 127) HT_.out HW_.out hHeld (v := ?_) (a' := ?_) ?_ ?_ ?_
        rotate_left; (rintro w' ⟨s0, s1⟩; go_simp; with_reducible rfl); rotate_left; (simp only [sqa, sqb, sqc, sqd, i64_w, i32_w]; rfl)
        refine join_ (σ := Nat) 2 (bl 14 4095) (fun s_ => [(359, .tuple #[.agg #[.int .i64 t419, .int .i64 t420], .bool true]), (44, .pointer (some ⟨s_, 0, none⟩)), (351, .tuple #[.agg #[.int .i64 t419, .int .i64 t420], .bool true]), (360, .agg #[.int .i64 t419, .int .i64 t420]), (361, .bool true)]) (fun s_ w' => (w'.cell? ⟨gb385, 0, none⟩ = some (.int .i64 t382) ∧ w'.cell? ⟨gb385, 1, none⟩ = some (.int .i64 t383)) ∧ (Kd.R (Kd.int .i64) 3 w' w.heap.size (fun _ => True) (.slice (some ad418) t386.length co176) t386) ∧ (Kd.R (Kd.int .i64) 3 w' w.heap.size (fun _ => True) (.slice (some ad418) t386.length co176) t386) ∧ (w'.heap[gb351]? = some (.cells #[.int .i64 t349, .int .i64 t350] 49 (0, 0))) ∧ (w'.heap[gb385]? = some (.cells #[.int .i64 t382, .int .i64 t383] 49 (0, 0))) ∧ (w'.heap[gb397]? = some (.cells #[.int .i64 t394, .int .i64 t395] 49 (0, 0))) ∧ (w'.heap[gb405]? = some (.cells #[.int .i64 t402, .int .i64 t403] 49 (0, 0))) ∧ (w'.heap[gb409]? = some (.cells #[.int .i64 t406, .int .i64 t407] 49 (0, 0))) ∧ (w'.heap[gb413]? = some (.cells #[.int .i64 t410, .int .i64 t411] 49 (0, 0))) ∧ (w'.heap[s_]? = some (.cells #[.int .i64 0, .int .i64 0] 49 (0, 0))) ∧ (w.heap.size ≤ s_) ∧ (w.heap.size ≤ s_) ∧ (gb351 ≠ s_) ∧ (s_ ≠ gb351) ∧ (gb385 ≠ s_) ∧ (s_ ≠ gb385) ∧ (gb397 ≠ s_) ∧ (s_ ≠ gb397) ∧ (gb405 ≠ s_) ∧ (s_ ≠ gb405) ∧ (gb409 ≠ s_) ∧ (s_ ≠ gb409) ∧ (gb413 ≠ s_) ∧ (s_ ≠ gb413) ∧ (Below w.heap.size w w')) ?_ ?_
        rotate_left
        ·intro hCont
         refine two_ (i := 7) (j := 11) (Ni := some 359) (Nj := some 44) (bl 14 255) (bl 14 2175) rfl rfl rfl rfl (two_of HT_.out (by kernel_rfl)) (by decide) (by decide) (fun K hK => ?_) (fun K hK => ?_)
         ·skip
          refine gs Try.func39 #[.agg #[.int .i64 t382, .int .i64 t383], .int .i64 (wrap64 (Int.tdiv (wrap64 ((wrap64 (x346_5 + 1)) * t415)) t384))] ?_
          with_reducible refine (impl_ClockAfter.calls k5 t382 t383 (wrap64 (Int.tdiv (wrap64 ((wrap64 (x346_5 + 1)) * t415)) t384)) t419 t420 true _ A181.out).mono ?_
          rintro e w190 ⟨rfl, hb⟩
          refine ⟨_, rfl, ?_⟩
          replace HO_24 := rb HO_24 hb
          replace HO_344 := rb HO_344 hb
          replace BK351 := bb BK351 hb
          replace BK385 := bb BK385 hb
          replace BK397 := bb BK397 hb
          replace BK405 := bb BK405 hb
          replace BK409 := bb BK409 hb
          replace BK413 := bb BK413 hb
          replace HB := bs HB hb
          (try clear hb); (try clear hk)
          refine hK.out _ _ ⟨bc0 BK385, bc1 BK385⟩ (fun hHeld => ?_)
          clear hK K
          refine norm_ (a' := ?_) ?_ ?_; rotate_left; (show Act.put _ (some 359) _ = _; simp only [sqa, sqb, sqc, sqd, i64_w, i32_w]; rfl)
          refine pu 8 351 (bl 14 511) HT_.out (v := ?_) (a' := ?_) ?_ ?_ ?_
          rotate_left; (intro w'; go_simp; with_reducible rfl); rotate_left; (simp only [sqa, sqb, sqc, sqd, i64_w, i32_w]; rfl)
          refine pu 9 360 (bl 14 1023) HT_.out (v := ?_) (a' := ?_) ?_ ?_ ?_
          rotate_left; (intro w'; go_simp; with_reducible rfl); rotate_left; (simp only [sqa, sqb, sqc, sqd, i64_w, i32_w]; rfl)
          refine pu 10 361 (bl 14 2047) HT_.out (v := ?_) (a' := ?_) ?_ ?_ ?_
          rotate_left; (intro w'; go_simp; with_reducible rfl); rotate_left; (simp only [sqa, sqb, sqc, sqd, i64_w, i32_w]; rfl)
          refine on 11 44 (bl 14 4095) HT_.out (fun K hK => ?_)
          refine box_step ?hg (N := 44) ?hd (cs := #[.int .i64 0, .int .i64 0]) (t := 49) ?hr ?_; (case hd => rfl); (case hg => rfl); (case hr => first | (go_simp; done) | (go_simp; rfl))
          intro gb422 hg w191 hbox hb
          replace HO_24 := rb HO_24 hb
          replace HO_344 := rb HO_344 hb
          have BK422 := Aside0.mk (hbox)
          have GW422 := ge HB hg
          have GE422 := ge HB hg
          replace HB := bs HB hb
          have NB351_422 := nl BK351 hg
          have NB422_351 := nr BK351 hg
          replace BK351 := bb BK351 hb
          have NB385_422 := nl BK385 hg
          have NB422_385 := nr BK385 hg
          replace BK385 := bb BK385 hb
          have NB397_422 := nl BK397 hg
          have NB422_397 := nr BK397 hg
          replace BK397 := bb BK397 hb
          have NB405_422 := nl BK405 hg
          have NB422_405 := nr BK405 hg
          replace BK405 := bb BK405 hb
          have NB409_422 := nl BK409 hg
          have NB422_409 := nr BK409 hg
          replace BK409 := bb BK409 hb
          have NB413_422 := nl BK413 hg
          have NB422_413 := nr BK413 hg
          replace BK413 := bb BK413 hb
          clear hb hbox hg
          refine hK.out _ _ ⟨bc0 BK385, bc1 BK385⟩ (fun hHeld => ?_)
          clear hK K
          refine norm_ (a' := ?_) ?_ ?_; rotate_left; (show Act.put _ (some 44) _ = _; simp only [sqa, sqb, sqc, sqd, i64_w, i32_w]; rfl)
          exact norm_ (by simp only [putAll, Act.put, List.setIfInBounds_toArray, List.set_cons_zero, List.set_cons_succ]) (hCont (gb422) _ ⟨hHeld, (rk HO_24), (rk HO_344), (bk BK351), (bk BK385), (bk BK397), (bk BK405), (bk BK409), (bk BK413), (bk BK422), GW422.out, GE422.out, NB351_422.out, NB422_351.out, NB385_422.out, NB422_385.out, NB397_422.out, NB422_397.out, NB405_422.out, NB422_405.out, NB409_422.out, NB422_409.out, NB413_422.out, NB422_413.out, (bw HB)⟩)
         ·skip
          refine box_step ?hg (N := 44) ?hd (cs := #[.int .i64 0, .int .i64 0]) (t := 49) ?hr ?_; (case hd => rfl); (case hg => rfl); (case hr => first | (go_simp; done) | (go_simp; rfl))
          intro gb422 hg w190 hbox hb
          replace HO_24 := rb HO_24 hb
          replace HO_344 := rb HO_344 hb
          have BK422 := Aside0.mk (hbox)
          have GW422 := ge HB hg
          have GE422 := ge HB hg
          replace HB := bs HB hb
          have NB351_422 := nl BK351 hg
          have NB422_351 := nr BK351 hg
          replace BK351 := bb BK351 hb
          have NB385_422 := nl BK385 hg
          have NB422_385 := nr BK385 hg
          replace BK385 := bb BK385 hb
          have NB397_422 := nl BK397 hg
          have NB422_397 := nr BK397 hg
          replace BK397 := bb BK397 hb
          have NB405_422 := nl BK405 hg
          have NB422_405 := nr BK405 hg
          replace BK405 := bb BK405 hb
          have NB409_422 := nl BK409 hg
          have NB422_409 := nr BK409 hg
          replace BK409 := bb BK409 hb
          have NB413_422 := nl BK413 hg
          have NB422_413 := nr BK413 hg
          replace BK413 := bb BK413 hb
          clear hb hbox hg
          refine hK.out _ _ ⟨bc0 BK385, bc1 BK385⟩ (fun hHeld => ?_)
          clear hK K
          refine norm_ (a' := ?_) ?_ ?_; rotate_left; (show Act.put _ (some 44) _ = _; simp only [sqa, sqb, sqc, sqd, i64_w, i32_w]; rfl)
          refine on 7 359 (bl 14 2303) HT_.out (fun K hK => ?_)
          refine gs Try.func39 #[.agg #[.int .i64 t382, .int .i64 t383], .int .i64 (wrap64 (Int.tdiv (wrap64 ((wrap64 (x346_5 + 1)) * t415)) t384))] ?_
          with_reducible refine (impl_ClockAfter.calls k5 t382 t383 (wrap64 (Int.tdiv (wrap64 ((wrap64 (x346_5 + 1)) * t415)) t384)) t419 t420 true _ A181.out).mono ?_
          rintro e w191 ⟨rfl, hb⟩
          refine ⟨_, rfl, ?_⟩
          replace HO_24 := rb HO_24 hb
          replace HO_344 := rb HO_344 hb
          replace BK351 := bb BK351 hb
          replace BK385 := bb BK385 hb
          replace BK397 := bb BK397 hb
          replace BK405 := bb BK405 hb
          replace BK409 := bb BK409 hb
          replace BK413 := bb BK413 hb
          replace BK422 := bb BK422 hb
          replace HB := bs HB hb
          (try clear hb); (try clear hk)
          refine hK.out _ _ ⟨bc0 BK385, bc1 BK385⟩ (fun hHeld => ?_)
          clear hK K
          refine norm_ (a' := ?_) ?_ ?_; rotate_left; (show Act.put _ (some 359) _ = _; simp only [sqa, sqb, sqc, sqd, i64_w, i32_w]; rfl)
          refine pu 8 351 (bl 14 2559) HT_.out (v := ?_) (a' := ?_) ?_ ?_ ?_
          rotate_left; (intro w'; go_simp; with_reducible rfl); rotate_left; (simp only [sqa, sqb, sqc, sqd, i64_w, i32_w]; rfl)
          refine pu 9 360 (bl 14 3071) HT_.out (v := ?_) (a' := ?_) ?_ ?_ ?_
          rotate_left; (intro w'; go_simp; with_reducible rfl); rotate_left; (simp only [sqa, sqb, sqc, sqd, i64_w, i32_w]; rfl)
          refine pu 10 361 (bl 14 4095) HT_.out (v := ?_) (a' := ?_) ?_ ?_ ?_
          rotate_left; (intro w'; go_simp; with_reducible rfl); rotate_left; (simp only [sqa, sqb, sqc, sqd, i64_w, i32_w]; rfl)
          exact norm_ (by simp only [putAll, Act.put, List.setIfInBounds_toArray, List.set_cons_zero, List.set_cons_succ]) (hCont (gb422) _ ⟨hHeld, (rk HO_24), (rk HO_344), (bk BK351), (bk BK385), (bk BK397), (bk BK405), (bk BK409), (bk BK413), (bk BK422), GW422.out, GE422.out, NB351_422.out, NB422_351.out, NB385_422.out, NB422_385.out, NB397_422.out, NB422_397.out, NB405_422.out, NB422_405.out, NB409_422.out, NB422_409.out, NB413_422.out, NB422_413.out, (bw HB)⟩)
        rintro gb422 w192 ⟨hS_, h0_, h1_, h2_, h3_, h4_, h5_, h6_, h7_, h8_, h9_, h10_, h11_, h12_, h13_, h14_, h15_, h16_, h17_, h18_, h19_, h20_, h21_, h22_, h23_⟩
        replace HO_24 := Aside0.mk h0_
        replace HO_344 := Aside0.mk h1_
        replace BK351 := Aside0.mk h2_
        replace BK385 := Aside0.mk h3_
        replace BK397 := Aside0.mk h4_
        replace BK405 := Aside0.mk h5_
        replace BK409 := Aside0.mk h6_
        replace BK413 := Aside0.mk h7_
        have BK422 := Aside0.mk h8_
        have GW422 := GeC.mk h9_
        have GE422 := GeC.mk h10_
        have NB351_422 := NeC.mk h11_
        have NB422_351 := NeC.mk h12_
        have NB385_422 := NeC.mk h13_
        have NB422_385 := NeC.mk h14_
        have NB397_422 := NeC.mk h15_
        have NB422_397 := NeC.mk h16_
        have NB405_422 := NeC.mk h17_
        have NB422_405 := NeC.mk h18_
        have NB409_422 := NeC.mk h19_
        have NB422_409 := NeC.mk h20_
        have NB413_422 := NeC.mk h21_
        have NB422_413 := NeC.mk h22_
        replace HB := Aside0.mk h23_
        clear h0_ h1_ h2_ h3_ h4_ h5_ h6_ h7_ h8_ h9_ h10_ h11_ h12_ h13_ h14_ h15_ h16_ h17_ h18_ h19_ h20_ h21_ h22_ h23_
        have hHeld : w192.cell? ⟨gb385, 0, none⟩ = some (.int .i64 t382) ∧ w192.cell? ⟨gb385, 1, none⟩ = some (.int .i64 t383) := hS_
        refine norm_ (a' := ?_) ?_ ?_
        rotate_left
        ·simp only [putAll, Act.put, List.setIfInBounds_toArray, List.set_cons_zero, List.set_cons_succ]
         rfl
        refine one_ (i := 12) (N := none) (bl 14 8191) rfl rfl (one_of HT_.out (by kernel_rfl)) (by decide) (fun K hK => ?_)
        have hs193 : w192.cell? ⟨gb422, 0, none⟩ = some (.int .i64 0) := bc0 BK422
        have hfs193 := blk_frozen BK422.out 0
        have hns193_0 := NB351_422.out
        have hns193_1 := NB385_422.out
        have hns193_2 := NB397_422.out
        have hns193_3 := NB405_422.out
        have hns193_4 := NB409_422.out
        have hns193_5 := NB413_422.out
        have hms193_0 := NB422_351.out
        have hms193_1 := NB422_385.out
        have hms193_2 := NB422_397.out
        have hms193_3 := NB422_405.out
        have hms193_4 := NB422_409.out
        have hms193_5 := NB422_413.out
        have hs194 : w192.cell? ⟨gb422, 1, none⟩ = some (.int .i64 0) := bc1 BK422
        have hfs194 := blk_frozen BK422.out 1
        have hns194_0 := NB351_422.out
        have hns194_1 := NB385_422.out
        have hns194_2 := NB397_422.out
        have hns194_3 := NB405_422.out
        have hns194_4 := NB409_422.out
        have hns194_5 := NB413_422.out
        have hms194_0 := NB422_351.out
        have hms194_1 := NB422_385.out
        have hms194_2 := NB422_397.out
        have hms194_3 := NB422_405.out
        have hms194_4 := NB422_409.out
        have hms194_5 := NB422_413.out
        refine skip_ (w1 := ?_) (by rfl) rfl ?_ ?_
        rotate_left
        ·go_simp
         rfl
        refine hK.out _ _ ⟨((cell_far (p := ⟨gb422, _, none⟩) NB385_422.out _).trans (((cell_far (p := ⟨gb422, _, none⟩) NB385_422.out _).trans (hHeld.1)))), ((cell_far (p := ⟨gb422, _, none⟩) NB385_422.out _).trans (((cell_far (p := ⟨gb422, _, none⟩) NB385_422.out _).trans (hHeld.2))))⟩ (fun hHeld => ?_)
        clear hK K
        refine pu 13 45 (bl 14 16383) HT_.out (v := ?_) (a' := ?_) ?_ ?_ ?_
        rotate_left; (intro w'; go_simp; with_reducible rfl); rotate_left; (simp only [sqa, sqb, sqc, sqd, i64_w, i32_w]; rfl)
        refine done_ (done_of HT_.out (by kernel_rfl)) ?_
        have hnb195 := NB422_351.out
        have hnc195 := NB351_422.out
        have hnb196 := NB422_385.out
        have hnc196 := NB385_422.out
        have hnb197 := NB422_397.out
        have hnc197 := NB397_422.out
        have hnb198 := NB422_405.out
        have hnc198 := NB405_422.out
        have hnb199 := NB422_409.out
        have hnc199 := NB409_422.out
        have hnb200 := NB422_413.out
        have hnc200 := NB413_422.out
        have hcz201_0 := bc0 BK422
        have hcz201_1 := bc1 BK422
        have hfz201_0 := blk_frozen BK422.out 0
        have hfz201_1 := blk_frozen BK422.out 1
        have p423 : 0 ≤ ((ji185) : Int) := of_decide_eq_true ‹_›
        have q423 : (ji185) < (t386.length : Int) := of_decide_eq_true ‹_›
        obtain ⟨ad423, e423, hx423_0⟩ := Kd.at_int (Kd.R_reads' HO_24.out).2.2 (ji185) p423 q423
        obtain rfl : ad418 = ad423 := (by injection e423)
        have hn423_0 : ad418.block ≠ gb422 := Kd.own_blk (Kd.R_ne HO_24.out BK422.out (by decide))
        have hn423_1 : ad418.block ≠ gb422 := Kd.own_blk (Kd.R_ne HO_24.out BK422.out (by decide))
        replace hx423_0 := (cell_far (p := ⟨gb422, 0, none⟩) (by first | (rw [add_block]; exact hn423_0) | (show (Addr.add _ _).block ≠ _; rw [add_block]; exact hn423_0) | exact hn423_0) (.int .i64 t419)).trans hx423_0
        replace hx423_0 := (cell_far (p := ⟨gb422, 1, none⟩) (by first | (rw [add_block]; exact hn423_1) | (show (Addr.add _ _).block ≠ _; rw [add_block]; exact hn423_1) | exact hn423_1) (.int .i64 t420)).trans hx423_0
        clear hn423_0
        clear hn423_1
        replace p423 := eq_true p423
        replace q423 := eq_true q423
        try go_wp2
        (refine Handed.intro k5 ?measure23 ?_; rotate_left; go_step; refine LoopI_mk (by kernel_rfl) ?rel23)
        case measure23 => have := HJ11.out; have := HJ53.out; have := HJ99.out; have := HJ160.out; have := HK5.out; omega
        case rel23 => exact ⟨(wrap64 (x346_5 + 1)), (by first | rfl | (simp; done) | (simp [*]; done)), H', ⟨by have := HJ11.out; have := HJ53.out; have := HJ99.out; have := HJ160.out; have := HK5.out; omega⟩, ⟨by (with_reducible repeat (first | apply Kd.R_alloc | apply Kd.R_drewN | apply Kd.R_drew)); exact Kd.R_mono (Kd.R_far (p := ⟨gb422, 1, none⟩) (Kd.R_far (p := ⟨gb422, 0, none⟩) (Kd.R_types HO_24.out BK422.out (by decide)) (fun _ hk => hk.2) (.int .i64 t419)) (fun _ hk => hk.2) (.int .i64 t420)) (fun _ hk => trivial)⟩, ⟨by (with_reducible repeat (first | apply Kd.R_alloc | apply Kd.R_drewN | apply Kd.R_drew)); exact Kd.R_mono (Kd.R_far (p := ⟨gb422, 1, none⟩) (Kd.R_far (p := ⟨gb422, 0, none⟩) (Kd.R_types HO_344.out BK422.out (by decide)) (fun _ hk => hk.2) (.int .i64 t419)) (fun _ hk => hk.2) (.int .i64 t420)) (fun _ hk => trivial)⟩, ⟨bk BK351⟩, ⟨bk BK385⟩, ⟨bk BK397⟩, ⟨bk BK405⟩, ⟨bk BK409⟩, ⟨bk BK413⟩, ⟨bw HB⟩⟩
    case rest16 =>
    as_aux_lemma =>
    intro u_ wc hcut l_ hl_; (simp only [rl, List.reduceReplicate, List.cons_append, List.nil_append, List.append_nil, Bool.not_true, Bool.not_false, fu, Nat.reduceAdd] at hl_); subst hl_
    clear HC158
    (try clear c1)
    obtain ⟨kq, HA, HJ157, BK351, BK385, BK397, BK405, BK409, BK413, HB⟩ := hcut
    cases kq with
    | zero => exact absurd HA.out (by simp [j8])
    | succ kj157 =>
     have H := HA.out
     clear HA
     simp only [j8] at H
     have HC215 := Aside0.mk H
     clear H
     go_upto_if 384 with (fail)
     refine cutF (rl [4, 1, 41, 4, 20, 110, 3, 161, 3, 210] false) (fun u_ wc => ∃ (kq : Nat), Aside0 (j10 kq l1 = some r) ∧ Aside0 (kq ≤ kj157) ∧ Aside0 (wc.heap[gb351]? = some (.cells #[.int .i64 t349, .int .i64 t350] 49 (0, 0))) ∧ Aside0 (wc.heap[gb385]? = some (.cells #[.int .i64 t382, .int .i64 t383] 49 (0, 0))) ∧ Aside0 (wc.heap[gb397]? = some (.cells #[.int .i64 t394, .int .i64 t395] 49 (0, 0))) ∧ Aside0 (wc.heap[gb405]? = some (.cells #[.int .i64 t402, .int .i64 t403] 49 (0, 0))) ∧ Aside0 (wc.heap[gb409]? = some (.cells #[.int .i64 t406, .int .i64 t407] 49 (0, 0))) ∧ Aside0 (wc.heap[gb413]? = some (.cells #[.int .i64 t410, .int .i64 t411] 49 (0, 0))) ∧ Aside0 (Below w.heap.size w wc)) ?first24 ?rest24
     case first24 =>
      as_aux_lemma =>
      intro J_ K_ hJ_ hK_
      have H := HC215.out
      clear HC215
      by_cases c216 : t399 = true
      rotate_left
      ·replace c216 := Bool.eq_false_iff.mpr c216
       subst c216
       have H1 : (j10 kj157 l1) = some r := by rw [if_neg (show ¬ (false = true) by decide)] at H; exact H
       clear H
       have H := H1
       clear H1
       have H' := Aside0.mk H
       clear H
       go_wp2
       (refine Met.intro ?_; go_step; refine Cut_mk (by kernel_rfl) ?rel25)
       case rel25 => exact ⟨_, H', ⟨by first | exact Nat.le_refl _ | exact Nat.le_of_succ_le HJ157.out | exact Nat.le_of_succ_le (Nat.le_trans HJ157.out (Nat.le_of_succ_le HJ99.out)) | exact Nat.le_of_succ_le (Nat.le_trans (Nat.le_trans HJ157.out (Nat.le_of_succ_le HJ99.out)) (Nat.le_of_succ_le HJ53.out)) | exact Nat.le_of_succ_le (Nat.le_trans (Nat.le_trans (Nat.le_trans HJ157.out (Nat.le_of_succ_le HJ99.out)) (Nat.le_of_succ_le HJ53.out)) (Nat.le_of_succ_le HJ11.out)) | exact Nat.le_of_succ_le HJ99.out | exact Nat.le_of_succ_le (Nat.le_trans HJ99.out (Nat.le_of_succ_le HJ53.out)) | exact Nat.le_of_succ_le (Nat.le_trans (Nat.le_trans HJ99.out (Nat.le_of_succ_le HJ53.out)) (Nat.le_of_succ_le HJ11.out)) | (have := HJ11.out; have := HJ53.out; have := HJ99.out; have := HJ157.out; omega)⟩, ⟨bk BK351⟩, ⟨bk BK385⟩, ⟨bk BK397⟩, ⟨bk BK405⟩, ⟨bk BK409⟩, ⟨bk BK413⟩, ⟨bw HB⟩⟩
      subst c216
      have H1 : ((impl_ClockAfter.f kj157 t394 t395 t398).bind fun bt424 => (if bt424.2.2 = true then (j9 kj157 l1 t396 t398 (decide (bt424.1 > t396)) t394 t395) else (j9 kj157 l1 t396 t398 true t394 t395))) = some r := by rw [if_pos rfl] at H; exact H
      clear H
      have H := H1
      clear H1
      replace H := Option.bind_eq_some_iff.mp H
      obtain ⟨⟨t424, t425, t426⟩, A2170, H⟩ := H
      replace H : (if t426 = true then (j9 kj157 l1 t396 t398 (decide (t424 > t396)) t394 t395) else (j9 kj157 l1 t396 t398 true t394 t395)) = some r := H
      have A217 := Aside0.mk A2170
      clear A2170
      have HC218 := Aside0.mk H
      clear H
      have hnb219 := NB397_351.out
      have hnc219 := NB351_397.out
      have hnb220 := NB397_385.out
      have hnc220 := NB385_397.out
      have hnb221 := NB397_405.out
      have hnc221 := NB405_397.out
      have hnb222 := NB397_409.out
      have hnc222 := NB409_397.out
      have hnb223 := NB397_413.out
      have hnc223 := NB413_397.out
      have hcz224_0 := bc0 BK397
      have hcz224_1 := bc1 BK397
      have hfz224_0 := blk_frozen BK397.out 0
      have hfz224_1 := blk_frozen BK397.out 1
      go_upto_region 48 with (first | ((with_reducible refine gate_callee (f := 39) rfl ?_); refine gl 388 Try.func39 #[.agg #[.int .i64 t394, .int .i64 t395], .int .i64 t398] ?_; (with_reducible refine (impl_ClockAfter.calls kj157 t394 t395 t398 t424 t425 t426 _ A217.out).mono ?_); rintro e w225 ⟨rfl, hb⟩; refine ⟨_, rfl, ?_⟩; replace BK351 := bb BK351 hb; replace BK385 := bb BK385 hb; replace BK397 := bb BK397 hb; replace BK405 := bb BK405 hb; replace BK409 := bb BK409 hb; replace BK413 := bb BK413 hb; replace HB := bs HB hb; (try clear hb)) | ((with_reducible refine gate_dst (N := 46) rfl ?_); (try (refine gate_guard (by rfl) ?_; dsimp only)); refine bx 46 #[.int .i64 0, .int .i64 0] 49 ?_; intro gb427 hg w226 hbox hb; have BK427 := Aside0.mk (hbox); have GW427 := ge HB hg; have GE427 := ge HB hg; replace HB := bs HB hb; have NB351_427 := nl BK351 hg; have NB427_351 := nr BK351 hg; replace BK351 := bb BK351 hb; have NB385_427 := nl BK385 hg; have NB427_385 := nr BK385 hg; replace BK385 := bb BK385 hb; have NB397_427 := nl BK397 hg; have NB427_397 := nr BK397 hg; replace BK397 := bb BK397 hb; have NB405_427 := nl BK405 hg; have NB427_405 := nr BK405 hg; replace BK405 := bb BK405 hb; have NB409_427 := nl BK409 hg; have NB427_409 := nr BK409 hg; replace BK409 := bb BK409 hb; have NB413_427 := nl BK413 hg; have NB427_413 := nr BK413 hg; replace BK413 := bb BK413 hb; clear hb hbox hg; have hnb227 := NB427_351.out; have hnc227 := NB351_427.out; have hnb228 := NB427_385.out; have hnc228 := NB385_427.out; have hnb229 := NB427_397.out; have hnc229 := NB397_427.out; have hnb230 := NB427_405.out; have hnc230 := NB405_427.out; have hnb231 := NB427_409.out; have hnc231 := NB409_427.out; have hnb232 := NB427_413.out; have hnc232 := NB413_427.out; have hcz233_0 := bc0 BK427; have hcz233_1 := bc1 BK427; have hfz233_0 := blk_frozen BK427.out 0; have hfz233_1 := blk_frozen BK427.out 1))
      (try simp only [sqa, sqb, sqc, sqd])
      refine cutF (rl [70, 110, 3, 161, 3, 210] false) (fun u_ wc => ∃ (kq : Nat) (x398_217 : Bool), (u_ 398) = .bool x398_217 ∧ Aside0 (j9 kq l1 t396 t398 x398_217 t394 t395 = some r) ∧ Aside0 (kq ≤ kj157) ∧ Aside0 (wc.heap[gb351]? = some (.cells #[.int .i64 t349, .int .i64 t350] 49 (0, 0))) ∧ Aside0 (wc.heap[gb385]? = some (.cells #[.int .i64 t382, .int .i64 t383] 49 (0, 0))) ∧ Aside0 (wc.heap[gb397]? = some (.cells #[.int .i64 t394, .int .i64 t395] 49 (0, 0))) ∧ Aside0 (wc.heap[gb405]? = some (.cells #[.int .i64 t402, .int .i64 t403] 49 (0, 0))) ∧ Aside0 (wc.heap[gb409]? = some (.cells #[.int .i64 t406, .int .i64 t407] 49 (0, 0))) ∧ Aside0 (wc.heap[gb413]? = some (.cells #[.int .i64 t410, .int .i64 t411] 49 (0, 0))) ∧ Aside0 (wc.heap[gb427]? = some (.cells #[.int .i64 t424, .int .i64 t425] 49 (0, 0))) ∧ Aside0 (Below w.heap.size w wc)) ?first26 ?rest26
      case first26 =>
       as_aux_lemma =>
       intro J_ K_ hJ_ hK_
       have H := HC218.out
       clear HC218
       by_cases c234 : t426 = true
       rotate_left
       ·replace c234 := Bool.eq_false_iff.mpr c234
        subst c234
        have H1 : (j9 kj157 l1 t396 t398 true t394 t395) = some r := by rw [if_neg (show ¬ (false = true) by decide)] at H; exact H
        clear H
        have H := H1
        clear H1
        exact absurd H (by rw [hrt.out]; cases kj157 <;> simp [j9])
       subst c234
       have H1 : (j9 kj157 l1 t396 t398 (decide (t424 > t396)) t394 t395) = some r := by rw [if_pos rfl] at H; exact H
       clear H
       have H := H1
       clear H1
       have H' := Aside0.mk H
       clear H
       have hnb235 := NB427_351.out
       have hnc235 := NB351_427.out
       have hnb236 := NB427_385.out
       have hnc236 := NB385_427.out
       have hnb237 := NB427_397.out
       have hnc237 := NB397_427.out
       have hnb238 := NB427_405.out
       have hnc238 := NB405_427.out
       have hnb239 := NB427_409.out
       have hnc239 := NB409_427.out
       have hnb240 := NB427_413.out
       have hnc240 := NB413_427.out
       have hcz241_0 := bc0 BK427
       have hcz241_1 := bc1 BK427
       have hfz241_0 := blk_frozen BK427.out 0
       have hfz241_1 := blk_frozen BK427.out 1
       go_wp2
       (refine Met.intro ?_; go_step; refine Cut_mk (by kernel_rfl) ?rel27)
       case rel27 => exact ⟨_, (decide (t424 > t396)), (by first | rfl | (simp; done) | (simp [*]; done)), H', ⟨by first | exact Nat.le_refl _ | exact Nat.le_of_succ_le HJ157.out | exact Nat.le_of_succ_le (Nat.le_trans HJ157.out (Nat.le_of_succ_le HJ99.out)) | exact Nat.le_of_succ_le (Nat.le_trans (Nat.le_trans HJ157.out (Nat.le_of_succ_le HJ99.out)) (Nat.le_of_succ_le HJ53.out)) | exact Nat.le_of_succ_le (Nat.le_trans (Nat.le_trans (Nat.le_trans HJ157.out (Nat.le_of_succ_le HJ99.out)) (Nat.le_of_succ_le HJ53.out)) (Nat.le_of_succ_le HJ11.out)) | exact Nat.le_of_succ_le HJ99.out | exact Nat.le_of_succ_le (Nat.le_trans HJ99.out (Nat.le_of_succ_le HJ53.out)) | exact Nat.le_of_succ_le (Nat.le_trans (Nat.le_trans HJ99.out (Nat.le_of_succ_le HJ53.out)) (Nat.le_of_succ_le HJ11.out)) | (have := HJ11.out; have := HJ53.out; have := HJ99.out; have := HJ157.out; omega)⟩, ⟨bk BK351⟩, ⟨bk BK385⟩, ⟨bk BK397⟩, ⟨bk BK405⟩, ⟨bk BK409⟩, ⟨bk BK413⟩, ⟨by (with_reducible repeat (first | refine blk_drewN ?_ _ | refine blk_drew ?_ | refine blk_alloc ?_ _)); refine blk_put (cs := #[.int .i64 t424, .int .i64 0]) ?_ 1 _ rfl; (with_reducible repeat (first | refine blk_drewN ?_ _ | refine blk_drew ?_ | refine blk_alloc ?_ _)); refine blk_put (cs := #[.int .i64 0, .int .i64 0]) ?_ 0 _ rfl; exact bk BK427⟩, ⟨bw HB⟩⟩
      case rest26 =>
      as_aux_lemma =>
      intro u_ wc hcut l_ hl_; (simp only [rl, List.reduceReplicate, List.cons_append, List.nil_append, List.append_nil, Bool.not_true, Bool.not_false, fu, Nat.reduceAdd] at hl_); subst hl_; generalize u_ 398 = v398 at hcut ⊢
      clear HC218
      (try clear c1); (try clear c216); (try clear hcz224_0); (try clear hcz224_1); (try clear hcz233_0); (try clear hcz233_1); (try clear hfz224_0); (try clear hfz224_1); (try clear hfz233_0); (try clear hfz233_1)
      obtain ⟨kq, x398_217, rfl, HA, HJ217, BK351, BK385, BK397, BK405, BK409, BK413, BK427, HB⟩ := hcut
      cases kq with
      | zero => exact absurd HA.out (by simp [j9])
      | succ kj217 =>
       have H := HA.out
       clear HA
       simp only [j9] at H
       by_cases c242 : x398_217 = true
       ·subst c242
        have H1 : (some false) = some r := by rw [if_pos rfl] at H; exact H
        clear H
        have H := H1
        clear H1
        exact absurd ((Option.some.inj H).trans hrt.out) (by decide)
       replace c242 := Bool.eq_false_iff.mpr c242
       subst c242
       have H1 : (if t398 > 0 then ((impl_ClockAfter.f kj217 t394 t395 (wrap64 (t398 - 1))).bind fun bt428 => (if bt428.2.2 = true then (if bt428.1 ≤ t396 then (some false) else (j10 kj217 l1)) else (some false))) else (j10 kj217 l1)) = some r := by rw [if_neg (show ¬ (false = true) by decide)] at H; exact H
       clear H
       have H := H1
       clear H1
       by_cases c243 : t398 > 0
       rotate_left
       ·rw [if_neg c243] at H
        have c243b0 : decide (0 < t398) = false := decide_eq_false c243
        clear c243
        have H' := Aside0.mk H
        clear H
        go_wp2
        (refine Met.intro ?_; go_step; refine Cut_mk (by kernel_rfl) ?rel28)
        case rel28 => exact ⟨_, H', ⟨by first | exact Nat.le_refl _ | exact Nat.le_of_succ_le HJ217.out | exact Nat.le_of_succ_le (Nat.le_trans HJ217.out (Nat.le_of_succ_le HJ157.out)) | exact Nat.le_of_succ_le (Nat.le_trans (Nat.le_trans HJ217.out (Nat.le_of_succ_le HJ157.out)) (Nat.le_of_succ_le HJ99.out)) | exact Nat.le_of_succ_le (Nat.le_trans (Nat.le_trans (Nat.le_trans HJ217.out (Nat.le_of_succ_le HJ157.out)) (Nat.le_of_succ_le HJ99.out)) (Nat.le_of_succ_le HJ53.out)) | exact Nat.le_of_succ_le (Nat.le_trans (Nat.le_trans (Nat.le_trans (Nat.le_trans HJ217.out (Nat.le_of_succ_le HJ157.out)) (Nat.le_of_succ_le HJ99.out)) (Nat.le_of_succ_le HJ53.out)) (Nat.le_of_succ_le HJ11.out)) | exact Nat.le_of_succ_le HJ157.out | exact Nat.le_of_succ_le (Nat.le_trans HJ157.out (Nat.le_of_succ_le HJ99.out)) | (have := HJ11.out; have := HJ53.out; have := HJ99.out; have := HJ157.out; have := HJ217.out; omega)⟩, ⟨bk BK351⟩, ⟨bk BK385⟩, ⟨bk BK397⟩, ⟨bk BK405⟩, ⟨bk BK409⟩, ⟨bk BK413⟩, ⟨bw HB⟩⟩
       rw [if_pos c243] at H
       have c243b0 : decide (0 < t398) = true := decide_eq_true c243
       clear c243
       replace H := Option.bind_eq_some_iff.mp H
       obtain ⟨⟨t428, t429, t430⟩, A2440, H⟩ := H
       replace H : (if t430 = true then (if t428 ≤ t396 then (some false) else (j10 kj217 l1)) else (some false)) = some r := H
       have A244 := Aside0.mk A2440
       clear A2440
       by_cases c245 : t430 = true
       rotate_left
       ·replace c245 := Bool.eq_false_iff.mpr c245
        subst c245
        have H1 : (some false) = some r := by rw [if_neg (show ¬ (false = true) by decide)] at H; exact H
        clear H
        have H := H1
        clear H1
        exact absurd ((Option.some.inj H).trans hrt.out) (by decide)
       subst c245
       have H1 : (if t428 ≤ t396 then (some false) else (j10 kj217 l1)) = some r := by rw [if_pos rfl] at H; exact H
       clear H
       have H := H1
       clear H1
       by_cases c246 : t428 ≤ t396
       ·rw [if_pos c246] at H
        have c246b0 : decide (t428 ≤ t396) = true := decide_eq_true c246
        clear c246
        exact absurd ((Option.some.inj H).trans hrt.out) (by decide)
       rw [if_neg c246] at H
       have c246b0 : decide (t428 ≤ t396) = false := decide_eq_false c246
       clear c246
       have H' := Aside0.mk H
       clear H
       have hnb247 := NB397_351.out
       have hnc247 := NB351_397.out
       have hnb248 := NB397_385.out
       have hnc248 := NB385_397.out
       have hnb249 := NB397_405.out
       have hnc249 := NB405_397.out
       have hnb250 := NB397_409.out
       have hnc250 := NB409_397.out
       have hnb251 := NB397_413.out
       have hnc251 := NB413_397.out
       have hnb252 := NB397_427.out
       have hnc252 := NB427_397.out
       have hcz253_0 := bc0 BK397
       have hcz253_1 := bc1 BK397
       have hfz253_0 := blk_frozen BK397.out 0
       have hfz253_1 := blk_frozen BK397.out 1
       go_wp2_with (first | ((with_reducible refine gate_callee (f := 39) rfl ?_); refine gl 405 Try.func39 #[.agg #[.int .i64 t394, .int .i64 t395], .int .i64 (wrap64 (t398 - 1))] ?_; (with_reducible refine (impl_ClockAfter.calls kj217 t394 t395 (wrap64 (t398 - 1)) t428 t429 true _ A244.out).mono ?_); rintro e w254 ⟨rfl, hb⟩; refine ⟨_, rfl, ?_⟩; replace BK351 := bb BK351 hb; replace BK385 := bb BK385 hb; replace BK397 := bb BK397 hb; replace BK405 := bb BK405 hb; replace BK409 := bb BK409 hb; replace BK413 := bb BK413 hb; replace BK427 := bb BK427 hb; replace HB := bs HB hb; (try clear hb)) | ((with_reducible refine gate_dst (N := 48) rfl ?_); (try (refine gate_guard (by rfl) ?_; dsimp only)); refine bx 48 #[.int .i64 0, .int .i64 0] 49 ?_; intro gb431 hg w255 hbox hb; have BK431 := Aside0.mk (hbox); have GW431 := ge HB hg; have GE431 := ge HB hg; replace HB := bs HB hb; have NB351_431 := nl BK351 hg; have NB431_351 := nr BK351 hg; replace BK351 := bb BK351 hb; have NB385_431 := nl BK385 hg; have NB431_385 := nr BK385 hg; replace BK385 := bb BK385 hb; have NB397_431 := nl BK397 hg; have NB431_397 := nr BK397 hg; replace BK397 := bb BK397 hb; have NB405_431 := nl BK405 hg; have NB431_405 := nr BK405 hg; replace BK405 := bb BK405 hb; have NB409_431 := nl BK409 hg; have NB431_409 := nr BK409 hg; replace BK409 := bb BK409 hb; have NB413_431 := nl BK413 hg; have NB431_413 := nr BK413 hg; replace BK413 := bb BK413 hb; have NB427_431 := nl BK427 hg; have NB431_427 := nr BK427 hg; replace BK427 := bb BK427 hb; clear hb hbox hg; have hnb256 := NB431_351.out; have hnc256 := NB351_431.out; have hnb257 := NB431_385.out; have hnc257 := NB385_431.out; have hnb258 := NB431_397.out; have hnc258 := NB397_431.out; have hnb259 := NB431_405.out; have hnc259 := NB405_431.out; have hnb260 := NB431_409.out; have hnc260 := NB409_431.out; have hnb261 := NB431_413.out; have hnc261 := NB413_431.out; have hnb262 := NB431_427.out; have hnc262 := NB427_431.out; have hcz263_0 := bc0 BK431; have hcz263_1 := bc1 BK431; have hfz263_0 := blk_frozen BK431.out 0; have hfz263_1 := blk_frozen BK431.out 1))
       (refine Met.intro ?_; go_step; refine Cut_mk (by kernel_rfl) ?rel29)
       case rel29 => exact ⟨_, H', ⟨by first | exact Nat.le_refl _ | exact Nat.le_of_succ_le HJ217.out | exact Nat.le_of_succ_le (Nat.le_trans HJ217.out (Nat.le_of_succ_le HJ157.out)) | exact Nat.le_of_succ_le (Nat.le_trans (Nat.le_trans HJ217.out (Nat.le_of_succ_le HJ157.out)) (Nat.le_of_succ_le HJ99.out)) | exact Nat.le_of_succ_le (Nat.le_trans (Nat.le_trans (Nat.le_trans HJ217.out (Nat.le_of_succ_le HJ157.out)) (Nat.le_of_succ_le HJ99.out)) (Nat.le_of_succ_le HJ53.out)) | exact Nat.le_of_succ_le (Nat.le_trans (Nat.le_trans (Nat.le_trans (Nat.le_trans HJ217.out (Nat.le_of_succ_le HJ157.out)) (Nat.le_of_succ_le HJ99.out)) (Nat.le_of_succ_le HJ53.out)) (Nat.le_of_succ_le HJ11.out)) | exact Nat.le_of_succ_le HJ157.out | exact Nat.le_of_succ_le (Nat.le_trans HJ157.out (Nat.le_of_succ_le HJ99.out)) | (have := HJ11.out; have := HJ53.out; have := HJ99.out; have := HJ157.out; have := HJ217.out; omega)⟩, ⟨bk BK351⟩, ⟨bk BK385⟩, ⟨bk BK397⟩, ⟨bk BK405⟩, ⟨bk BK409⟩, ⟨bk BK413⟩, ⟨bw HB⟩⟩
     case rest24 =>
     as_aux_lemma =>
     intro u_ wc hcut l_ hl_; (simp only [rl, List.reduceReplicate, List.cons_append, List.nil_append, List.append_nil, Bool.not_true, Bool.not_false, fu, Nat.reduceAdd] at hl_); subst hl_
     clear HC215
     (try clear c1)
     obtain ⟨kq, HA, HJ214, BK351, BK385, BK397, BK405, BK409, BK413, HB⟩ := hcut
     cases kq with
     | zero => exact absurd HA.out (by simp [j10])
     | succ kj214 =>
      have H := HA.out
      clear HA
      simp only [j10] at H
      replace H := Option.bind_eq_some_iff.mp H
      obtain ⟨⟨t432, t433⟩, A2640, H⟩ := H
      replace H : ((impl_LeastLevelFor.f kj214 t432 t433).bind fun bt434 => ((spec_LeastLevelFor.f kj214 t432 t433).bind fun bt436 => ((spec_DrawFirstMeeting.f l1).bind fun bt438 => ((impl_FirstMeeting.f kj214 bt438.1 bt438.2.1 bt438.2.2.1 bt438.2.2.2).bind fun bt444 => ((spec_FirstMeeting.f kj214 bt438.1 bt438.2.1 bt438.2.2.1 bt438.2.2.2).bind fun bt446 => (if (bt434.2 != bt436.2) = true then (j11 kj214 t432 t433 bt434.1 bt434.2 bt444.1 bt444.2 true bt438.1 bt438.2.1 bt438.2.2.1 bt438.2.2.2) else (if bt434.1 = bt436.1 then (if (bt444.2 != bt446.2) = true then (j11 kj214 t432 t433 bt434.1 bt434.2 bt444.1 bt444.2 true bt438.1 bt438.2.1 bt438.2.2.1 bt438.2.2.2) else (j11 kj214 t432 t433 bt434.1 bt434.2 bt444.1 bt444.2 (bt444.1 != bt446.1) bt438.1 bt438.2.1 bt438.2.2.1 bt438.2.2.2)) else (j11 kj214 t432 t433 bt434.1 bt434.2 bt444.1 bt444.2 true bt438.1 bt438.2.1 bt438.2.2.1 bt438.2.2.2)))))))) = some r := H
      have A264 := Aside0.mk A2640
      clear A2640
      replace H := Option.bind_eq_some_iff.mp H
      obtain ⟨⟨t434, t435⟩, A2650, H⟩ := H
      replace H : ((spec_LeastLevelFor.f kj214 t432 t433).bind fun bt436 => ((spec_DrawFirstMeeting.f l1).bind fun bt438 => ((impl_FirstMeeting.f kj214 bt438.1 bt438.2.1 bt438.2.2.1 bt438.2.2.2).bind fun bt444 => ((spec_FirstMeeting.f kj214 bt438.1 bt438.2.1 bt438.2.2.1 bt438.2.2.2).bind fun bt446 => (if (t435 != bt436.2) = true then (j11 kj214 t432 t433 t434 t435 bt444.1 bt444.2 true bt438.1 bt438.2.1 bt438.2.2.1 bt438.2.2.2) else (if t434 = bt436.1 then (if (bt444.2 != bt446.2) = true then (j11 kj214 t432 t433 t434 t435 bt444.1 bt444.2 true bt438.1 bt438.2.1 bt438.2.2.1 bt438.2.2.2) else (j11 kj214 t432 t433 t434 t435 bt444.1 bt444.2 (bt444.1 != bt446.1) bt438.1 bt438.2.1 bt438.2.2.1 bt438.2.2.2)) else (j11 kj214 t432 t433 t434 t435 bt444.1 bt444.2 true bt438.1 bt438.2.1 bt438.2.2.1 bt438.2.2.2))))))) = some r := H
      have A265 := Aside0.mk A2650
      clear A2650
      replace H := Option.bind_eq_some_iff.mp H
      obtain ⟨⟨t436, t437⟩, A2660, H⟩ := H
      replace H : ((spec_DrawFirstMeeting.f l1).bind fun bt438 => ((impl_FirstMeeting.f kj214 bt438.1 bt438.2.1 bt438.2.2.1 bt438.2.2.2).bind fun bt444 => ((spec_FirstMeeting.f kj214 bt438.1 bt438.2.1 bt438.2.2.1 bt438.2.2.2).bind fun bt446 => (if (t435 != t437) = true then (j11 kj214 t432 t433 t434 t435 bt444.1 bt444.2 true bt438.1 bt438.2.1 bt438.2.2.1 bt438.2.2.2) else (if t434 = t436 then (if (bt444.2 != bt446.2) = true then (j11 kj214 t432 t433 t434 t435 bt444.1 bt444.2 true bt438.1 bt438.2.1 bt438.2.2.1 bt438.2.2.2) else (j11 kj214 t432 t433 t434 t435 bt444.1 bt444.2 (bt444.1 != bt446.1) bt438.1 bt438.2.1 bt438.2.2.1 bt438.2.2.2)) else (j11 kj214 t432 t433 t434 t435 bt444.1 bt444.2 true bt438.1 bt438.2.1 bt438.2.2.1 bt438.2.2.2)))))) = some r := H
      have A266 := Aside0.mk A2660
      clear A2660
      replace H := Option.bind_eq_some_iff.mp H
      obtain ⟨⟨t438, t439, t440, t441⟩, A2670, H⟩ := H
      replace H : ((impl_FirstMeeting.f kj214 t438 t439 t440 t441).bind fun bt444 => ((spec_FirstMeeting.f kj214 t438 t439 t440 t441).bind fun bt446 => (if (t435 != t437) = true then (j11 kj214 t432 t433 t434 t435 bt444.1 bt444.2 true t438 t439 t440 t441) else (if t434 = t436 then (if (bt444.2 != bt446.2) = true then (j11 kj214 t432 t433 t434 t435 bt444.1 bt444.2 true t438 t439 t440 t441) else (j11 kj214 t432 t433 t434 t435 bt444.1 bt444.2 (bt444.1 != bt446.1) t438 t439 t440 t441)) else (j11 kj214 t432 t433 t434 t435 bt444.1 bt444.2 true t438 t439 t440 t441))))) = some r := H
      have A267 := Aside0.mk A2670
      clear A2670
      replace H := Option.bind_eq_some_iff.mp H
      obtain ⟨⟨t444, t445⟩, A2680, H⟩ := H
      replace H : ((spec_FirstMeeting.f kj214 t438 t439 t440 t441).bind fun bt446 => (if (t435 != t437) = true then (j11 kj214 t432 t433 t434 t435 t444 t445 true t438 t439 t440 t441) else (if t434 = t436 then (if (t445 != bt446.2) = true then (j11 kj214 t432 t433 t434 t435 t444 t445 true t438 t439 t440 t441) else (j11 kj214 t432 t433 t434 t435 t444 t445 (t444 != bt446.1) t438 t439 t440 t441)) else (j11 kj214 t432 t433 t434 t435 t444 t445 true t438 t439 t440 t441)))) = some r := H
      have A268 := Aside0.mk A2680
      clear A2680
      replace H := Option.bind_eq_some_iff.mp H
      obtain ⟨⟨t446, t447⟩, A2690, H⟩ := H
      replace H : (if (t435 != t437) = true then (j11 kj214 t432 t433 t434 t435 t444 t445 true t438 t439 t440 t441) else (if t434 = t436 then (if (t445 != t447) = true then (j11 kj214 t432 t433 t434 t435 t444 t445 true t438 t439 t440 t441) else (j11 kj214 t432 t433 t434 t435 t444 t445 (t444 != t446) t438 t439 t440 t441)) else (j11 kj214 t432 t433 t434 t435 t444 t445 true t438 t439 t440 t441))) = some r := H
      have A269 := Aside0.mk A2690
      clear A2690
      have HC270 := Aside0.mk H
      clear H
      go_upto_region 60 with (first | ((with_reducible refine gate_callee (f := 48) rfl ?_); refine gl 418 Try.func48 #[.slice A1 l1.length c1] ?_; (with_reducible refine (spec_DrawLeastLevelFor.calls _ _ l1 t432 t433 _ ?side1 ?side2 A264.out).mono ?_); (case side1 => exact ck HR1 HB); (case side2 => exact HC1.out); rintro e w271 ⟨rfl, hb⟩; refine ⟨_, rfl, ?_⟩; replace BK351 := bb BK351 hb; replace BK385 := bb BK385 hb; replace BK397 := bb BK397 hb; replace BK405 := bb BK405 hb; replace BK409 := bb BK409 hb; replace BK413 := bb BK413 hb; replace HB := bs HB hb; (try clear hb)) | ((with_reducible refine gate_callee (f := 49) rfl ?_); refine gl 424 Try.func49 #[.int .i64 t432, .int .i64 t433] ?_; (with_reducible refine (impl_LeastLevelFor.calls kj214 t432 t433 t434 t435 _ A265.out).mono ?_); rintro e w272 ⟨rfl, hb⟩; refine ⟨_, rfl, ?_⟩; replace BK351 := bb BK351 hb; replace BK385 := bb BK385 hb; replace BK397 := bb BK397 hb; replace BK405 := bb BK405 hb; replace BK409 := bb BK409 hb; replace BK413 := bb BK413 hb; replace HB := bs HB hb; (try clear hb)) | ((with_reducible refine gate_callee (f := 50) rfl ?_); refine gl 430 Try.func50 #[.int .i64 t432, .int .i64 t433] ?_; (with_reducible refine (spec_LeastLevelFor.calls kj214 t432 t433 t436 t437 _ A266.out).mono ?_); rintro e w273 ⟨rfl, hb⟩; refine ⟨_, rfl, ?_⟩; replace BK351 := bb BK351 hb; replace BK385 := bb BK385 hb; replace BK397 := bb BK397 hb; replace BK405 := bb BK405 hb; replace BK409 := bb BK409 hb; replace BK413 := bb BK413 hb; replace HB := bs HB hb; (try clear hb)) | ((with_reducible refine gate_callee (f := 51) rfl ?_); refine gl 435 Try.func51 #[.slice A1 l1.length c1] ?_; (with_reducible refine (spec_DrawFirstMeeting.calls _ _ l1 t438 t439 t440 t441 _ ?side1 ?side2 A267.out).mono ?_); (case side1 => exact ck HR1 HB); (case side2 => exact HC1.out); rintro e w274 ⟨rfl, hb⟩; refine ⟨_, rfl, ?_⟩; replace BK351 := bb BK351 hb; replace BK385 := bb BK385 hb; replace BK397 := bb BK397 hb; replace BK405 := bb BK405 hb; replace BK409 := bb BK409 hb; replace BK413 := bb BK413 hb; replace HB := bs HB hb; (try clear hb)) | ((with_reducible refine gate_dst (N := 56) rfl ?_); (try (refine gate_guard (by rfl) ?_; dsimp only)); refine bx 56 #[.int .i64 0, .int .i64 0] 49 ?_; intro gb442 hg w275 hbox hb; have BK442 := Aside0.mk (hbox); have GW442 := ge HB hg; have GE442 := ge HB hg; replace HB := bs HB hb; have NB351_442 := nl BK351 hg; have NB442_351 := nr BK351 hg; replace BK351 := bb BK351 hb; have NB385_442 := nl BK385 hg; have NB442_385 := nr BK385 hg; replace BK385 := bb BK385 hb; have NB397_442 := nl BK397 hg; have NB442_397 := nr BK397 hg; replace BK397 := bb BK397 hb; have NB405_442 := nl BK405 hg; have NB442_405 := nr BK405 hg; replace BK405 := bb BK405 hb; have NB409_442 := nl BK409 hg; have NB442_409 := nr BK409 hg; replace BK409 := bb BK409 hb; have NB413_442 := nl BK413 hg; have NB442_413 := nr BK413 hg; replace BK413 := bb BK413 hb; clear hb hbox hg) | ((with_reducible refine gate_dst (N := 57) rfl ?_); (try (refine gate_guard (by rfl) ?_; dsimp only)); refine bx 57 #[.int .i64 0, .int .i64 0] 49 ?_; intro gb443 hg w276 hbox hb; have BK443 := Aside0.mk (hbox); have GW443 := ge HB hg; have GE443 := ge HB hg; replace HB := bs HB hb; have NB351_443 := nl BK351 hg; have NB443_351 := nr BK351 hg; replace BK351 := bb BK351 hb; have NB385_443 := nl BK385 hg; have NB443_385 := nr BK385 hg; replace BK385 := bb BK385 hb; have NB397_443 := nl BK397 hg; have NB443_397 := nr BK397 hg; replace BK397 := bb BK397 hb; have NB405_443 := nl BK405 hg; have NB443_405 := nr BK405 hg; replace BK405 := bb BK405 hb; have NB409_443 := nl BK409 hg; have NB443_409 := nr BK409 hg; replace BK409 := bb BK409 hb; have NB413_443 := nl BK413 hg; have NB443_413 := nr BK413 hg; replace BK413 := bb BK413 hb; have NB442_443 := nl BK442 hg; have NB443_442 := nr BK442 hg; replace BK442 := bb BK442 hb; clear hb hbox hg; have hnb277 := NB442_351.out; have hnc277 := NB351_442.out; have hnb278 := NB442_385.out; have hnc278 := NB385_442.out; have hnb279 := NB442_397.out; have hnc279 := NB397_442.out; have hnb280 := NB442_405.out; have hnc280 := NB405_442.out; have hnb281 := NB442_409.out; have hnc281 := NB409_442.out; have hnb282 := NB442_413.out; have hnc282 := NB413_442.out; have hnb283 := NB442_443.out; have hnc283 := NB443_442.out; have hcz284_0 := bc0 BK442; have hcz284_1 := bc1 BK442; have hfz284_0 := blk_frozen BK442.out 0; have hfz284_1 := blk_frozen BK442.out 1; have hnb285 := NB443_351.out; have hnc285 := NB351_443.out; have hnb286 := NB443_385.out; have hnc286 := NB385_443.out; have hnb287 := NB443_397.out; have hnc287 := NB397_443.out; have hnb288 := NB443_405.out; have hnc288 := NB405_443.out; have hnb289 := NB443_409.out; have hnc289 := NB409_443.out; have hnb290 := NB443_413.out; have hnc290 := NB413_443.out; have hcz291_0 := bc0 BK443; have hcz291_1 := bc1 BK443; have hfz291_0 := blk_frozen BK443.out 0; have hfz291_1 := blk_frozen BK443.out 1) | ((with_reducible refine gate_callee (f := 52) rfl ?_); refine gl 441 Try.func52 #[.agg #[.int .i64 t438, .int .i64 t439], .agg #[.int .i64 t440, .int .i64 t441]] ?_; (with_reducible refine (impl_FirstMeeting.calls kj214 t438 t439 t440 t441 t444 t445 _ A268.out).mono ?_); rintro e w292 ⟨rfl, hb⟩; refine ⟨_, rfl, ?_⟩; replace BK351 := bb BK351 hb; replace BK385 := bb BK385 hb; replace BK397 := bb BK397 hb; replace BK405 := bb BK405 hb; replace BK409 := bb BK409 hb; replace BK413 := bb BK413 hb; replace BK442 := Aside0.mk (blk_below (g := gb442) (o := .cells #[.int .i64 t438, .int .i64 t439] 49 (0, 0)) (by (with_reducible repeat (first | refine blk_drewN ?_ _ | refine blk_drew ?_ | refine blk_alloc ?_ _)); refine blk_far ?_ NB442_443.out _; (with_reducible repeat (first | refine blk_drewN ?_ _ | refine blk_drew ?_ | refine blk_alloc ?_ _)); refine blk_far ?_ NB442_443.out _; (with_reducible repeat (first | refine blk_drewN ?_ _ | refine blk_drew ?_ | refine blk_alloc ?_ _)); refine blk_put (cs := #[.int .i64 t438, .int .i64 0]) ?_ 1 _ rfl; (with_reducible repeat (first | refine blk_drewN ?_ _ | refine blk_drew ?_ | refine blk_alloc ?_ _)); refine blk_put (cs := #[.int .i64 0, .int .i64 0]) ?_ 0 _ rfl; exact bk BK442) hb); replace BK443 := Aside0.mk (blk_below (g := gb443) (o := .cells #[.int .i64 t440, .int .i64 t441] 49 (0, 0)) (by (with_reducible repeat (first | refine blk_drewN ?_ _ | refine blk_drew ?_ | refine blk_alloc ?_ _)); refine blk_put (cs := #[.int .i64 t440, .int .i64 0]) ?_ 1 _ rfl; (with_reducible repeat (first | refine blk_drewN ?_ _ | refine blk_drew ?_ | refine blk_alloc ?_ _)); refine blk_put (cs := #[.int .i64 0, .int .i64 0]) ?_ 0 _ rfl; exact bk BK443) hb); replace HB := bs HB hb; (try clear hb); have hcz293_0 := bc0 BK442; have hcz293_1 := bc1 BK442; have hfz293_0 := blk_frozen BK442.out 0; have hfz293_1 := blk_frozen BK442.out 1; have hcz294_0 := bc0 BK443; have hcz294_1 := bc1 BK443; have hfz294_0 := blk_frozen BK443.out 0; have hfz294_1 := blk_frozen BK443.out 1) | ((with_reducible refine gate_callee (f := 53) rfl ?_); refine gl 447 Try.func53 #[.agg #[.int .i64 t438, .int .i64 t439], .agg #[.int .i64 t440, .int .i64 t441]] ?_; (with_reducible refine (spec_FirstMeeting.calls kj214 t438 t439 t440 t441 t446 t447 _ A269.out).mono ?_); rintro e w295 ⟨rfl, hb⟩; refine ⟨_, rfl, ?_⟩; replace BK351 := bb BK351 hb; replace BK385 := bb BK385 hb; replace BK397 := bb BK397 hb; replace BK405 := bb BK405 hb; replace BK409 := bb BK409 hb; replace BK413 := bb BK413 hb; replace BK442 := bb BK442 hb; replace BK443 := bb BK443 hb; replace HB := bs HB hb; (try clear hb)))
      (try simp only [sqa, sqb, sqc, sqd])
      refine cutF (rl [70, 110, 3, 161, 3, 210] false) (fun u_ wc => ∃ (kq : Nat) (x467_269 : Bool), (u_ 467) = .bool x467_269 ∧ Aside0 (j11 kq t432 t433 t434 t435 t444 t445 x467_269 t438 t439 t440 t441 = some r) ∧ Aside0 (kq ≤ kj214) ∧ Aside0 (wc.heap[gb351]? = some (.cells #[.int .i64 t349, .int .i64 t350] 49 (0, 0))) ∧ Aside0 (wc.heap[gb385]? = some (.cells #[.int .i64 t382, .int .i64 t383] 49 (0, 0))) ∧ Aside0 (wc.heap[gb397]? = some (.cells #[.int .i64 t394, .int .i64 t395] 49 (0, 0))) ∧ Aside0 (wc.heap[gb405]? = some (.cells #[.int .i64 t402, .int .i64 t403] 49 (0, 0))) ∧ Aside0 (wc.heap[gb409]? = some (.cells #[.int .i64 t406, .int .i64 t407] 49 (0, 0))) ∧ Aside0 (wc.heap[gb413]? = some (.cells #[.int .i64 t410, .int .i64 t411] 49 (0, 0))) ∧ Aside0 (wc.heap[gb442]? = some (.cells #[.int .i64 t438, .int .i64 t439] 49 (0, 0))) ∧ Aside0 (wc.heap[gb443]? = some (.cells #[.int .i64 t440, .int .i64 t441] 49 (0, 0))) ∧ Aside0 (Below w.heap.size w wc)) ?first30 ?rest30
      case first30 =>
       as_aux_lemma =>
       intro J_ K_ hJ_ hK_
       have H := HC270.out
       clear HC270
       by_cases c296 : (t435 != t437) = true
       ·rw [if_pos c296] at H
        have c296b0 : (t435 != t437) = true := c296
        (try (have c296b1 : decide (t435 = t437) = false := by simpa using c296))
        (try (have c296b2 : (t435 == t437) = false := by simpa using c296))
        (try (have c296b3 : ¬ (t435 = t437) := by simpa using c296))
        clear c296
        (first | rw [c296b0] | (simp only [i64_w, i32_w]; rw [c296b0]) | skip)
        exact absurd H (by rw [hrt.out]; cases kj214 <;> simp [j11])
       rw [if_neg c296] at H
       have c296b0 : (t435 != t437) = false := by simpa using c296
       (try (have c296b1 : decide (t435 = t437) = true := by simpa using c296))
       (try (have c296b2 : (t435 == t437) = true := by simpa using c296))
       clear c296
       (first | rw [c296b0] | (simp only [i64_w, i32_w]; rw [c296b0]) | skip)
       by_cases c297 : t434 = t436
       rotate_left
       ·rw [if_neg c297] at H
        have c297b0 : (t434 == t436) = false := beq_eq_false_iff_ne.mpr c297
        have c297b1 : (t434 != t436) = true := bne_iff_ne.mpr c297
        exact absurd H (by rw [hrt.out]; cases kj214 <;> simp [j11])
       rw [if_pos c297] at H
       have c297b0 : (t434 == t436) = true := beq_iff_eq.mpr c297
       have c297b1 : (t434 != t436) = false := bne_eq_false_iff_eq.mpr c297
       clear c297
       by_cases c298 : (t445 != t447) = true
       ·rw [if_pos c298] at H
        have c298b0 : (t445 != t447) = true := c298
        (try (have c298b1 : decide (t445 = t447) = false := by simpa using c298))
        (try (have c298b2 : (t445 == t447) = false := by simpa using c298))
        (try (have c298b3 : ¬ (t445 = t447) := by simpa using c298))
        clear c298
        exact absurd H (by rw [hrt.out]; cases kj214 <;> simp [j11])
       rw [if_neg c298] at H
       have c298b0 : (t445 != t447) = false := by simpa using c298
       (try (have c298b1 : decide (t445 = t447) = true := by simpa using c298))
       (try (have c298b2 : (t445 == t447) = true := by simpa using c298))
       clear c298
       have H' := Aside0.mk H
       clear H
       go_wp2
       (refine Met.intro ?_; go_step; refine Cut_mk (by kernel_rfl) ?rel31)
       case rel31 => exact ⟨_, ((t444 != t446)), (by first | rfl | (simp; done) | (simp [*]; done)), H', ⟨by first | exact Nat.le_refl _ | exact Nat.le_of_succ_le HJ214.out | exact Nat.le_of_succ_le (Nat.le_trans HJ214.out (Nat.le_of_succ_le HJ157.out)) | exact Nat.le_of_succ_le (Nat.le_trans (Nat.le_trans HJ214.out (Nat.le_of_succ_le HJ157.out)) (Nat.le_of_succ_le HJ99.out)) | exact Nat.le_of_succ_le (Nat.le_trans (Nat.le_trans (Nat.le_trans HJ214.out (Nat.le_of_succ_le HJ157.out)) (Nat.le_of_succ_le HJ99.out)) (Nat.le_of_succ_le HJ53.out)) | exact Nat.le_of_succ_le (Nat.le_trans (Nat.le_trans (Nat.le_trans (Nat.le_trans HJ214.out (Nat.le_of_succ_le HJ157.out)) (Nat.le_of_succ_le HJ99.out)) (Nat.le_of_succ_le HJ53.out)) (Nat.le_of_succ_le HJ11.out)) | exact Nat.le_of_succ_le HJ157.out | exact Nat.le_of_succ_le (Nat.le_trans HJ157.out (Nat.le_of_succ_le HJ99.out)) | (have := HJ11.out; have := HJ53.out; have := HJ99.out; have := HJ157.out; have := HJ214.out; omega)⟩, ⟨bk BK351⟩, ⟨bk BK385⟩, ⟨bk BK397⟩, ⟨bk BK405⟩, ⟨bk BK409⟩, ⟨bk BK413⟩, ⟨bk BK442⟩, ⟨bk BK443⟩, ⟨bw HB⟩⟩
      case rest30 =>
      as_aux_lemma =>
      intro u_ wc hcut l_ hl_; (simp only [rl, List.reduceReplicate, List.cons_append, List.nil_append, List.append_nil, Bool.not_true, Bool.not_false, fu, Nat.reduceAdd] at hl_); subst hl_; generalize u_ 467 = v467 at hcut ⊢
      clear HC270
      (try clear c1); (try clear c4); (try clear c53); (try clear hcz284_0); (try clear hcz284_1); (try clear hcz291_0); (try clear hcz291_1); (try clear hcz293_0); (try clear hcz293_1); (try clear hcz294_0); (try clear hcz294_1); (try clear hfz284_0); (try clear hfz284_1); (try clear hfz291_0); (try clear hfz291_1); (try clear hfz293_0); (try clear hfz293_1); (try clear hfz294_0); (try clear hfz294_1)
      obtain ⟨kq, x467_269, rfl, HA, HJ269, BK351, BK385, BK397, BK405, BK409, BK413, BK442, BK443, HB⟩ := hcut
      cases kq with
      | zero => exact absurd HA.out (by simp [j11])
      | succ kj269 =>
       have H := HA.out
       clear HA
       simp only [j11] at H
       by_cases c299 : x467_269 = true
       ·subst c299
        have H1 : (some false) = some r := by rw [if_pos rfl] at H; exact H
        clear H
        have H := H1
        clear H1
        exact absurd ((Option.some.inj H).trans hrt.out) (by decide)
       replace c299 := Bool.eq_false_iff.mpr c299
       subst c299
       have H1 : (if t435 = true then ((impl_TimeToEmpty.f kj269 t434 t432).bind fun bt448 => (if bt448.2 = true then (j12 kj269 t432 t433 t434 t444 t445 (decide (bt448.1 < t433)) t438 t439 t440 t441) else (j12 kj269 t432 t433 t434 t444 t445 true t438 t439 t440 t441))) else (j13 kj269 t444 t445 t438 t439 t440 t441)) = some r := by rw [if_neg (show ¬ (false = true) by decide)] at H; exact H
       clear H
       have H := H1
       clear H1
       have HC300 := Aside0.mk H
       clear H
       go_upto_if 468 with (fail)
       refine cutF (rl [4, 1, 57, 4, 4, 110, 3, 161, 3, 210] false) (fun u_ wc => ∃ (kq : Nat), Aside0 (j13 kq t444 t445 t438 t439 t440 t441 = some r) ∧ Aside0 (kq ≤ kj269) ∧ Aside0 (wc.heap[gb351]? = some (.cells #[.int .i64 t349, .int .i64 t350] 49 (0, 0))) ∧ Aside0 (wc.heap[gb385]? = some (.cells #[.int .i64 t382, .int .i64 t383] 49 (0, 0))) ∧ Aside0 (wc.heap[gb397]? = some (.cells #[.int .i64 t394, .int .i64 t395] 49 (0, 0))) ∧ Aside0 (wc.heap[gb405]? = some (.cells #[.int .i64 t402, .int .i64 t403] 49 (0, 0))) ∧ Aside0 (wc.heap[gb409]? = some (.cells #[.int .i64 t406, .int .i64 t407] 49 (0, 0))) ∧ Aside0 (wc.heap[gb413]? = some (.cells #[.int .i64 t410, .int .i64 t411] 49 (0, 0))) ∧ Aside0 (wc.heap[gb442]? = some (.cells #[.int .i64 t438, .int .i64 t439] 49 (0, 0))) ∧ Aside0 (wc.heap[gb443]? = some (.cells #[.int .i64 t440, .int .i64 t441] 49 (0, 0))) ∧ Aside0 (Below w.heap.size w wc)) ?first32 ?rest32
       case first32 =>
        as_aux_lemma =>
        intro J_ K_ hJ_ hK_
        have H := HC300.out
        clear HC300
        by_cases c301 : t435 = true
        rotate_left
        ·replace c301 := Bool.eq_false_iff.mpr c301
         subst c301
         have H1 : (j13 kj269 t444 t445 t438 t439 t440 t441) = some r := by rw [if_neg (show ¬ (false = true) by decide)] at H; exact H
         clear H
         have H := H1
         clear H1
         have H' := Aside0.mk H
         clear H
         go_wp2
         (refine Met.intro ?_; go_step; refine Cut_mk (by kernel_rfl) ?rel33)
         case rel33 => exact ⟨_, H', ⟨by first | exact Nat.le_refl _ | exact Nat.le_of_succ_le HJ269.out | exact Nat.le_of_succ_le (Nat.le_trans HJ269.out (Nat.le_of_succ_le HJ214.out)) | exact Nat.le_of_succ_le (Nat.le_trans (Nat.le_trans HJ269.out (Nat.le_of_succ_le HJ214.out)) (Nat.le_of_succ_le HJ157.out)) | exact Nat.le_of_succ_le (Nat.le_trans (Nat.le_trans (Nat.le_trans HJ269.out (Nat.le_of_succ_le HJ214.out)) (Nat.le_of_succ_le HJ157.out)) (Nat.le_of_succ_le HJ99.out)) | exact Nat.le_of_succ_le (Nat.le_trans (Nat.le_trans (Nat.le_trans (Nat.le_trans HJ269.out (Nat.le_of_succ_le HJ214.out)) (Nat.le_of_succ_le HJ157.out)) (Nat.le_of_succ_le HJ99.out)) (Nat.le_of_succ_le HJ53.out)) | exact Nat.le_of_succ_le (Nat.le_trans (Nat.le_trans (Nat.le_trans (Nat.le_trans (Nat.le_trans HJ269.out (Nat.le_of_succ_le HJ214.out)) (Nat.le_of_succ_le HJ157.out)) (Nat.le_of_succ_le HJ99.out)) (Nat.le_of_succ_le HJ53.out)) (Nat.le_of_succ_le HJ11.out)) | exact Nat.le_of_succ_le HJ214.out | (have := HJ11.out; have := HJ53.out; have := HJ99.out; have := HJ157.out; have := HJ214.out; have := HJ269.out; omega)⟩, ⟨bk BK351⟩, ⟨bk BK385⟩, ⟨bk BK397⟩, ⟨bk BK405⟩, ⟨bk BK409⟩, ⟨bk BK413⟩, ⟨bk BK442⟩, ⟨bk BK443⟩, ⟨bw HB⟩⟩
        subst c301
        have H1 : ((impl_TimeToEmpty.f kj269 t434 t432).bind fun bt448 => (if bt448.2 = true then (j12 kj269 t432 t433 t434 t444 t445 (decide (bt448.1 < t433)) t438 t439 t440 t441) else (j12 kj269 t432 t433 t434 t444 t445 true t438 t439 t440 t441))) = some r := by rw [if_pos rfl] at H; exact H
        clear H
        have H := H1
        clear H1
        replace H := Option.bind_eq_some_iff.mp H
        obtain ⟨⟨t448, t449⟩, A3020, H⟩ := H
        replace H : (if t449 = true then (j12 kj269 t432 t433 t434 t444 t445 (decide (t448 < t433)) t438 t439 t440 t441) else (j12 kj269 t432 t433 t434 t444 t445 true t438 t439 t440 t441)) = some r := H
        have A302 := Aside0.mk A3020
        clear A3020
        have HC303 := Aside0.mk H
        clear H
        go_upto_region 64 with (first | ((with_reducible refine gate_callee (f := 33) rfl ?_); refine gl 473 Try.func33 #[.agg #[.int .i64 t434, .int .i64 t432]] ?_; (with_reducible refine (impl_TimeToEmpty.calls kj269 t434 t432 t448 t449 _ A302.out).mono ?_); rintro e w304 ⟨rfl, hb⟩; refine ⟨_, rfl, ?_⟩; replace BK351 := bb BK351 hb; replace BK385 := bb BK385 hb; replace BK397 := bb BK397 hb; replace BK405 := bb BK405 hb; replace BK409 := bb BK409 hb; replace BK413 := bb BK413 hb; replace BK442 := bb BK442 hb; replace BK443 := bb BK443 hb; replace HB := bs HB hb; (try clear hb)))
        (try simp only [sqa, sqb, sqc, sqd])
        refine cutF (rl [70, 110, 3, 161, 3, 210] false) (fun u_ wc => ∃ (kq : Nat) (x482_302 : Bool), (u_ 482) = .bool x482_302 ∧ Aside0 (j12 kq t432 t433 t434 t444 t445 x482_302 t438 t439 t440 t441 = some r) ∧ Aside0 (kq ≤ kj269) ∧ Aside0 (wc.heap[gb351]? = some (.cells #[.int .i64 t349, .int .i64 t350] 49 (0, 0))) ∧ Aside0 (wc.heap[gb385]? = some (.cells #[.int .i64 t382, .int .i64 t383] 49 (0, 0))) ∧ Aside0 (wc.heap[gb397]? = some (.cells #[.int .i64 t394, .int .i64 t395] 49 (0, 0))) ∧ Aside0 (wc.heap[gb405]? = some (.cells #[.int .i64 t402, .int .i64 t403] 49 (0, 0))) ∧ Aside0 (wc.heap[gb409]? = some (.cells #[.int .i64 t406, .int .i64 t407] 49 (0, 0))) ∧ Aside0 (wc.heap[gb413]? = some (.cells #[.int .i64 t410, .int .i64 t411] 49 (0, 0))) ∧ Aside0 (wc.heap[gb442]? = some (.cells #[.int .i64 t438, .int .i64 t439] 49 (0, 0))) ∧ Aside0 (wc.heap[gb443]? = some (.cells #[.int .i64 t440, .int .i64 t441] 49 (0, 0))) ∧ Aside0 (Below w.heap.size w wc)) ?first34 ?rest34
        case first34 =>
         as_aux_lemma =>
         intro J_ K_ hJ_ hK_
         have H := HC303.out
         clear HC303
         by_cases c305 : t449 = true
         rotate_left
         ·replace c305 := Bool.eq_false_iff.mpr c305
          subst c305
          have H1 : (j12 kj269 t432 t433 t434 t444 t445 true t438 t439 t440 t441) = some r := by rw [if_neg (show ¬ (false = true) by decide)] at H; exact H
          clear H
          have H := H1
          clear H1
          exact absurd H (by rw [hrt.out]; cases kj269 <;> simp [j12])
         subst c305
         have H1 : (j12 kj269 t432 t433 t434 t444 t445 (decide (t448 < t433)) t438 t439 t440 t441) = some r := by rw [if_pos rfl] at H; exact H
         clear H
         have H := H1
         clear H1
         have H' := Aside0.mk H
         clear H
         go_wp2
         (refine Met.intro ?_; go_step; refine Cut_mk (by kernel_rfl) ?rel35)
         case rel35 => exact ⟨_, (decide (t448 < t433)), (by first | rfl | (simp; done) | (simp [*]; done)), H', ⟨by first | exact Nat.le_refl _ | exact Nat.le_of_succ_le HJ269.out | exact Nat.le_of_succ_le (Nat.le_trans HJ269.out (Nat.le_of_succ_le HJ214.out)) | exact Nat.le_of_succ_le (Nat.le_trans (Nat.le_trans HJ269.out (Nat.le_of_succ_le HJ214.out)) (Nat.le_of_succ_le HJ157.out)) | exact Nat.le_of_succ_le (Nat.le_trans (Nat.le_trans (Nat.le_trans HJ269.out (Nat.le_of_succ_le HJ214.out)) (Nat.le_of_succ_le HJ157.out)) (Nat.le_of_succ_le HJ99.out)) | exact Nat.le_of_succ_le (Nat.le_trans (Nat.le_trans (Nat.le_trans (Nat.le_trans HJ269.out (Nat.le_of_succ_le HJ214.out)) (Nat.le_of_succ_le HJ157.out)) (Nat.le_of_succ_le HJ99.out)) (Nat.le_of_succ_le HJ53.out)) | exact Nat.le_of_succ_le (Nat.le_trans (Nat.le_trans (Nat.le_trans (Nat.le_trans (Nat.le_trans HJ269.out (Nat.le_of_succ_le HJ214.out)) (Nat.le_of_succ_le HJ157.out)) (Nat.le_of_succ_le HJ99.out)) (Nat.le_of_succ_le HJ53.out)) (Nat.le_of_succ_le HJ11.out)) | exact Nat.le_of_succ_le HJ214.out | (have := HJ11.out; have := HJ53.out; have := HJ99.out; have := HJ157.out; have := HJ214.out; have := HJ269.out; omega)⟩, ⟨bk BK351⟩, ⟨bk BK385⟩, ⟨bk BK397⟩, ⟨bk BK405⟩, ⟨bk BK409⟩, ⟨bk BK413⟩, ⟨bk BK442⟩, ⟨bk BK443⟩, ⟨bw HB⟩⟩
        case rest34 =>
        as_aux_lemma =>
        intro u_ wc hcut l_ hl_; (simp only [rl, List.reduceReplicate, List.cons_append, List.nil_append, List.append_nil, Bool.not_true, Bool.not_false, fu, Nat.reduceAdd] at hl_); subst hl_; generalize u_ 482 = v482 at hcut ⊢
        clear HC303
        (try clear c1); (try clear c4); (try clear c53); (try clear c299); (try clear c301); (try clear hcz284_0); (try clear hcz284_1); (try clear hcz291_0); (try clear hcz291_1); (try clear hcz293_0); (try clear hcz293_1); (try clear hcz294_0); (try clear hcz294_1); (try clear hfz284_0); (try clear hfz284_1); (try clear hfz291_0); (try clear hfz291_1); (try clear hfz293_0); (try clear hfz293_1); (try clear hfz294_0); (try clear hfz294_1)
        obtain ⟨kq, x482_302, rfl, HA, HJ302, BK351, BK385, BK397, BK405, BK409, BK413, BK442, BK443, HB⟩ := hcut
        cases kq with
        | zero => exact absurd HA.out (by simp [j12])
        | succ kj302 =>
         have H := HA.out
         clear HA
         simp only [j12] at H
         by_cases c306 : x482_302 = true
         ·subst c306
          have H1 : (some false) = some r := by rw [if_pos rfl] at H; exact H
          clear H
          have H := H1
          clear H1
          exact absurd ((Option.some.inj H).trans hrt.out) (by decide)
         replace c306 := Bool.eq_false_iff.mpr c306
         subst c306
         have H1 : (if t434 > 0 then ((impl_TimeToEmpty.f kj302 (wrap64 (t434 - 1)) t432).bind fun bt450 => (if bt450.2 = true then (if bt450.1 ≥ t433 then (some false) else (j13 kj302 t444 t445 t438 t439 t440 t441)) else (some false))) else (j13 kj302 t444 t445 t438 t439 t440 t441)) = some r := by rw [if_neg (show ¬ (false = true) by decide)] at H; exact H
         clear H
         have H := H1
         clear H1
         by_cases c307 : t434 > 0
         rotate_left
         ·rw [if_neg c307] at H
          have c307b0 : decide (0 < t434) = false := decide_eq_false c307
          clear c307
          have H' := Aside0.mk H
          clear H
          go_wp2
          (refine Met.intro ?_; go_step; refine Cut_mk (by kernel_rfl) ?rel36)
          case rel36 => exact ⟨_, H', ⟨by first | exact Nat.le_refl _ | exact Nat.le_of_succ_le HJ302.out | exact Nat.le_of_succ_le (Nat.le_trans HJ302.out (Nat.le_of_succ_le HJ269.out)) | exact Nat.le_of_succ_le (Nat.le_trans (Nat.le_trans HJ302.out (Nat.le_of_succ_le HJ269.out)) (Nat.le_of_succ_le HJ214.out)) | exact Nat.le_of_succ_le (Nat.le_trans (Nat.le_trans (Nat.le_trans HJ302.out (Nat.le_of_succ_le HJ269.out)) (Nat.le_of_succ_le HJ214.out)) (Nat.le_of_succ_le HJ157.out)) | exact Nat.le_of_succ_le (Nat.le_trans (Nat.le_trans (Nat.le_trans (Nat.le_trans HJ302.out (Nat.le_of_succ_le HJ269.out)) (Nat.le_of_succ_le HJ214.out)) (Nat.le_of_succ_le HJ157.out)) (Nat.le_of_succ_le HJ99.out)) | exact Nat.le_of_succ_le (Nat.le_trans (Nat.le_trans (Nat.le_trans (Nat.le_trans (Nat.le_trans HJ302.out (Nat.le_of_succ_le HJ269.out)) (Nat.le_of_succ_le HJ214.out)) (Nat.le_of_succ_le HJ157.out)) (Nat.le_of_succ_le HJ99.out)) (Nat.le_of_succ_le HJ53.out)) | exact Nat.le_of_succ_le (Nat.le_trans (Nat.le_trans (Nat.le_trans (Nat.le_trans (Nat.le_trans (Nat.le_trans HJ302.out (Nat.le_of_succ_le HJ269.out)) (Nat.le_of_succ_le HJ214.out)) (Nat.le_of_succ_le HJ157.out)) (Nat.le_of_succ_le HJ99.out)) (Nat.le_of_succ_le HJ53.out)) (Nat.le_of_succ_le HJ11.out)) | (have := HJ11.out; have := HJ53.out; have := HJ99.out; have := HJ157.out; have := HJ214.out; have := HJ269.out; have := HJ302.out; omega)⟩, ⟨bk BK351⟩, ⟨bk BK385⟩, ⟨bk BK397⟩, ⟨bk BK405⟩, ⟨bk BK409⟩, ⟨bk BK413⟩, ⟨bk BK442⟩, ⟨bk BK443⟩, ⟨bw HB⟩⟩
         rw [if_pos c307] at H
         have c307b0 : decide (0 < t434) = true := decide_eq_true c307
         clear c307
         replace H := Option.bind_eq_some_iff.mp H
         obtain ⟨⟨t450, t451⟩, A3080, H⟩ := H
         replace H : (if t451 = true then (if t450 ≥ t433 then (some false) else (j13 kj302 t444 t445 t438 t439 t440 t441)) else (some false)) = some r := H
         have A308 := Aside0.mk A3080
         clear A3080
         by_cases c309 : t451 = true
         rotate_left
         ·replace c309 := Bool.eq_false_iff.mpr c309
          subst c309
          have H1 : (some false) = some r := by rw [if_neg (show ¬ (false = true) by decide)] at H; exact H
          clear H
          have H := H1
          clear H1
          exact absurd ((Option.some.inj H).trans hrt.out) (by decide)
         subst c309
         have H1 : (if t450 ≥ t433 then (some false) else (j13 kj302 t444 t445 t438 t439 t440 t441)) = some r := by rw [if_pos rfl] at H; exact H
         clear H
         have H := H1
         clear H1
         by_cases c310 : t450 ≥ t433
         ·rw [if_pos c310] at H
          have c310b0 : decide (t433 ≤ t450) = true := decide_eq_true c310
          clear c310
          exact absurd ((Option.some.inj H).trans hrt.out) (by decide)
         rw [if_neg c310] at H
         have c310b0 : decide (t433 ≤ t450) = false := decide_eq_false c310
         clear c310
         have H' := Aside0.mk H
         clear H
         go_wp2_with (first | ((with_reducible refine gate_callee (f := 33) rfl ?_); refine gl 490 Try.func33 #[.agg #[.int .i64 (wrap64 (t434 - 1)), .int .i64 t432]] ?_; (with_reducible refine (impl_TimeToEmpty.calls kj302 (wrap64 (t434 - 1)) t432 t450 true _ A308.out).mono ?_); rintro e w311 ⟨rfl, hb⟩; refine ⟨_, rfl, ?_⟩; replace BK351 := bb BK351 hb; replace BK385 := bb BK385 hb; replace BK397 := bb BK397 hb; replace BK405 := bb BK405 hb; replace BK409 := bb BK409 hb; replace BK413 := bb BK413 hb; replace BK442 := bb BK442 hb; replace BK443 := bb BK443 hb; replace HB := bs HB hb; (try clear hb)))
         (refine Met.intro ?_; go_step; refine Cut_mk (by kernel_rfl) ?rel37)
         case rel37 => exact ⟨_, H', ⟨by first | exact Nat.le_refl _ | exact Nat.le_of_succ_le HJ302.out | exact Nat.le_of_succ_le (Nat.le_trans HJ302.out (Nat.le_of_succ_le HJ269.out)) | exact Nat.le_of_succ_le (Nat.le_trans (Nat.le_trans HJ302.out (Nat.le_of_succ_le HJ269.out)) (Nat.le_of_succ_le HJ214.out)) | exact Nat.le_of_succ_le (Nat.le_trans (Nat.le_trans (Nat.le_trans HJ302.out (Nat.le_of_succ_le HJ269.out)) (Nat.le_of_succ_le HJ214.out)) (Nat.le_of_succ_le HJ157.out)) | exact Nat.le_of_succ_le (Nat.le_trans (Nat.le_trans (Nat.le_trans (Nat.le_trans HJ302.out (Nat.le_of_succ_le HJ269.out)) (Nat.le_of_succ_le HJ214.out)) (Nat.le_of_succ_le HJ157.out)) (Nat.le_of_succ_le HJ99.out)) | exact Nat.le_of_succ_le (Nat.le_trans (Nat.le_trans (Nat.le_trans (Nat.le_trans (Nat.le_trans HJ302.out (Nat.le_of_succ_le HJ269.out)) (Nat.le_of_succ_le HJ214.out)) (Nat.le_of_succ_le HJ157.out)) (Nat.le_of_succ_le HJ99.out)) (Nat.le_of_succ_le HJ53.out)) | exact Nat.le_of_succ_le (Nat.le_trans (Nat.le_trans (Nat.le_trans (Nat.le_trans (Nat.le_trans (Nat.le_trans HJ302.out (Nat.le_of_succ_le HJ269.out)) (Nat.le_of_succ_le HJ214.out)) (Nat.le_of_succ_le HJ157.out)) (Nat.le_of_succ_le HJ99.out)) (Nat.le_of_succ_le HJ53.out)) (Nat.le_of_succ_le HJ11.out)) | (have := HJ11.out; have := HJ53.out; have := HJ99.out; have := HJ157.out; have := HJ214.out; have := HJ269.out; have := HJ302.out; omega)⟩, ⟨bk BK351⟩, ⟨bk BK385⟩, ⟨bk BK397⟩, ⟨bk BK405⟩, ⟨bk BK409⟩, ⟨bk BK413⟩, ⟨bk BK442⟩, ⟨bk BK443⟩, ⟨bw HB⟩⟩
       case rest32 =>
       as_aux_lemma =>
       intro u_ wc hcut l_ hl_; (simp only [rl, List.reduceReplicate, List.cons_append, List.nil_append, List.append_nil, Bool.not_true, Bool.not_false, fu, Nat.reduceAdd] at hl_); subst hl_
       clear HC300
       (try clear c1); (try clear c4); (try clear c53); (try clear c299); (try clear hcz284_0); (try clear hcz284_1); (try clear hcz291_0); (try clear hcz291_1); (try clear hcz293_0); (try clear hcz293_1); (try clear hcz294_0); (try clear hcz294_1); (try clear hfz284_0); (try clear hfz284_1); (try clear hfz291_0); (try clear hfz291_1); (try clear hfz293_0); (try clear hfz293_1); (try clear hfz294_0); (try clear hfz294_1)
       obtain ⟨kq, HA, HJ299, BK351, BK385, BK397, BK405, BK409, BK413, BK442, BK443, HB⟩ := hcut
       cases kq with
       | zero => exact absurd HA.out (by simp [j13])
       | succ kj299 =>
        have H := HA.out
        clear HA
        simp only [j13] at H
        have HC312 := Aside0.mk H
        clear H
        go_upto_region 70 with (fail)
        refine cutF (rl [70, 110, 3, 161, 3, 210] false) (fun u_ wc => ∃ (kq : Nat) (x504_311 : Bool), (u_ 504) = .bool x504_311 ∧ Aside0 (j14 kq t444 x504_311 t438 t439 t440 t441 = some r) ∧ Aside0 (kq ≤ kj299) ∧ Aside0 (wc.heap[gb351]? = some (.cells #[.int .i64 t349, .int .i64 t350] 49 (0, 0))) ∧ Aside0 (wc.heap[gb385]? = some (.cells #[.int .i64 t382, .int .i64 t383] 49 (0, 0))) ∧ Aside0 (wc.heap[gb397]? = some (.cells #[.int .i64 t394, .int .i64 t395] 49 (0, 0))) ∧ Aside0 (wc.heap[gb405]? = some (.cells #[.int .i64 t402, .int .i64 t403] 49 (0, 0))) ∧ Aside0 (wc.heap[gb409]? = some (.cells #[.int .i64 t406, .int .i64 t407] 49 (0, 0))) ∧ Aside0 (wc.heap[gb413]? = some (.cells #[.int .i64 t410, .int .i64 t411] 49 (0, 0))) ∧ Aside0 (wc.heap[gb442]? = some (.cells #[.int .i64 t438, .int .i64 t439] 49 (0, 0))) ∧ Aside0 (wc.heap[gb443]? = some (.cells #[.int .i64 t440, .int .i64 t441] 49 (0, 0))) ∧ Aside0 (Below w.heap.size w wc)) ?first38 ?rest38
        case first38 =>
         as_aux_lemma =>
         intro J_ K_ hJ_ hK_
         have H := HC312.out
         clear HC312
         by_cases c313 : t445 = true
         ·subst c313
          have H1 : (j14 kj299 t444 (decide (t444 ≤ 10000)) t438 t439 t440 t441) = some r := by rw [if_pos rfl] at H; exact H
          clear H
          have H := H1
          clear H1
          have H' := Aside0.mk H
          clear H
          go_wp2
          (refine Met.intro ?_; go_step; refine Cut_mk (by kernel_rfl) ?rel39)
          case rel39 => exact ⟨_, (decide (t444 ≤ 10000)), (by first | rfl | (simp; done) | (simp [*]; done)), H', ⟨by first | exact Nat.le_refl _ | exact Nat.le_of_succ_le HJ299.out | exact Nat.le_of_succ_le (Nat.le_trans HJ299.out (Nat.le_of_succ_le HJ269.out)) | exact Nat.le_of_succ_le (Nat.le_trans (Nat.le_trans HJ299.out (Nat.le_of_succ_le HJ269.out)) (Nat.le_of_succ_le HJ214.out)) | exact Nat.le_of_succ_le (Nat.le_trans (Nat.le_trans (Nat.le_trans HJ299.out (Nat.le_of_succ_le HJ269.out)) (Nat.le_of_succ_le HJ214.out)) (Nat.le_of_succ_le HJ157.out)) | exact Nat.le_of_succ_le (Nat.le_trans (Nat.le_trans (Nat.le_trans (Nat.le_trans HJ299.out (Nat.le_of_succ_le HJ269.out)) (Nat.le_of_succ_le HJ214.out)) (Nat.le_of_succ_le HJ157.out)) (Nat.le_of_succ_le HJ99.out)) | exact Nat.le_of_succ_le (Nat.le_trans (Nat.le_trans (Nat.le_trans (Nat.le_trans (Nat.le_trans HJ299.out (Nat.le_of_succ_le HJ269.out)) (Nat.le_of_succ_le HJ214.out)) (Nat.le_of_succ_le HJ157.out)) (Nat.le_of_succ_le HJ99.out)) (Nat.le_of_succ_le HJ53.out)) | exact Nat.le_of_succ_le (Nat.le_trans (Nat.le_trans (Nat.le_trans (Nat.le_trans (Nat.le_trans (Nat.le_trans HJ299.out (Nat.le_of_succ_le HJ269.out)) (Nat.le_of_succ_le HJ214.out)) (Nat.le_of_succ_le HJ157.out)) (Nat.le_of_succ_le HJ99.out)) (Nat.le_of_succ_le HJ53.out)) (Nat.le_of_succ_le HJ11.out)) | (have := HJ11.out; have := HJ53.out; have := HJ99.out; have := HJ157.out; have := HJ214.out; have := HJ269.out; have := HJ299.out; omega)⟩, ⟨bk BK351⟩, ⟨bk BK385⟩, ⟨bk BK397⟩, ⟨bk BK405⟩, ⟨bk BK409⟩, ⟨bk BK413⟩, ⟨bk BK442⟩, ⟨bk BK443⟩, ⟨bw HB⟩⟩
         replace c313 := Bool.eq_false_iff.mpr c313
         subst c313
         have H1 : (j14 kj299 t444 false t438 t439 t440 t441) = some r := by rw [if_neg (show ¬ (false = true) by decide)] at H; exact H
         clear H
         have H := H1
         clear H1
         have H' := Aside0.mk H
         clear H
         go_wp2
         (refine Met.intro ?_; go_step; refine Cut_mk (by kernel_rfl) ?rel40)
         case rel40 => exact ⟨_, (false), (by first | rfl | (simp; done) | (simp [*]; done)), H', ⟨by first | exact Nat.le_refl _ | exact Nat.le_of_succ_le HJ299.out | exact Nat.le_of_succ_le (Nat.le_trans HJ299.out (Nat.le_of_succ_le HJ269.out)) | exact Nat.le_of_succ_le (Nat.le_trans (Nat.le_trans HJ299.out (Nat.le_of_succ_le HJ269.out)) (Nat.le_of_succ_le HJ214.out)) | exact Nat.le_of_succ_le (Nat.le_trans (Nat.le_trans (Nat.le_trans HJ299.out (Nat.le_of_succ_le HJ269.out)) (Nat.le_of_succ_le HJ214.out)) (Nat.le_of_succ_le HJ157.out)) | exact Nat.le_of_succ_le (Nat.le_trans (Nat.le_trans (Nat.le_trans (Nat.le_trans HJ299.out (Nat.le_of_succ_le HJ269.out)) (Nat.le_of_succ_le HJ214.out)) (Nat.le_of_succ_le HJ157.out)) (Nat.le_of_succ_le HJ99.out)) | exact Nat.le_of_succ_le (Nat.le_trans (Nat.le_trans (Nat.le_trans (Nat.le_trans (Nat.le_trans HJ299.out (Nat.le_of_succ_le HJ269.out)) (Nat.le_of_succ_le HJ214.out)) (Nat.le_of_succ_le HJ157.out)) (Nat.le_of_succ_le HJ99.out)) (Nat.le_of_succ_le HJ53.out)) | exact Nat.le_of_succ_le (Nat.le_trans (Nat.le_trans (Nat.le_trans (Nat.le_trans (Nat.le_trans (Nat.le_trans HJ299.out (Nat.le_of_succ_le HJ269.out)) (Nat.le_of_succ_le HJ214.out)) (Nat.le_of_succ_le HJ157.out)) (Nat.le_of_succ_le HJ99.out)) (Nat.le_of_succ_le HJ53.out)) (Nat.le_of_succ_le HJ11.out)) | (have := HJ11.out; have := HJ53.out; have := HJ99.out; have := HJ157.out; have := HJ214.out; have := HJ269.out; have := HJ299.out; omega)⟩, ⟨bk BK351⟩, ⟨bk BK385⟩, ⟨bk BK397⟩, ⟨bk BK405⟩, ⟨bk BK409⟩, ⟨bk BK413⟩, ⟨bk BK442⟩, ⟨bk BK443⟩, ⟨bw HB⟩⟩
        case rest38 =>
        as_aux_lemma =>
        intro u_ wc hcut l_ hl_; (simp only [rl, List.reduceReplicate, List.cons_append, List.nil_append, List.append_nil, Bool.not_true, Bool.not_false, fu, Nat.reduceAdd] at hl_); subst hl_; generalize u_ 504 = v504 at hcut ⊢
        clear HC312
        (try clear c1); (try clear c4); (try clear c53); (try clear c299); (try clear hcz284_0); (try clear hcz284_1); (try clear hcz291_0); (try clear hcz291_1); (try clear hcz293_0); (try clear hcz293_1); (try clear hcz294_0); (try clear hcz294_1); (try clear hfz284_0); (try clear hfz284_1); (try clear hfz291_0); (try clear hfz291_1); (try clear hfz293_0); (try clear hfz293_1); (try clear hfz294_0); (try clear hfz294_1)
        obtain ⟨kq, x504_311, rfl, HA, HJ311, BK351, BK385, BK397, BK405, BK409, BK413, BK442, BK443, HB⟩ := hcut
        cases kq with
        | zero => exact absurd HA.out (by simp [j14])
        | succ kj311 =>
         have H := HA.out
         clear HA
         simp only [j14] at H
         by_cases c314 : x504_311 = true
         rotate_left
         ·replace c314 := Bool.eq_false_iff.mpr c314
          subst c314
          have H1 : (some true) = some r := by rw [if_neg (show ¬ (false = true) by decide)] at H; exact H
          clear H
          have H := H1
          clear H1
          obtain rfl := Option.some.inj H
          go_wp2
          go_ret
          exact ⟨by first | rfl | (simp [errW_none, errW_some] <;> rfl) | (simp [*, errW_none, errW_some] <;> rfl), bw HB⟩
         subst c314
         have H1 : ((impl_ClockAfter.f kj311 t438 t439 t444).bind fun bt452 => ((impl_ClockAfter.f kj311 t440 t441 t444).bind fun bt456 => (if bt452.2.2 = true then (if bt456.2.2 = true then (j15 kj311 t444 (bt452.1 != bt456.1) t438 t439 t440 t441) else (j15 kj311 t444 true t438 t439 t440 t441)) else (j15 kj311 t444 true t438 t439 t440 t441)))) = some r := by rw [if_pos rfl] at H; exact H
         clear H
         have H := H1
         clear H1
         replace H := Option.bind_eq_some_iff.mp H
         obtain ⟨⟨t452, t453, t454⟩, A3150, H⟩ := H
         replace H : ((impl_ClockAfter.f kj311 t440 t441 t444).bind fun bt456 => (if t454 = true then (if bt456.2.2 = true then (j15 kj311 t444 (t452 != bt456.1) t438 t439 t440 t441) else (j15 kj311 t444 true t438 t439 t440 t441)) else (j15 kj311 t444 true t438 t439 t440 t441))) = some r := H
         have A315 := Aside0.mk A3150
         clear A3150
         replace H := Option.bind_eq_some_iff.mp H
         obtain ⟨⟨t456, t457, t458⟩, A3160, H⟩ := H
         replace H : (if t454 = true then (if t458 = true then (j15 kj311 t444 (t452 != t456) t438 t439 t440 t441) else (j15 kj311 t444 true t438 t439 t440 t441)) else (j15 kj311 t444 true t438 t439 t440 t441)) = some r := H
         have A316 := Aside0.mk A3160
         clear A3160
         have HC317 := Aside0.mk H
         clear H
         have hnb318 := NB442_351.out
         have hnc318 := NB351_442.out
         have hnb319 := NB442_385.out
         have hnc319 := NB385_442.out
         have hnb320 := NB442_397.out
         have hnc320 := NB397_442.out
         have hnb321 := NB442_405.out
         have hnc321 := NB405_442.out
         have hnb322 := NB442_409.out
         have hnc322 := NB409_442.out
         have hnb323 := NB442_413.out
         have hnc323 := NB413_442.out
         have hnb324 := NB442_443.out
         have hnc324 := NB443_442.out
         have hcz325_0 := bc0 BK442
         have hcz325_1 := bc1 BK442
         have hfz325_0 := blk_frozen BK442.out 0
         have hfz325_1 := blk_frozen BK442.out 1
         go_upto_region 73 with (first | ((with_reducible refine gate_callee (f := 39) rfl ?_); refine gl 508 Try.func39 #[.agg #[.int .i64 t438, .int .i64 t439], .int .i64 t444] ?_; (with_reducible refine (impl_ClockAfter.calls kj311 t438 t439 t444 t452 t453 t454 _ A315.out).mono ?_); rintro e w326 ⟨rfl, hb⟩; refine ⟨_, rfl, ?_⟩; replace BK351 := bb BK351 hb; replace BK385 := bb BK385 hb; replace BK397 := bb BK397 hb; replace BK405 := bb BK405 hb; replace BK409 := bb BK409 hb; replace BK413 := bb BK413 hb; replace BK442 := bb BK442 hb; replace BK443 := bb BK443 hb; replace HB := bs HB hb; (try clear hb)) | ((with_reducible refine gate_dst (N := 66) rfl ?_); (try (refine gate_guard (by rfl) ?_; dsimp only)); refine bx 66 #[.int .i64 0, .int .i64 0] 49 ?_; intro gb455 hg w327 hbox hb; have BK455 := Aside0.mk (hbox); have GW455 := ge HB hg; have GE455 := ge HB hg; replace HB := bs HB hb; have NB351_455 := nl BK351 hg; have NB455_351 := nr BK351 hg; replace BK351 := bb BK351 hb; have NB385_455 := nl BK385 hg; have NB455_385 := nr BK385 hg; replace BK385 := bb BK385 hb; have NB397_455 := nl BK397 hg; have NB455_397 := nr BK397 hg; replace BK397 := bb BK397 hb; have NB405_455 := nl BK405 hg; have NB455_405 := nr BK405 hg; replace BK405 := bb BK405 hb; have NB409_455 := nl BK409 hg; have NB455_409 := nr BK409 hg; replace BK409 := bb BK409 hb; have NB413_455 := nl BK413 hg; have NB455_413 := nr BK413 hg; replace BK413 := bb BK413 hb; have NB442_455 := nl BK442 hg; have NB455_442 := nr BK442 hg; replace BK442 := bb BK442 hb; have NB443_455 := nl BK443 hg; have NB455_443 := nr BK443 hg; replace BK443 := bb BK443 hb; clear hb hbox hg; have hnb328 := NB455_351.out; have hnc328 := NB351_455.out; have hnb329 := NB455_385.out; have hnc329 := NB385_455.out; have hnb330 := NB455_397.out; have hnc330 := NB397_455.out; have hnb331 := NB455_405.out; have hnc331 := NB405_455.out; have hnb332 := NB455_409.out; have hnc332 := NB409_455.out; have hnb333 := NB455_413.out; have hnc333 := NB413_455.out; have hnb334 := NB455_442.out; have hnc334 := NB442_455.out; have hnb335 := NB455_443.out; have hnc335 := NB443_455.out; have hcz336_0 := bc0 BK455; have hcz336_1 := bc1 BK455; have hfz336_0 := blk_frozen BK455.out 0; have hfz336_1 := blk_frozen BK455.out 1; have hnb337 := NB443_351.out; have hnc337 := NB351_443.out; have hnb338 := NB443_385.out; have hnc338 := NB385_443.out; have hnb339 := NB443_397.out; have hnc339 := NB397_443.out; have hnb340 := NB443_405.out; have hnc340 := NB405_443.out; have hnb341 := NB443_409.out; have hnc341 := NB409_443.out; have hnb342 := NB443_413.out; have hnc342 := NB413_443.out; have hcz343_0 := bc0 BK443; have hcz343_1 := bc1 BK443; have hfz343_0 := blk_frozen BK443.out 0; have hfz343_1 := blk_frozen BK443.out 1) | ((with_reducible refine gate_callee (f := 39) rfl ?_); refine gl 514 Try.func39 #[.agg #[.int .i64 t440, .int .i64 t441], .int .i64 t444] ?_; (with_reducible refine (impl_ClockAfter.calls kj311 t440 t441 t444 t456 t457 t458 _ A316.out).mono ?_); rintro e w344 ⟨rfl, hb⟩; refine ⟨_, rfl, ?_⟩; replace BK351 := bb BK351 hb; replace BK385 := bb BK385 hb; replace BK397 := bb BK397 hb; replace BK405 := bb BK405 hb; replace BK409 := bb BK409 hb; replace BK413 := bb BK413 hb; replace BK442 := bb BK442 hb; replace BK443 := bb BK443 hb; replace BK455 := Aside0.mk (blk_below (g := gb455) (o := .cells #[.int .i64 t452, .int .i64 t453] 49 (0, 0)) (by (with_reducible repeat (first | refine blk_drewN ?_ _ | refine blk_drew ?_ | refine blk_alloc ?_ _)); refine blk_put (cs := #[.int .i64 t452, .int .i64 0]) ?_ 1 _ rfl; (with_reducible repeat (first | refine blk_drewN ?_ _ | refine blk_drew ?_ | refine blk_alloc ?_ _)); refine blk_put (cs := #[.int .i64 0, .int .i64 0]) ?_ 0 _ rfl; exact bk BK455) hb); replace HB := bs HB hb; (try clear hb)) | ((with_reducible refine gate_dst (N := 68) rfl ?_); (try (refine gate_guard (by rfl) ?_; dsimp only)); refine bx 68 #[.int .i64 0, .int .i64 0] 49 ?_; intro gb459 hg w345 hbox hb; have BK459 := Aside0.mk (hbox); have GW459 := ge HB hg; have GE459 := ge HB hg; replace HB := bs HB hb; have NB351_459 := nl BK351 hg; have NB459_351 := nr BK351 hg; replace BK351 := bb BK351 hb; have NB385_459 := nl BK385 hg; have NB459_385 := nr BK385 hg; replace BK385 := bb BK385 hb; have NB397_459 := nl BK397 hg; have NB459_397 := nr BK397 hg; replace BK397 := bb BK397 hb; have NB405_459 := nl BK405 hg; have NB459_405 := nr BK405 hg; replace BK405 := bb BK405 hb; have NB409_459 := nl BK409 hg; have NB459_409 := nr BK409 hg; replace BK409 := bb BK409 hb; have NB413_459 := nl BK413 hg; have NB459_413 := nr BK413 hg; replace BK413 := bb BK413 hb; have NB442_459 := nl BK442 hg; have NB459_442 := nr BK442 hg; replace BK442 := bb BK442 hb; have NB443_459 := nl BK443 hg; have NB459_443 := nr BK443 hg; replace BK443 := bb BK443 hb; have NB455_459 := nl BK455 hg; have NB459_455 := nr BK455 hg; replace BK455 := bb BK455 hb; clear hb hbox hg; have hnb346 := NB459_351.out; have hnc346 := NB351_459.out; have hnb347 := NB459_385.out; have hnc347 := NB385_459.out; have hnb348 := NB459_397.out; have hnc348 := NB397_459.out; have hnb349 := NB459_405.out; have hnc349 := NB405_459.out; have hnb350 := NB459_409.out; have hnc350 := NB409_459.out; have hnb351 := NB459_413.out; have hnc351 := NB413_459.out; have hnb352 := NB459_442.out; have hnc352 := NB442_459.out; have hnb353 := NB459_443.out; have hnc353 := NB443_459.out; have hnb354 := NB459_455.out; have hnc354 := NB455_459.out; have hcz355_0 := bc0 BK459; have hcz355_1 := bc1 BK459; have hfz355_0 := blk_frozen BK459.out 0; have hfz355_1 := blk_frozen BK459.out 1))
         (try simp only [sqa, sqb, sqc, sqd])
         refine cutF (rl [70, 110, 3, 161, 3, 210] false) (fun u_ wc => ∃ (kq : Nat) (x529_316 : Bool), (u_ 529) = .bool x529_316 ∧ Aside0 (j15 kq t444 x529_316 t438 t439 t440 t441 = some r) ∧ Aside0 (kq ≤ kj311) ∧ Aside0 (wc.heap[gb351]? = some (.cells #[.int .i64 t349, .int .i64 t350] 49 (0, 0))) ∧ Aside0 (wc.heap[gb385]? = some (.cells #[.int .i64 t382, .int .i64 t383] 49 (0, 0))) ∧ Aside0 (wc.heap[gb397]? = some (.cells #[.int .i64 t394, .int .i64 t395] 49 (0, 0))) ∧ Aside0 (wc.heap[gb405]? = some (.cells #[.int .i64 t402, .int .i64 t403] 49 (0, 0))) ∧ Aside0 (wc.heap[gb409]? = some (.cells #[.int .i64 t406, .int .i64 t407] 49 (0, 0))) ∧ Aside0 (wc.heap[gb413]? = some (.cells #[.int .i64 t410, .int .i64 t411] 49 (0, 0))) ∧ Aside0 (wc.heap[gb442]? = some (.cells #[.int .i64 t438, .int .i64 t439] 49 (0, 0))) ∧ Aside0 (wc.heap[gb443]? = some (.cells #[.int .i64 t440, .int .i64 t441] 49 (0, 0))) ∧ Aside0 (wc.heap[gb455]? = some (.cells #[.int .i64 t452, .int .i64 t453] 49 (0, 0))) ∧ Aside0 (wc.heap[gb459]? = some (.cells #[.int .i64 t456, .int .i64 t457] 49 (0, 0))) ∧ Aside0 (Below w.heap.size w wc)) ?first41 ?rest41
         case first41 =>
          as_aux_lemma =>
          intro J_ K_ hJ_ hK_
          have H := HC317.out
          clear HC317
          by_cases c356 : t454 = true
          rotate_left
          ·replace c356 := Bool.eq_false_iff.mpr c356
           subst c356
           have H1 : (j15 kj311 t444 true t438 t439 t440 t441) = some r := by rw [if_neg (show ¬ (false = true) by decide)] at H; exact H
           clear H
           have H := H1
           clear H1
           exact absurd H (by rw [hrt.out]; cases kj311 <;> simp [j15])
          subst c356
          have H1 : (if t458 = true then (j15 kj311 t444 (t452 != t456) t438 t439 t440 t441) else (j15 kj311 t444 true t438 t439 t440 t441)) = some r := by rw [if_pos rfl] at H; exact H
          clear H
          have H := H1
          clear H1
          by_cases c357 : t458 = true
          rotate_left
          ·replace c357 := Bool.eq_false_iff.mpr c357
           subst c357
           have H1 : (j15 kj311 t444 true t438 t439 t440 t441) = some r := by rw [if_neg (show ¬ (false = true) by decide)] at H; exact H
           clear H
           have H := H1
           clear H1
           exact absurd H (by rw [hrt.out]; cases kj311 <;> simp [j15])
          subst c357
          have H1 : (j15 kj311 t444 (t452 != t456) t438 t439 t440 t441) = some r := by rw [if_pos rfl] at H; exact H
          clear H
          have H := H1
          clear H1
          have H' := Aside0.mk H
          clear H
          have hnb358 := NB455_351.out
          have hnc358 := NB351_455.out
          have hnb359 := NB455_385.out
          have hnc359 := NB385_455.out
          have hnb360 := NB455_397.out
          have hnc360 := NB397_455.out
          have hnb361 := NB455_405.out
          have hnc361 := NB405_455.out
          have hnb362 := NB455_409.out
          have hnc362 := NB409_455.out
          have hnb363 := NB455_413.out
          have hnc363 := NB413_455.out
          have hnb364 := NB455_442.out
          have hnc364 := NB442_455.out
          have hnb365 := NB455_443.out
          have hnc365 := NB443_455.out
          have hnb366 := NB455_459.out
          have hnc366 := NB459_455.out
          have hcz367_0 := bc0 BK455
          have hcz367_1 := bc1 BK455
          have hfz367_0 := blk_frozen BK455.out 0
          have hfz367_1 := blk_frozen BK455.out 1
          have hnb368 := NB459_351.out
          have hnc368 := NB351_459.out
          have hnb369 := NB459_385.out
          have hnc369 := NB385_459.out
          have hnb370 := NB459_397.out
          have hnc370 := NB397_459.out
          have hnb371 := NB459_405.out
          have hnc371 := NB405_459.out
          have hnb372 := NB459_409.out
          have hnc372 := NB409_459.out
          have hnb373 := NB459_413.out
          have hnc373 := NB413_459.out
          have hnb374 := NB459_442.out
          have hnc374 := NB442_459.out
          have hnb375 := NB459_443.out
          have hnc375 := NB443_459.out
          have hcz376_0 := bc0 BK459
          have hcz376_1 := bc1 BK459
          have hfz376_0 := blk_frozen BK459.out 0
          have hfz376_1 := blk_frozen BK459.out 1
          go_wp2
          (refine Met.intro ?_; go_step; refine Cut_mk (by kernel_rfl) ?rel42)
          case rel42 => exact ⟨_, ((t452 != t456)), (by first | rfl | (simp; done) | (simp [*]; done)), H', ⟨by first | exact Nat.le_refl _ | exact Nat.le_of_succ_le HJ311.out | exact Nat.le_of_succ_le (Nat.le_trans HJ311.out (Nat.le_of_succ_le HJ299.out)) | exact Nat.le_of_succ_le (Nat.le_trans (Nat.le_trans HJ311.out (Nat.le_of_succ_le HJ299.out)) (Nat.le_of_succ_le HJ269.out)) | exact Nat.le_of_succ_le (Nat.le_trans (Nat.le_trans (Nat.le_trans HJ311.out (Nat.le_of_succ_le HJ299.out)) (Nat.le_of_succ_le HJ269.out)) (Nat.le_of_succ_le HJ214.out)) | exact Nat.le_of_succ_le (Nat.le_trans (Nat.le_trans (Nat.le_trans (Nat.le_trans HJ311.out (Nat.le_of_succ_le HJ299.out)) (Nat.le_of_succ_le HJ269.out)) (Nat.le_of_succ_le HJ214.out)) (Nat.le_of_succ_le HJ157.out)) | exact Nat.le_of_succ_le (Nat.le_trans (Nat.le_trans (Nat.le_trans (Nat.le_trans (Nat.le_trans HJ311.out (Nat.le_of_succ_le HJ299.out)) (Nat.le_of_succ_le HJ269.out)) (Nat.le_of_succ_le HJ214.out)) (Nat.le_of_succ_le HJ157.out)) (Nat.le_of_succ_le HJ99.out)) | exact Nat.le_of_succ_le (Nat.le_trans (Nat.le_trans (Nat.le_trans (Nat.le_trans (Nat.le_trans (Nat.le_trans HJ311.out (Nat.le_of_succ_le HJ299.out)) (Nat.le_of_succ_le HJ269.out)) (Nat.le_of_succ_le HJ214.out)) (Nat.le_of_succ_le HJ157.out)) (Nat.le_of_succ_le HJ99.out)) (Nat.le_of_succ_le HJ53.out)) | (have := HJ11.out; have := HJ53.out; have := HJ99.out; have := HJ157.out; have := HJ214.out; have := HJ269.out; have := HJ299.out; have := HJ311.out; omega)⟩, ⟨bk BK351⟩, ⟨bk BK385⟩, ⟨bk BK397⟩, ⟨bk BK405⟩, ⟨bk BK409⟩, ⟨bk BK413⟩, ⟨bk BK442⟩, ⟨bk BK443⟩, ⟨bk BK455⟩, ⟨by (with_reducible repeat (first | refine blk_drewN ?_ _ | refine blk_drew ?_ | refine blk_alloc ?_ _)); refine blk_put (cs := #[.int .i64 t456, .int .i64 0]) ?_ 1 _ rfl; (with_reducible repeat (first | refine blk_drewN ?_ _ | refine blk_drew ?_ | refine blk_alloc ?_ _)); refine blk_put (cs := #[.int .i64 0, .int .i64 0]) ?_ 0 _ rfl; exact bk BK459⟩, ⟨bw HB⟩⟩
         case rest41 =>
         as_aux_lemma =>
         intro u_ wc hcut l_ hl_; (simp only [rl, List.reduceReplicate, List.cons_append, List.nil_append, List.append_nil, Bool.not_true, Bool.not_false, fu, Nat.reduceAdd] at hl_); subst hl_; generalize u_ 529 = v529 at hcut ⊢
         clear HC317
         (try clear c1); (try clear c4); (try clear c53); (try clear c299); (try clear c314); (try clear hcz284_0); (try clear hcz284_1); (try clear hcz291_0); (try clear hcz291_1); (try clear hcz293_0); (try clear hcz293_1); (try clear hcz294_0); (try clear hcz294_1); (try clear hcz325_0); (try clear hcz325_1); (try clear hcz336_0); (try clear hcz336_1); (try clear hcz343_0); (try clear hcz343_1); (try clear hcz355_0); (try clear hcz355_1); (try clear hfz284_0); (try clear hfz284_1); (try clear hfz291_0); (try clear hfz291_1); (try clear hfz293_0); (try clear hfz293_1); (try clear hfz294_0); (try clear hfz294_1); (try clear hfz325_0); (try clear hfz325_1); (try clear hfz336_0); (try clear hfz336_1); (try clear hfz343_0); (try clear hfz343_1); (try clear hfz355_0); (try clear hfz355_1)
         obtain ⟨kq, x529_316, rfl, HA, HJ316, BK351, BK385, BK397, BK405, BK409, BK413, BK442, BK443, BK455, BK459, HB⟩ := hcut
         cases kq with
         | zero => exact absurd HA.out (by simp [j15])
         | succ kj316 =>
          have H := HA.out
          clear HA
          simp only [j15] at H
          by_cases c377 : x529_316 = true
          ·subst c377
           have H1 : (some false) = some r := by rw [if_pos rfl] at H; exact H
           clear H
           have H := H1
           clear H1
           exact absurd ((Option.some.inj H).trans hrt.out) (by decide)
          replace c377 := Bool.eq_false_iff.mpr c377
          subst c377
          have H1 : (if t444 > 0 then ((impl_ClockAfter.f kj316 t438 t439 (wrap64 (t444 - 1))).bind fun bt460 => ((impl_ClockAfter.f kj316 t440 t441 (wrap64 (t444 - 1))).bind fun bt463 => (if bt460.2.2 = true then (if bt463.2.2 = true then (some (bt460.1 != bt463.1)) else (some false)) else (some false)))) else (some true)) = some r := by rw [if_neg (show ¬ (false = true) by decide)] at H; exact H
          clear H
          have H := H1
          clear H1
          by_cases c378 : t444 > 0
          rotate_left
          ·rw [if_neg c378] at H
           have c378b0 : decide (0 < t444) = false := decide_eq_false c378
           clear c378
           obtain rfl := Option.some.inj H
           go_wp2
           go_ret
           exact ⟨by first | rfl | (simp [errW_none, errW_some] <;> rfl) | (simp [*, errW_none, errW_some] <;> rfl), bw HB⟩
          rw [if_pos c378] at H
          have c378b0 : decide (0 < t444) = true := decide_eq_true c378
          clear c378
          replace H := Option.bind_eq_some_iff.mp H
          obtain ⟨⟨t460, t461, t462⟩, A3790, H⟩ := H
          replace H : ((impl_ClockAfter.f kj316 t440 t441 (wrap64 (t444 - 1))).bind fun bt463 => (if t462 = true then (if bt463.2.2 = true then (some (t460 != bt463.1)) else (some false)) else (some false))) = some r := H
          have A379 := Aside0.mk A3790
          clear A3790
          replace H := Option.bind_eq_some_iff.mp H
          obtain ⟨⟨t463, t464, t465⟩, A3800, H⟩ := H
          replace H : (if t462 = true then (if t465 = true then (some (t460 != t463)) else (some false)) else (some false)) = some r := H
          have A380 := Aside0.mk A3800
          clear A3800
          by_cases c381 : t462 = true
          rotate_left
          ·replace c381 := Bool.eq_false_iff.mpr c381
           subst c381
           have H1 : (some false) = some r := by rw [if_neg (show ¬ (false = true) by decide)] at H; exact H
           clear H
           have H := H1
           clear H1
           exact absurd ((Option.some.inj H).trans hrt.out) (by decide)
          subst c381
          have H1 : (if t465 = true then (some (t460 != t463)) else (some false)) = some r := by rw [if_pos rfl] at H; exact H
          clear H
          have H := H1
          clear H1
          by_cases c382 : t465 = true
          rotate_left
          ·replace c382 := Bool.eq_false_iff.mpr c382
           subst c382
           have H1 : (some false) = some r := by rw [if_neg (show ¬ (false = true) by decide)] at H; exact H
           clear H
           have H := H1
           clear H1
           exact absurd ((Option.some.inj H).trans hrt.out) (by decide)
          subst c382
          have H1 : (some (t460 != t463)) = some r := by rw [if_pos rfl] at H; exact H
          clear H
          have H := H1
          clear H1
          obtain rfl := Option.some.inj H
          have hnb383 := NB442_351.out
          have hnc383 := NB351_442.out
          have hnb384 := NB442_385.out
          have hnc384 := NB385_442.out
          have hnb385 := NB442_397.out
          have hnc385 := NB397_442.out
          have hnb386 := NB442_405.out
          have hnc386 := NB405_442.out
          have hnb387 := NB442_409.out
          have hnc387 := NB409_442.out
          have hnb388 := NB442_413.out
          have hnc388 := NB413_442.out
          have hnb389 := NB442_443.out
          have hnc389 := NB443_442.out
          have hnb390 := NB442_455.out
          have hnc390 := NB455_442.out
          have hnb391 := NB442_459.out
          have hnc391 := NB459_442.out
          have hcz392_0 := bc0 BK442
          have hcz392_1 := bc1 BK442
          have hfz392_0 := blk_frozen BK442.out 0
          have hfz392_1 := blk_frozen BK442.out 1
          go_wp2_with (first | ((with_reducible refine gate_callee (f := 39) rfl ?_); refine gl 536 Try.func39 #[.agg #[.int .i64 t438, .int .i64 t439], .int .i64 (wrap64 (t444 - 1))] ?_; (with_reducible refine (impl_ClockAfter.calls kj316 t438 t439 (wrap64 (t444 - 1)) t460 t461 true _ A379.out).mono ?_); rintro e w393 ⟨rfl, hb⟩; refine ⟨_, rfl, ?_⟩; replace BK351 := bb BK351 hb; replace BK385 := bb BK385 hb; replace BK397 := bb BK397 hb; replace BK405 := bb BK405 hb; replace BK409 := bb BK409 hb; replace BK413 := bb BK413 hb; replace BK442 := bb BK442 hb; replace BK443 := bb BK443 hb; replace BK455 := bb BK455 hb; replace BK459 := bb BK459 hb; replace HB := bs HB hb; (try clear hb); have hnb394 := NB455_351.out; have hnc394 := NB351_455.out; have hnb395 := NB455_385.out; have hnc395 := NB385_455.out; have hnb396 := NB455_397.out; have hnc396 := NB397_455.out; have hnb397 := NB455_405.out; have hnc397 := NB405_455.out; have hnb398 := NB455_409.out; have hnc398 := NB409_455.out; have hnb399 := NB455_413.out; have hnc399 := NB413_455.out; have hnb400 := NB455_443.out; have hnc400 := NB443_455.out; have hnb401 := NB455_459.out; have hnc401 := NB459_455.out; have hcz402_0 := bc0 BK455; have hcz402_1 := bc1 BK455; have hfz402_0 := blk_frozen BK455.out 0; have hfz402_1 := blk_frozen BK455.out 1; have hnb403 := NB443_351.out; have hnc403 := NB351_443.out; have hnb404 := NB443_385.out; have hnc404 := NB385_443.out; have hnb405 := NB443_397.out; have hnc405 := NB397_443.out; have hnb406 := NB443_405.out; have hnc406 := NB405_443.out; have hnb407 := NB443_409.out; have hnc407 := NB409_443.out; have hnb408 := NB443_413.out; have hnc408 := NB413_443.out; have hnb409 := NB443_459.out; have hnc409 := NB459_443.out; have hcz410_0 := bc0 BK443; have hcz410_1 := bc1 BK443; have hfz410_0 := blk_frozen BK443.out 0; have hfz410_1 := blk_frozen BK443.out 1) | ((with_reducible refine gate_callee (f := 39) rfl ?_); refine gl 543 Try.func39 #[.agg #[.int .i64 t440, .int .i64 t441], .int .i64 (wrap64 (t444 - 1))] ?_; (with_reducible refine (impl_ClockAfter.calls kj316 t440 t441 (wrap64 (t444 - 1)) t463 t464 true _ A380.out).mono ?_); rintro e w411 ⟨rfl, hb⟩; refine ⟨_, rfl, ?_⟩; replace BK351 := bb BK351 hb; replace BK385 := bb BK385 hb; replace BK397 := bb BK397 hb; replace BK405 := bb BK405 hb; replace BK409 := bb BK409 hb; replace BK413 := bb BK413 hb; replace BK442 := bb BK442 hb; replace BK443 := bb BK443 hb; replace BK455 := Aside0.mk (blk_below (g := gb455) (o := .cells #[.int .i64 t460, .int .i64 t461] 49 (0, 0)) (by (with_reducible repeat (first | refine blk_drewN ?_ _ | refine blk_drew ?_ | refine blk_alloc ?_ _)); refine blk_put (cs := #[.int .i64 t460, .int .i64 t453]) ?_ 1 _ rfl; (with_reducible repeat (first | refine blk_drewN ?_ _ | refine blk_drew ?_ | refine blk_alloc ?_ _)); refine blk_put (cs := #[.int .i64 t452, .int .i64 t453]) ?_ 0 _ rfl; exact bk BK455) hb); replace BK459 := bb BK459 hb; replace HB := bs HB hb; (try clear hb); have hnb412 := NB459_351.out; have hnc412 := NB351_459.out; have hnb413 := NB459_385.out; have hnc413 := NB385_459.out; have hnb414 := NB459_397.out; have hnc414 := NB397_459.out; have hnb415 := NB459_405.out; have hnc415 := NB405_459.out; have hnb416 := NB459_409.out; have hnc416 := NB409_459.out; have hnb417 := NB459_413.out; have hnc417 := NB413_459.out; have hcz418_0 := bc0 BK459; have hcz418_1 := bc1 BK459; have hfz418_0 := blk_frozen BK459.out 0; have hfz418_1 := blk_frozen BK459.out 1; have hcz419_0 := bc0 BK455; have hcz419_1 := bc1 BK455; have hfz419_0 := blk_frozen BK455.out 0; have hfz419_1 := blk_frozen BK455.out 1))
          go_ret
          exact ⟨by first | rfl | (simp [errW_none, errW_some] <;> rfl) | (simp [*, errW_none, errW_some] <;> rfl), bw HB⟩
         
   /-- THE ONE PURE STATEMENT of laws_FnClocksRun: yours. -/
def laws_FnClocksRun.Pure : Prop := ∀ (l0 : List Int) (l1 : List Int), l0.length ≤ maxLen → l0.length * 1 ≤ 140737488351232 → (∀ x ∈ l0, (Lit.int .u8 x).wf = true) → l1.length ≤ maxLen → l1.length * 1 ≤ 140737488351232 → (∀ x ∈ l1, (Lit.int .u8 x).wf = true) → ∃ k, laws_FnClocksRun.f k l0 l1 = some true
theorem laws_FnClocksRun.walk (P : laws_FnClocksRun.Pure) (a0 : Option Addr) (len0 cap0 : Nat) (z0 : List Int) (a1 : Option Addr) (len1 cap1 : Nat) (z1 : List Int) (w : World) (w0 : (a0 = none ∧ len0 = 0 ∧ cap0 = 0 ∧ z0 = []) ∨ ∃ x, a0 = some x ∧ len0 ≤ cap0 ∧ cap0 ≤ maxLen ∧ z0.length = cap0 ∧ (∀ i, i < z0.length → w.cell? (x.add i) = some (.int .u8 (z0.getD i 0))) ∧ ∀ n ∈ z0, (Lit.int .u8 n).wf = true) (y0 : len0 * 1 ≤ 140737488351232) (w1 : (a1 = none ∧ len1 = 0 ∧ cap1 = 0 ∧ z1 = []) ∨ ∃ x, a1 = some x ∧ len1 ≤ cap1 ∧ cap1 ≤ maxLen ∧ z1.length = cap1 ∧ (∀ i, i < z1.length → w.cell? (x.add i) = some (.int .u8 (z1.getD i 0))) ∧ ∀ n ∈ z1, (Lit.int .u8 n).wf = true) (y1 : len1 * 1 ≤ 140737488351232) :
  Calls Try.prog 4 #[.slice a0 len0 cap0, .slice a1 len1 cap1] w fun e w' => e = .returned (.bool true) ∧ Below w.heap.size w w' := by
 obtain ⟨l0, rfl, hr0, hm0, hw0, hc0⟩ := ReadsInt.ofRowC w0
 obtain ⟨l1, rfl, hr1, hm1, hw1, hc1⟩ := ReadsInt.ofRowC w1
 obtain ⟨k, h⟩ := P l0 l1 hm0 y0 hw0 hm1 y1 hw1
 refine (laws_FnClocksRun.calls k _ _ l0 _ _ l1 true w (Kd.C_of_reads (d := (0 : Int)) (h1 := fun _ => rfl) hr0) hc0 (Kd.C_of_reads (d := (0 : Int)) (h1 := fun _ => rfl) hr1) hc1 ⟨rfl⟩ h).mono ?_
 rintro e w' ⟨rfl, hd⟩
 exact ⟨rfl, hd⟩

end Go.Proofs.Ytmlkdkeocbhajaa.C
