-- Functions of the program as plain functions, and that the calls come to them. Written by a program (ownprint.py); nothing here is trusted: Lean checks it.
import Derived.Test.YtmlkdkeocbhajaaGvCell
import Derived.Test.YtmlkdkeocbhajaaGvCut
import Derived.Test.YtmlkdkeocbhajaaBx0
import Derived.Test.YtmlkdkeocbhajaaBx1
import Derived.Test.YtmlkdkeocbhajaaBx2
import Derived.Test.YtmlkdkeocbhajaaBx3
namespace Go.Proofs.Ytmlkdkeocbhajaa.B
open Go.RowKit Go.Proofs.YtmlkdkeocbhajaaW.PrintWords Go.Proofs.YtmlkdkeocbhajaaW.PrintLast Go.Proofs.YtmlkdkeocbhajaaW.PrintMore Go.Proofs.Ytmlkdkeocbhajaa.Sq
attribute [local go_sem] max2_int min2_int max_two min_two max_three min_three max_four min_four   -- for this text's walks alone
set_option linter.unusedVariables false
set_option linter.unusedSimpArgs false

/-! ### laws_FnBucketsCount: function 7 -/
mutual
def laws_FnBucketsCount.j0 : Nat → List Int → List Int → Int → List Int → Bool → List Int → Int → Int → Bool → Option (Bool)
 | 0, _, _, _, _, _, _, _, _, _ => none
 | k + 1, x1, x5, x6, x7, x8, x11, x15, x19, x178 => if x178 = true then (some false) else (if x8 = true then (laws_FnBucketsCount.l0 k x1 x5 x6 x7 x11 x15 x19 x6 x5 (x5.length : Int) 0) else (laws_FnBucketsCount.j5 k x1))
def laws_FnBucketsCount.j5 : Nat → List Int → Option (Bool)
 | 0, _ => none
 | k + 1, x1 => (spec_DrawDropsFor.f k x1).bind fun bt395 => ((impl_DropsFor.f k bt395.1 bt395.2).bind fun bt401 => ((spec_DropsFor.f k bt395.1 bt395.2).bind fun bt403 => ((spec_DrawAddDrops.f k x1).bind fun bt405 => ((impl_AddDrops.f k bt405.1 bt405.2.1 bt405.2.2).bind fun bt412 => ((spec_AddDrops.f k bt405.1 bt405.2.1 bt405.2.2).bind fun bt416 => ((impl_BackDrops.f k bt405.1 bt405.2.1 bt405.2.2).bind fun bt420 => ((spec_BackDrops.f k bt405.1 bt405.2.1 bt405.2.2).bind fun bt424 => (if (bt401.2 != bt403.2) = true then (laws_FnBucketsCount.j6 k bt395.1 bt395.2 bt401.1 bt401.2 bt405.1 bt405.2.1 bt405.2.2 bt412.1 bt412.2 bt420.1 true) else (if bt401.1 = bt403.1 then (if (bt412.2 != bt416.2) = true then (laws_FnBucketsCount.j6 k bt395.1 bt395.2 bt401.1 bt401.2 bt405.1 bt405.2.1 bt405.2.2 bt412.1 bt412.2 bt420.1 true) else ((laws_eSame.f k bt412.1 bt416.1).bind fun t428 => (if t428 = true then (if (bt420.2 != bt424.2) = true then (laws_FnBucketsCount.j6 k bt395.1 bt395.2 bt401.1 bt401.2 bt405.1 bt405.2.1 bt405.2.2 bt412.1 bt412.2 bt420.1 true) else ((laws_eSame.f k bt420.1 bt424.1).bind fun t429 => (if t429 = true then (laws_FnBucketsCount.j6 k bt395.1 bt395.2 bt401.1 bt401.2 bt405.1 bt405.2.1 bt405.2.2 bt412.1 bt412.2 bt420.1 (bt420.2 != bt412.2)) else (laws_FnBucketsCount.j6 k bt395.1 bt395.2 bt401.1 bt401.2 bt405.1 bt405.2.1 bt405.2.2 bt412.1 bt412.2 bt420.1 true)))) else (laws_FnBucketsCount.j6 k bt395.1 bt395.2 bt401.1 bt401.2 bt405.1 bt405.2.1 bt405.2.2 bt412.1 bt412.2 bt420.1 true)))) else (laws_FnBucketsCount.j6 k bt395.1 bt395.2 bt401.1 bt401.2 bt405.1 bt405.2.1 bt405.2.2 bt412.1 bt412.2 bt420.1 true))))))))))
def laws_FnBucketsCount.j6 : Nat → List Int → List Int → Int → Bool → List Int → List Int → Int → List Int → Bool → List Int → Bool → Option (Bool)
 | 0, _, _, _, _, _, _, _, _, _, _, _ => none
 | k + 1, x35, x36, x37, x38, x41, x42, x43, x44, x45, x48, x396 => if x396 = true then (some false) else (if x38 = true then (laws_FnBucketsCount.j7 k x35 x36 x37 x41 x42 x43 x44 x45 x48 (decide (x37 ≤ 1000000))) else (laws_FnBucketsCount.j7 k x35 x36 x37 x41 x42 x43 x44 x45 x48 false))
def laws_FnBucketsCount.j7 : Nat → List Int → List Int → Int → List Int → List Int → Int → List Int → Bool → List Int → Bool → Option (Bool)
 | 0, _, _, _, _, _, _, _, _, _, _ => none
 | k + 1, x35, x36, x37, x41, x42, x43, x44, x45, x48, x401 => if x401 = true then ((impl_HeldAfter.f k x35 x37).bind fun bt430 => (if bt430.2 = true then ((laws_eSame.f k bt430.1 x36).bind fun t434 => (if t434 = true then (laws_FnBucketsCount.j8 k x41 x42 x43 x44 x45 x48) else (some false))) else (some false))) else (laws_FnBucketsCount.j8 k x41 x42 x43 x44 x45 x48)
def laws_FnBucketsCount.j8 : Nat → List Int → List Int → Int → List Int → Bool → List Int → Option (Bool)
 | 0, _, _, _, _, _, _ => none
 | k + 1, x41, x42, x43, x44, x45, x48 => if x45 = true then ((impl_BackDrops.f k x41 x44 x43).bind fun bt435 => ((impl_AddDrops.f k x41 x48 x43).bind fun bt439 => (if bt435.2 = true then ((laws_eSame.f k bt435.1 x42).bind fun t443 => (if t443 = true then (if bt439.2 = true then ((laws_eSame.f k bt439.1 x42).bind fun t444 => (some t444)) else (some false)) else (some false))) else (some false)))) else (some true)
def laws_FnBucketsCount.l0 : Nat → List Int → List Int → Int → List Int → List Int → Int → Int → Int → List Int → Int → Int → Option (Bool)
 | 0, _, _, _, _, _, _, _, _, _, _, _ => none
 | k + 1, x1, x5, x6, x7, x11, x15, x19, x23, x181, x182, x183 => if x183 < x182 then (if 0 ≤ x183 then (if x183 < (x181.length : Int) then (if x183 < (x7.length : Int) then (if (rd x7 x183) < 0 then (some false) else (if (rd x7 x183) ≥ (rd x181 x183) then (some false) else (if x183 < (x11.length : Int) then (if (wrap64 ((wrap64 ((rd x11 x183) * (rd x181 x183))) + (rd x7 x183))) = x23 then (laws_FnBucketsCount.l0 k x1 x5 x6 x7 x11 x15 x19 (rd x11 x183) x181 x182 (wrap64 (x183 + 1))) else (some false)) else (none)))) else (none)) else (none)) else (none)) else ((impl_DropsFor.f k x5 x7).bind fun bt374 => (if bt374.2 = true then (if x19 = 0 then (none) else (laws_FnBucketsCount.j2 k x1 x5 x6 x7 x11 x15 (bt374.1 != (Int.tmod x6 x19)))) else (laws_FnBucketsCount.j2 k x1 x5 x6 x7 x11 x15 true)))
def laws_FnBucketsCount.j2 : Nat → List Int → List Int → Int → List Int → List Int → Int → Bool → Option (Bool)
 | 0, _, _, _, _, _, _, _ => none
 | k + 1, x1, x5, x6, x7, x11, x15, x235 => if x235 = true then (some false) else (if x6 > 0 then ((impl_TipsAfter.f k x5 (wrap64 (x6 - 1))).bind fun bt376 => ((impl_HeldAfter.f k x5 (wrap64 (x6 - 1))).bind fun bt380 => ((impl_AddDrops.f k x5 bt380.1 1).bind fun bt384 => (if bt376.2 = true then (if bt380.2 = true then (if bt384.2 = true then ((laws_eSame.f k bt384.1 x7).bind fun t388 => (laws_FnBucketsCount.j3 k x1 x11 x15 bt376.1 (!t388))) else (laws_FnBucketsCount.j3 k x1 x11 x15 bt376.1 true)) else (laws_FnBucketsCount.j3 k x1 x11 x15 bt376.1 true)) else (laws_FnBucketsCount.j3 k x1 x11 x15 bt376.1 true))))) else (laws_FnBucketsCount.j5 k x1))
def laws_FnBucketsCount.j3 : Nat → List Int → List Int → Int → List Int → Bool → Option (Bool)
 | 0, _, _, _, _, _ => none
 | k + 1, x1, x11, x15, x28, x273 => if x273 = true then (some false) else (laws_FnBucketsCount.l1 k x1 x11 x15 x28 (x11.length : Int) 0)
def laws_FnBucketsCount.l1 : Nat → List Int → List Int → Int → List Int → Int → Int → Option (Bool)
 | 0, _, _, _, _, _, _ => none
 | k + 1, x1, x11, x15, x28, x275, x276 => if x276 < x275 then (if 0 ≤ x276 then (if x276 < (x11.length : Int) then (if x276 < (x28.length : Int) then (if (wrap64 ((rd x11 x276) - (rd x28 x276))) = 1 then (if (rd x11 x276) = (rd x28 x276) then (laws_FnBucketsCount.l1 k x1 x11 x15 x28 x275 (wrap64 (x276 + 1))) else (if x276 ≥ x15 then (some false) else (laws_FnBucketsCount.l1 k x1 x11 x15 x28 x275 (wrap64 (x276 + 1))))) else (if x276 < x15 then (some false) else (if (rd x11 x276) = (rd x28 x276) then (laws_FnBucketsCount.l1 k x1 x11 x15 x28 x275 (wrap64 (x276 + 1))) else (if x276 ≥ x15 then (some false) else (laws_FnBucketsCount.l1 k x1 x11 x15 x28 x275 (wrap64 (x276 + 1))))))) else (none)) else (none)) else (none)) else (laws_FnBucketsCount.j5 k x1)
end
def laws_FnBucketsCount.f (k : Nat) (l0 : List Int) (l1 : List Int) : Option (Bool) := (laws_big.f l0 l1).bind fun t334 => (if t334 = true then (some true) else ((spec_DrawHeldAfter.f k l0).bind fun bt335 => ((impl_HeldAfter.f k bt335.1 bt335.2).bind fun bt339 => ((spec_HeldAfter.f k bt335.1 bt335.2).bind fun bt343 => ((impl_TipsAfter.f k bt335.1 bt335.2).bind fun bt347 => ((spec_TipsAfter.f k bt335.1 bt335.2).bind fun bt351 => ((impl_TipsAtDrop.f k bt335.1 bt335.2).bind fun bt355 => ((spec_TipsAtDrop.f k bt335.1 bt335.2).bind fun bt357 => ((impl_RoundOf.f k bt335.1).bind fun bt359 => ((spec_RoundOf.f k bt335.1).bind fun bt361 => (if (bt339.2 != bt343.2) = true then (laws_FnBucketsCount.j0 k l1 bt335.1 bt335.2 bt339.1 bt339.2 bt347.1 bt355.1 bt359.1 true) else ((laws_eSame.f k bt339.1 bt343.1).bind fun t363 => (if t363 = true then (if (bt347.2 != bt351.2) = true then (laws_FnBucketsCount.j0 k l1 bt335.1 bt335.2 bt339.1 bt339.2 bt347.1 bt355.1 bt359.1 true) else ((laws_eSame.f k bt347.1 bt351.1).bind fun t364 => (if t364 = true then (if (bt355.2 != bt357.2) = true then (laws_FnBucketsCount.j0 k l1 bt335.1 bt335.2 bt339.1 bt339.2 bt347.1 bt355.1 bt359.1 true) else (if bt355.1 = bt357.1 then (if (bt359.2 != bt361.2) = true then (laws_FnBucketsCount.j0 k l1 bt335.1 bt335.2 bt339.1 bt339.2 bt347.1 bt355.1 bt359.1 true) else (if bt359.1 = bt361.1 then (if (bt347.2 != bt339.2) = true then (laws_FnBucketsCount.j0 k l1 bt335.1 bt335.2 bt339.1 bt339.2 bt347.1 bt355.1 bt359.1 true) else ((impl_AreCaps.f bt335.1).bind fun t365 => (if (bt359.2 != t365) = true then (laws_FnBucketsCount.j0 k l1 bt335.1 bt335.2 bt339.1 bt339.2 bt347.1 bt355.1 bt359.1 true) else ((impl_AreCaps.f bt335.1).bind fun t366 => ((spec_AreCaps.f k bt335.1).bind fun t367 => (if (t366 != t367) = true then (laws_FnBucketsCount.j0 k l1 bt335.1 bt335.2 bt339.1 bt339.2 bt347.1 bt355.1 bt359.1 true) else (if bt339.2 = true then (laws_FnBucketsCount.j0 k l1 bt335.1 bt335.2 bt339.1 bt339.2 bt347.1 bt355.1 bt359.1 (bt355.2 != (decide (bt335.2 > 0)))) else (laws_FnBucketsCount.j0 k l1 bt335.1 bt335.2 bt339.1 bt339.2 bt347.1 bt355.1 bt359.1 (bt355.2 != false))))))))) else (laws_FnBucketsCount.j0 k l1 bt335.1 bt335.2 bt339.1 bt339.2 bt347.1 bt355.1 bt359.1 true))) else (laws_FnBucketsCount.j0 k l1 bt335.1 bt335.2 bt339.1 bt339.2 bt347.1 bt355.1 bt359.1 true))) else (laws_FnBucketsCount.j0 k l1 bt335.1 bt335.2 bt339.1 bt339.2 bt347.1 bt355.1 bt359.1 true)))) else (laws_FnBucketsCount.j0 k l1 bt335.1 bt335.2 bt339.1 bt339.2 bt347.1 bt355.1 bt359.1 true))))))))))))))
theorem laws_FnBucketsCount.mono_l : ∀ k, (∀ y0 y1 y2 y3 y4 y5 y6 y7 y8, LeO (laws_FnBucketsCount.j0 k y0 y1 y2 y3 y4 y5 y6 y7 y8) (laws_FnBucketsCount.j0 (k + 1) y0 y1 y2 y3 y4 y5 y6 y7 y8)) ∧ (∀ y0, LeO (laws_FnBucketsCount.j5 k y0) (laws_FnBucketsCount.j5 (k + 1) y0)) ∧ (∀ y0 y1 y2 y3 y4 y5 y6 y7 y8 y9 y10, LeO (laws_FnBucketsCount.j6 k y0 y1 y2 y3 y4 y5 y6 y7 y8 y9 y10) (laws_FnBucketsCount.j6 (k + 1) y0 y1 y2 y3 y4 y5 y6 y7 y8 y9 y10)) ∧ (∀ y0 y1 y2 y3 y4 y5 y6 y7 y8 y9, LeO (laws_FnBucketsCount.j7 k y0 y1 y2 y3 y4 y5 y6 y7 y8 y9) (laws_FnBucketsCount.j7 (k + 1) y0 y1 y2 y3 y4 y5 y6 y7 y8 y9)) ∧ (∀ y0 y1 y2 y3 y4 y5, LeO (laws_FnBucketsCount.j8 k y0 y1 y2 y3 y4 y5) (laws_FnBucketsCount.j8 (k + 1) y0 y1 y2 y3 y4 y5)) ∧ (∀ y0 y1 y2 y3 y4 y5 y6 y7 y8 y9 y10, LeO (laws_FnBucketsCount.l0 k y0 y1 y2 y3 y4 y5 y6 y7 y8 y9 y10) (laws_FnBucketsCount.l0 (k + 1) y0 y1 y2 y3 y4 y5 y6 y7 y8 y9 y10)) ∧ (∀ y0 y1 y2 y3 y4 y5 y6, LeO (laws_FnBucketsCount.j2 k y0 y1 y2 y3 y4 y5 y6) (laws_FnBucketsCount.j2 (k + 1) y0 y1 y2 y3 y4 y5 y6)) ∧ (∀ y0 y1 y2 y3 y4, LeO (laws_FnBucketsCount.j3 k y0 y1 y2 y3 y4) (laws_FnBucketsCount.j3 (k + 1) y0 y1 y2 y3 y4)) ∧ (∀ y0 y1 y2 y3 y4 y5, LeO (laws_FnBucketsCount.l1 k y0 y1 y2 y3 y4 y5) (laws_FnBucketsCount.l1 (k + 1) y0 y1 y2 y3 y4 y5))
 | 0 => ⟨fun _ _ _ _ _ _ _ _ _ r h => by simp [laws_FnBucketsCount.j0] at h, fun _ r h => by simp [laws_FnBucketsCount.j5] at h, fun _ _ _ _ _ _ _ _ _ _ _ r h => by simp [laws_FnBucketsCount.j6] at h, fun _ _ _ _ _ _ _ _ _ _ r h => by simp [laws_FnBucketsCount.j7] at h, fun _ _ _ _ _ _ r h => by simp [laws_FnBucketsCount.j8] at h, fun _ _ _ _ _ _ _ _ _ _ _ r h => by simp [laws_FnBucketsCount.l0] at h, fun _ _ _ _ _ _ _ r h => by simp [laws_FnBucketsCount.j2] at h, fun _ _ _ _ _ r h => by simp [laws_FnBucketsCount.j3] at h, fun _ _ _ _ _ _ r h => by simp [laws_FnBucketsCount.l1] at h⟩
 | k + 1 => by
  obtain ⟨ih0, ih1, ih2, ih3, ih4, ih5, ih6, ih7, ih8⟩ := laws_FnBucketsCount.mono_l k
  refine ⟨?_, ?_, ?_, ?_, ?_, ?_, ?_, ?_, ?_⟩
  ·intro y0 y1 y2 y3 y4 y5 y6 y7 y8
   unfold laws_FnBucketsCount.j0
   repeat' first
   | (with_reducible exact ih0 _ _ _ _ _ _ _ _ _)
   | (with_reducible exact ih1 _)
   | (with_reducible exact ih2 _ _ _ _ _ _ _ _ _ _ _)
   | (with_reducible exact ih3 _ _ _ _ _ _ _ _ _ _)
   | (with_reducible exact ih4 _ _ _ _ _ _)
   | (with_reducible exact ih5 _ _ _ _ _ _ _ _ _ _ _)
   | (with_reducible exact ih6 _ _ _ _ _ _ _)
   | (with_reducible exact ih7 _ _ _ _ _)
   | (with_reducible exact ih8 _ _ _ _ _ _)
   | (with_reducible exact impl_AddDrops.mono _ _ _ _)
   | (with_reducible exact impl_BackDrops.mono _ _ _ _)
   | (with_reducible exact impl_DropsFor.mono _ _ _)
   | (with_reducible exact impl_HeldAfter.mono _ _ _)
   | (with_reducible exact impl_RoundOf.mono _ _)
   | (with_reducible exact impl_TipsAfter.mono _ _ _)
   | (with_reducible exact impl_TipsAtDrop.mono _ _ _)
   | (with_reducible exact laws_eSame.mono _ _ _)
   | (with_reducible exact spec_AddDrops.mono _ _ _ _)
   | (with_reducible exact spec_AreCaps.mono _ _)
   | (with_reducible exact spec_BackDrops.mono _ _ _ _)
   | (with_reducible exact spec_DrawAddDrops.mono _ _)
   | (with_reducible exact spec_DrawDropsFor.mono _ _)
   | (with_reducible exact spec_DrawHeldAfter.mono _ _)
   | (with_reducible exact spec_DropsFor.mono _ _ _)
   | (with_reducible exact spec_HeldAfter.mono _ _ _)
   | (with_reducible exact spec_RoundOf.mono _ _)
   | (with_reducible exact spec_TipsAfter.mono _ _ _)
   | (with_reducible exact spec_TipsAtDrop.mono _ _ _)
   | (with_reducible exact LeO.refl _)
   | (with_reducible exact LeO.none _)
   | (with_reducible refine LeO.ite ?_ ?_)
   | (with_reducible refine LeO.bind ?_ (fun _ => ?_))
   | exact ih0 _ _ _ _ _ _ _ _ _
   | exact ih1 _
   | exact ih2 _ _ _ _ _ _ _ _ _ _ _
   | exact ih3 _ _ _ _ _ _ _ _ _ _
   | exact ih4 _ _ _ _ _ _
   | exact ih5 _ _ _ _ _ _ _ _ _ _ _
   | exact ih6 _ _ _ _ _ _ _
   | exact ih7 _ _ _ _ _
   | exact ih8 _ _ _ _ _ _
   | exact impl_AddDrops.mono _ _ _ _
   | exact impl_BackDrops.mono _ _ _ _
   | exact impl_DropsFor.mono _ _ _
   | exact impl_HeldAfter.mono _ _ _
   | exact impl_RoundOf.mono _ _
   | exact impl_TipsAfter.mono _ _ _
   | exact impl_TipsAtDrop.mono _ _ _
   | exact laws_eSame.mono _ _ _
   | exact spec_AddDrops.mono _ _ _ _
   | exact spec_AreCaps.mono _ _
   | exact spec_BackDrops.mono _ _ _ _
   | exact spec_DrawAddDrops.mono _ _
   | exact spec_DrawDropsFor.mono _ _
   | exact spec_DrawHeldAfter.mono _ _
   | exact spec_DropsFor.mono _ _ _
   | exact spec_HeldAfter.mono _ _ _
   | exact spec_RoundOf.mono _ _
   | exact spec_TipsAfter.mono _ _ _
   | exact spec_TipsAtDrop.mono _ _ _
   | exact LeO.none _
   | refine LeO.ite ?_ ?_
   | refine LeO.bind ?_ (fun _ => ?_)
  ·intro y0
   unfold laws_FnBucketsCount.j5
   repeat' first
   | (with_reducible exact ih0 _ _ _ _ _ _ _ _ _)
   | (with_reducible exact ih1 _)
   | (with_reducible exact ih2 _ _ _ _ _ _ _ _ _ _ _)
   | (with_reducible exact ih3 _ _ _ _ _ _ _ _ _ _)
   | (with_reducible exact ih4 _ _ _ _ _ _)
   | (with_reducible exact ih5 _ _ _ _ _ _ _ _ _ _ _)
   | (with_reducible exact ih6 _ _ _ _ _ _ _)
   | (with_reducible exact ih7 _ _ _ _ _)
   | (with_reducible exact ih8 _ _ _ _ _ _)
   | (with_reducible exact impl_AddDrops.mono _ _ _ _)
   | (with_reducible exact impl_BackDrops.mono _ _ _ _)
   | (with_reducible exact impl_DropsFor.mono _ _ _)
   | (with_reducible exact impl_HeldAfter.mono _ _ _)
   | (with_reducible exact impl_RoundOf.mono _ _)
   | (with_reducible exact impl_TipsAfter.mono _ _ _)
   | (with_reducible exact impl_TipsAtDrop.mono _ _ _)
   | (with_reducible exact laws_eSame.mono _ _ _)
   | (with_reducible exact spec_AddDrops.mono _ _ _ _)
   | (with_reducible exact spec_AreCaps.mono _ _)
   | (with_reducible exact spec_BackDrops.mono _ _ _ _)
   | (with_reducible exact spec_DrawAddDrops.mono _ _)
   | (with_reducible exact spec_DrawDropsFor.mono _ _)
   | (with_reducible exact spec_DrawHeldAfter.mono _ _)
   | (with_reducible exact spec_DropsFor.mono _ _ _)
   | (with_reducible exact spec_HeldAfter.mono _ _ _)
   | (with_reducible exact spec_RoundOf.mono _ _)
   | (with_reducible exact spec_TipsAfter.mono _ _ _)
   | (with_reducible exact spec_TipsAtDrop.mono _ _ _)
   | (with_reducible exact LeO.refl _)
   | (with_reducible exact LeO.none _)
   | (with_reducible refine LeO.ite ?_ ?_)
   | (with_reducible refine LeO.bind ?_ (fun _ => ?_))
   | exact ih0 _ _ _ _ _ _ _ _ _
   | exact ih1 _
   | exact ih2 _ _ _ _ _ _ _ _ _ _ _
   | exact ih3 _ _ _ _ _ _ _ _ _ _
   | exact ih4 _ _ _ _ _ _
   | exact ih5 _ _ _ _ _ _ _ _ _ _ _
   | exact ih6 _ _ _ _ _ _ _
   | exact ih7 _ _ _ _ _
   | exact ih8 _ _ _ _ _ _
   | exact impl_AddDrops.mono _ _ _ _
   | exact impl_BackDrops.mono _ _ _ _
   | exact impl_DropsFor.mono _ _ _
   | exact impl_HeldAfter.mono _ _ _
   | exact impl_RoundOf.mono _ _
   | exact impl_TipsAfter.mono _ _ _
   | exact impl_TipsAtDrop.mono _ _ _
   | exact laws_eSame.mono _ _ _
   | exact spec_AddDrops.mono _ _ _ _
   | exact spec_AreCaps.mono _ _
   | exact spec_BackDrops.mono _ _ _ _
   | exact spec_DrawAddDrops.mono _ _
   | exact spec_DrawDropsFor.mono _ _
   | exact spec_DrawHeldAfter.mono _ _
   | exact spec_DropsFor.mono _ _ _
   | exact spec_HeldAfter.mono _ _ _
   | exact spec_RoundOf.mono _ _
   | exact spec_TipsAfter.mono _ _ _
   | exact spec_TipsAtDrop.mono _ _ _
   | exact LeO.none _
   | refine LeO.ite ?_ ?_
   | refine LeO.bind ?_ (fun _ => ?_)
  ·intro y0 y1 y2 y3 y4 y5 y6 y7 y8 y9 y10
   unfold laws_FnBucketsCount.j6
   repeat' first
   | (with_reducible exact ih0 _ _ _ _ _ _ _ _ _)
   | (with_reducible exact ih1 _)
   | (with_reducible exact ih2 _ _ _ _ _ _ _ _ _ _ _)
   | (with_reducible exact ih3 _ _ _ _ _ _ _ _ _ _)
   | (with_reducible exact ih4 _ _ _ _ _ _)
   | (with_reducible exact ih5 _ _ _ _ _ _ _ _ _ _ _)
   | (with_reducible exact ih6 _ _ _ _ _ _ _)
   | (with_reducible exact ih7 _ _ _ _ _)
   | (with_reducible exact ih8 _ _ _ _ _ _)
   | (with_reducible exact impl_AddDrops.mono _ _ _ _)
   | (with_reducible exact impl_BackDrops.mono _ _ _ _)
   | (with_reducible exact impl_DropsFor.mono _ _ _)
   | (with_reducible exact impl_HeldAfter.mono _ _ _)
   | (with_reducible exact impl_RoundOf.mono _ _)
   | (with_reducible exact impl_TipsAfter.mono _ _ _)
   | (with_reducible exact impl_TipsAtDrop.mono _ _ _)
   | (with_reducible exact laws_eSame.mono _ _ _)
   | (with_reducible exact spec_AddDrops.mono _ _ _ _)
   | (with_reducible exact spec_AreCaps.mono _ _)
   | (with_reducible exact spec_BackDrops.mono _ _ _ _)
   | (with_reducible exact spec_DrawAddDrops.mono _ _)
   | (with_reducible exact spec_DrawDropsFor.mono _ _)
   | (with_reducible exact spec_DrawHeldAfter.mono _ _)
   | (with_reducible exact spec_DropsFor.mono _ _ _)
   | (with_reducible exact spec_HeldAfter.mono _ _ _)
   | (with_reducible exact spec_RoundOf.mono _ _)
   | (with_reducible exact spec_TipsAfter.mono _ _ _)
   | (with_reducible exact spec_TipsAtDrop.mono _ _ _)
   | (with_reducible exact LeO.refl _)
   | (with_reducible exact LeO.none _)
   | (with_reducible refine LeO.ite ?_ ?_)
   | (with_reducible refine LeO.bind ?_ (fun _ => ?_))
   | exact ih0 _ _ _ _ _ _ _ _ _
   | exact ih1 _
   | exact ih2 _ _ _ _ _ _ _ _ _ _ _
   | exact ih3 _ _ _ _ _ _ _ _ _ _
   | exact ih4 _ _ _ _ _ _
   | exact ih5 _ _ _ _ _ _ _ _ _ _ _
   | exact ih6 _ _ _ _ _ _ _
   | exact ih7 _ _ _ _ _
   | exact ih8 _ _ _ _ _ _
   | exact impl_AddDrops.mono _ _ _ _
   | exact impl_BackDrops.mono _ _ _ _
   | exact impl_DropsFor.mono _ _ _
   | exact impl_HeldAfter.mono _ _ _
   | exact impl_RoundOf.mono _ _
   | exact impl_TipsAfter.mono _ _ _
   | exact impl_TipsAtDrop.mono _ _ _
   | exact laws_eSame.mono _ _ _
   | exact spec_AddDrops.mono _ _ _ _
   | exact spec_AreCaps.mono _ _
   | exact spec_BackDrops.mono _ _ _ _
   | exact spec_DrawAddDrops.mono _ _
   | exact spec_DrawDropsFor.mono _ _
   | exact spec_DrawHeldAfter.mono _ _
   | exact spec_DropsFor.mono _ _ _
   | exact spec_HeldAfter.mono _ _ _
   | exact spec_RoundOf.mono _ _
   | exact spec_TipsAfter.mono _ _ _
   | exact spec_TipsAtDrop.mono _ _ _
   | exact LeO.none _
   | refine LeO.ite ?_ ?_
   | refine LeO.bind ?_ (fun _ => ?_)
  ·intro y0 y1 y2 y3 y4 y5 y6 y7 y8 y9
   unfold laws_FnBucketsCount.j7
   repeat' first
   | (with_reducible exact ih0 _ _ _ _ _ _ _ _ _)
   | (with_reducible exact ih1 _)
   | (with_reducible exact ih2 _ _ _ _ _ _ _ _ _ _ _)
   | (with_reducible exact ih3 _ _ _ _ _ _ _ _ _ _)
   | (with_reducible exact ih4 _ _ _ _ _ _)
   | (with_reducible exact ih5 _ _ _ _ _ _ _ _ _ _ _)
   | (with_reducible exact ih6 _ _ _ _ _ _ _)
   | (with_reducible exact ih7 _ _ _ _ _)
   | (with_reducible exact ih8 _ _ _ _ _ _)
   | (with_reducible exact impl_AddDrops.mono _ _ _ _)
   | (with_reducible exact impl_BackDrops.mono _ _ _ _)
   | (with_reducible exact impl_DropsFor.mono _ _ _)
   | (with_reducible exact impl_HeldAfter.mono _ _ _)
   | (with_reducible exact impl_RoundOf.mono _ _)
   | (with_reducible exact impl_TipsAfter.mono _ _ _)
   | (with_reducible exact impl_TipsAtDrop.mono _ _ _)
   | (with_reducible exact laws_eSame.mono _ _ _)
   | (with_reducible exact spec_AddDrops.mono _ _ _ _)
   | (with_reducible exact spec_AreCaps.mono _ _)
   | (with_reducible exact spec_BackDrops.mono _ _ _ _)
   | (with_reducible exact spec_DrawAddDrops.mono _ _)
   | (with_reducible exact spec_DrawDropsFor.mono _ _)
   | (with_reducible exact spec_DrawHeldAfter.mono _ _)
   | (with_reducible exact spec_DropsFor.mono _ _ _)
   | (with_reducible exact spec_HeldAfter.mono _ _ _)
   | (with_reducible exact spec_RoundOf.mono _ _)
   | (with_reducible exact spec_TipsAfter.mono _ _ _)
   | (with_reducible exact spec_TipsAtDrop.mono _ _ _)
   | (with_reducible exact LeO.refl _)
   | (with_reducible exact LeO.none _)
   | (with_reducible refine LeO.ite ?_ ?_)
   | (with_reducible refine LeO.bind ?_ (fun _ => ?_))
   | exact ih0 _ _ _ _ _ _ _ _ _
   | exact ih1 _
   | exact ih2 _ _ _ _ _ _ _ _ _ _ _
   | exact ih3 _ _ _ _ _ _ _ _ _ _
   | exact ih4 _ _ _ _ _ _
   | exact ih5 _ _ _ _ _ _ _ _ _ _ _
   | exact ih6 _ _ _ _ _ _ _
   | exact ih7 _ _ _ _ _
   | exact ih8 _ _ _ _ _ _
   | exact impl_AddDrops.mono _ _ _ _
   | exact impl_BackDrops.mono _ _ _ _
   | exact impl_DropsFor.mono _ _ _
   | exact impl_HeldAfter.mono _ _ _
   | exact impl_RoundOf.mono _ _
   | exact impl_TipsAfter.mono _ _ _
   | exact impl_TipsAtDrop.mono _ _ _
   | exact laws_eSame.mono _ _ _
   | exact spec_AddDrops.mono _ _ _ _
   | exact spec_AreCaps.mono _ _
   | exact spec_BackDrops.mono _ _ _ _
   | exact spec_DrawAddDrops.mono _ _
   | exact spec_DrawDropsFor.mono _ _
   | exact spec_DrawHeldAfter.mono _ _
   | exact spec_DropsFor.mono _ _ _
   | exact spec_HeldAfter.mono _ _ _
   | exact spec_RoundOf.mono _ _
   | exact spec_TipsAfter.mono _ _ _
   | exact spec_TipsAtDrop.mono _ _ _
   | exact LeO.none _
   | refine LeO.ite ?_ ?_
   | refine LeO.bind ?_ (fun _ => ?_)
  ·intro y0 y1 y2 y3 y4 y5
   unfold laws_FnBucketsCount.j8
   repeat' first
   | (with_reducible exact ih0 _ _ _ _ _ _ _ _ _)
   | (with_reducible exact ih1 _)
   | (with_reducible exact ih2 _ _ _ _ _ _ _ _ _ _ _)
   | (with_reducible exact ih3 _ _ _ _ _ _ _ _ _ _)
   | (with_reducible exact ih4 _ _ _ _ _ _)
   | (with_reducible exact ih5 _ _ _ _ _ _ _ _ _ _ _)
   | (with_reducible exact ih6 _ _ _ _ _ _ _)
   | (with_reducible exact ih7 _ _ _ _ _)
   | (with_reducible exact ih8 _ _ _ _ _ _)
   | (with_reducible exact impl_AddDrops.mono _ _ _ _)
   | (with_reducible exact impl_BackDrops.mono _ _ _ _)
   | (with_reducible exact impl_DropsFor.mono _ _ _)
   | (with_reducible exact impl_HeldAfter.mono _ _ _)
   | (with_reducible exact impl_RoundOf.mono _ _)
   | (with_reducible exact impl_TipsAfter.mono _ _ _)
   | (with_reducible exact impl_TipsAtDrop.mono _ _ _)
   | (with_reducible exact laws_eSame.mono _ _ _)
   | (with_reducible exact spec_AddDrops.mono _ _ _ _)
   | (with_reducible exact spec_AreCaps.mono _ _)
   | (with_reducible exact spec_BackDrops.mono _ _ _ _)
   | (with_reducible exact spec_DrawAddDrops.mono _ _)
   | (with_reducible exact spec_DrawDropsFor.mono _ _)
   | (with_reducible exact spec_DrawHeldAfter.mono _ _)
   | (with_reducible exact spec_DropsFor.mono _ _ _)
   | (with_reducible exact spec_HeldAfter.mono _ _ _)
   | (with_reducible exact spec_RoundOf.mono _ _)
   | (with_reducible exact spec_TipsAfter.mono _ _ _)
   | (with_reducible exact spec_TipsAtDrop.mono _ _ _)
   | (with_reducible exact LeO.refl _)
   | (with_reducible exact LeO.none _)
   | (with_reducible refine LeO.ite ?_ ?_)
   | (with_reducible refine LeO.bind ?_ (fun _ => ?_))
   | exact ih0 _ _ _ _ _ _ _ _ _
   | exact ih1 _
   | exact ih2 _ _ _ _ _ _ _ _ _ _ _
   | exact ih3 _ _ _ _ _ _ _ _ _ _
   | exact ih4 _ _ _ _ _ _
   | exact ih5 _ _ _ _ _ _ _ _ _ _ _
   | exact ih6 _ _ _ _ _ _ _
   | exact ih7 _ _ _ _ _
   | exact ih8 _ _ _ _ _ _
   | exact impl_AddDrops.mono _ _ _ _
   | exact impl_BackDrops.mono _ _ _ _
   | exact impl_DropsFor.mono _ _ _
   | exact impl_HeldAfter.mono _ _ _
   | exact impl_RoundOf.mono _ _
   | exact impl_TipsAfter.mono _ _ _
   | exact impl_TipsAtDrop.mono _ _ _
   | exact laws_eSame.mono _ _ _
   | exact spec_AddDrops.mono _ _ _ _
   | exact spec_AreCaps.mono _ _
   | exact spec_BackDrops.mono _ _ _ _
   | exact spec_DrawAddDrops.mono _ _
   | exact spec_DrawDropsFor.mono _ _
   | exact spec_DrawHeldAfter.mono _ _
   | exact spec_DropsFor.mono _ _ _
   | exact spec_HeldAfter.mono _ _ _
   | exact spec_RoundOf.mono _ _
   | exact spec_TipsAfter.mono _ _ _
   | exact spec_TipsAtDrop.mono _ _ _
   | exact LeO.none _
   | refine LeO.ite ?_ ?_
   | refine LeO.bind ?_ (fun _ => ?_)
  ·intro y0 y1 y2 y3 y4 y5 y6 y7 y8 y9 y10
   unfold laws_FnBucketsCount.l0
   repeat' first
   | (with_reducible exact ih0 _ _ _ _ _ _ _ _ _)
   | (with_reducible exact ih1 _)
   | (with_reducible exact ih2 _ _ _ _ _ _ _ _ _ _ _)
   | (with_reducible exact ih3 _ _ _ _ _ _ _ _ _ _)
   | (with_reducible exact ih4 _ _ _ _ _ _)
   | (with_reducible exact ih5 _ _ _ _ _ _ _ _ _ _ _)
   | (with_reducible exact ih6 _ _ _ _ _ _ _)
   | (with_reducible exact ih7 _ _ _ _ _)
   | (with_reducible exact ih8 _ _ _ _ _ _)
   | (with_reducible exact impl_AddDrops.mono _ _ _ _)
   | (with_reducible exact impl_BackDrops.mono _ _ _ _)
   | (with_reducible exact impl_DropsFor.mono _ _ _)
   | (with_reducible exact impl_HeldAfter.mono _ _ _)
   | (with_reducible exact impl_RoundOf.mono _ _)
   | (with_reducible exact impl_TipsAfter.mono _ _ _)
   | (with_reducible exact impl_TipsAtDrop.mono _ _ _)
   | (with_reducible exact laws_eSame.mono _ _ _)
   | (with_reducible exact spec_AddDrops.mono _ _ _ _)
   | (with_reducible exact spec_AreCaps.mono _ _)
   | (with_reducible exact spec_BackDrops.mono _ _ _ _)
   | (with_reducible exact spec_DrawAddDrops.mono _ _)
   | (with_reducible exact spec_DrawDropsFor.mono _ _)
   | (with_reducible exact spec_DrawHeldAfter.mono _ _)
   | (with_reducible exact spec_DropsFor.mono _ _ _)
   | (with_reducible exact spec_HeldAfter.mono _ _ _)
   | (with_reducible exact spec_RoundOf.mono _ _)
   | (with_reducible exact spec_TipsAfter.mono _ _ _)
   | (with_reducible exact spec_TipsAtDrop.mono _ _ _)
   | (with_reducible exact LeO.refl _)
   | (with_reducible exact LeO.none _)
   | (with_reducible refine LeO.ite ?_ ?_)
   | (with_reducible refine LeO.bind ?_ (fun _ => ?_))
   | exact ih0 _ _ _ _ _ _ _ _ _
   | exact ih1 _
   | exact ih2 _ _ _ _ _ _ _ _ _ _ _
   | exact ih3 _ _ _ _ _ _ _ _ _ _
   | exact ih4 _ _ _ _ _ _
   | exact ih5 _ _ _ _ _ _ _ _ _ _ _
   | exact ih6 _ _ _ _ _ _ _
   | exact ih7 _ _ _ _ _
   | exact ih8 _ _ _ _ _ _
   | exact impl_AddDrops.mono _ _ _ _
   | exact impl_BackDrops.mono _ _ _ _
   | exact impl_DropsFor.mono _ _ _
   | exact impl_HeldAfter.mono _ _ _
   | exact impl_RoundOf.mono _ _
   | exact impl_TipsAfter.mono _ _ _
   | exact impl_TipsAtDrop.mono _ _ _
   | exact laws_eSame.mono _ _ _
   | exact spec_AddDrops.mono _ _ _ _
   | exact spec_AreCaps.mono _ _
   | exact spec_BackDrops.mono _ _ _ _
   | exact spec_DrawAddDrops.mono _ _
   | exact spec_DrawDropsFor.mono _ _
   | exact spec_DrawHeldAfter.mono _ _
   | exact spec_DropsFor.mono _ _ _
   | exact spec_HeldAfter.mono _ _ _
   | exact spec_RoundOf.mono _ _
   | exact spec_TipsAfter.mono _ _ _
   | exact spec_TipsAtDrop.mono _ _ _
   | exact LeO.none _
   | refine LeO.ite ?_ ?_
   | refine LeO.bind ?_ (fun _ => ?_)
  ·intro y0 y1 y2 y3 y4 y5 y6
   unfold laws_FnBucketsCount.j2
   repeat' first
   | (with_reducible exact ih0 _ _ _ _ _ _ _ _ _)
   | (with_reducible exact ih1 _)
   | (with_reducible exact ih2 _ _ _ _ _ _ _ _ _ _ _)
   | (with_reducible exact ih3 _ _ _ _ _ _ _ _ _ _)
   | (with_reducible exact ih4 _ _ _ _ _ _)
   | (with_reducible exact ih5 _ _ _ _ _ _ _ _ _ _ _)
   | (with_reducible exact ih6 _ _ _ _ _ _ _)
   | (with_reducible exact ih7 _ _ _ _ _)
   | (with_reducible exact ih8 _ _ _ _ _ _)
   | (with_reducible exact impl_AddDrops.mono _ _ _ _)
   | (with_reducible exact impl_BackDrops.mono _ _ _ _)
   | (with_reducible exact impl_DropsFor.mono _ _ _)
   | (with_reducible exact impl_HeldAfter.mono _ _ _)
   | (with_reducible exact impl_RoundOf.mono _ _)
   | (with_reducible exact impl_TipsAfter.mono _ _ _)
   | (with_reducible exact impl_TipsAtDrop.mono _ _ _)
   | (with_reducible exact laws_eSame.mono _ _ _)
   | (with_reducible exact spec_AddDrops.mono _ _ _ _)
   | (with_reducible exact spec_AreCaps.mono _ _)
   | (with_reducible exact spec_BackDrops.mono _ _ _ _)
   | (with_reducible exact spec_DrawAddDrops.mono _ _)
   | (with_reducible exact spec_DrawDropsFor.mono _ _)
   | (with_reducible exact spec_DrawHeldAfter.mono _ _)
   | (with_reducible exact spec_DropsFor.mono _ _ _)
   | (with_reducible exact spec_HeldAfter.mono _ _ _)
   | (with_reducible exact spec_RoundOf.mono _ _)
   | (with_reducible exact spec_TipsAfter.mono _ _ _)
   | (with_reducible exact spec_TipsAtDrop.mono _ _ _)
   | (with_reducible exact LeO.refl _)
   | (with_reducible exact LeO.none _)
   | (with_reducible refine LeO.ite ?_ ?_)
   | (with_reducible refine LeO.bind ?_ (fun _ => ?_))
   | exact ih0 _ _ _ _ _ _ _ _ _
   | exact ih1 _
   | exact ih2 _ _ _ _ _ _ _ _ _ _ _
   | exact ih3 _ _ _ _ _ _ _ _ _ _
   | exact ih4 _ _ _ _ _ _
   | exact ih5 _ _ _ _ _ _ _ _ _ _ _
   | exact ih6 _ _ _ _ _ _ _
   | exact ih7 _ _ _ _ _
   | exact ih8 _ _ _ _ _ _
   | exact impl_AddDrops.mono _ _ _ _
   | exact impl_BackDrops.mono _ _ _ _
   | exact impl_DropsFor.mono _ _ _
   | exact impl_HeldAfter.mono _ _ _
   | exact impl_RoundOf.mono _ _
   | exact impl_TipsAfter.mono _ _ _
   | exact impl_TipsAtDrop.mono _ _ _
   | exact laws_eSame.mono _ _ _
   | exact spec_AddDrops.mono _ _ _ _
   | exact spec_AreCaps.mono _ _
   | exact spec_BackDrops.mono _ _ _ _
   | exact spec_DrawAddDrops.mono _ _
   | exact spec_DrawDropsFor.mono _ _
   | exact spec_DrawHeldAfter.mono _ _
   | exact spec_DropsFor.mono _ _ _
   | exact spec_HeldAfter.mono _ _ _
   | exact spec_RoundOf.mono _ _
   | exact spec_TipsAfter.mono _ _ _
   | exact spec_TipsAtDrop.mono _ _ _
   | exact LeO.none _
   | refine LeO.ite ?_ ?_
   | refine LeO.bind ?_ (fun _ => ?_)
  ·intro y0 y1 y2 y3 y4
   unfold laws_FnBucketsCount.j3
   repeat' first
   | (with_reducible exact ih0 _ _ _ _ _ _ _ _ _)
   | (with_reducible exact ih1 _)
   | (with_reducible exact ih2 _ _ _ _ _ _ _ _ _ _ _)
   | (with_reducible exact ih3 _ _ _ _ _ _ _ _ _ _)
   | (with_reducible exact ih4 _ _ _ _ _ _)
   | (with_reducible exact ih5 _ _ _ _ _ _ _ _ _ _ _)
   | (with_reducible exact ih6 _ _ _ _ _ _ _)
   | (with_reducible exact ih7 _ _ _ _ _)
   | (with_reducible exact ih8 _ _ _ _ _ _)
   | (with_reducible exact impl_AddDrops.mono _ _ _ _)
   | (with_reducible exact impl_BackDrops.mono _ _ _ _)
   | (with_reducible exact impl_DropsFor.mono _ _ _)
   | (with_reducible exact impl_HeldAfter.mono _ _ _)
   | (with_reducible exact impl_RoundOf.mono _ _)
   | (with_reducible exact impl_TipsAfter.mono _ _ _)
   | (with_reducible exact impl_TipsAtDrop.mono _ _ _)
   | (with_reducible exact laws_eSame.mono _ _ _)
   | (with_reducible exact spec_AddDrops.mono _ _ _ _)
   | (with_reducible exact spec_AreCaps.mono _ _)
   | (with_reducible exact spec_BackDrops.mono _ _ _ _)
   | (with_reducible exact spec_DrawAddDrops.mono _ _)
   | (with_reducible exact spec_DrawDropsFor.mono _ _)
   | (with_reducible exact spec_DrawHeldAfter.mono _ _)
   | (with_reducible exact spec_DropsFor.mono _ _ _)
   | (with_reducible exact spec_HeldAfter.mono _ _ _)
   | (with_reducible exact spec_RoundOf.mono _ _)
   | (with_reducible exact spec_TipsAfter.mono _ _ _)
   | (with_reducible exact spec_TipsAtDrop.mono _ _ _)
   | (with_reducible exact LeO.refl _)
   | (with_reducible exact LeO.none _)
   | (with_reducible refine LeO.ite ?_ ?_)
   | (with_reducible refine LeO.bind ?_ (fun _ => ?_))
   | exact ih0 _ _ _ _ _ _ _ _ _
   | exact ih1 _
   | exact ih2 _ _ _ _ _ _ _ _ _ _ _
   | exact ih3 _ _ _ _ _ _ _ _ _ _
   | exact ih4 _ _ _ _ _ _
   | exact ih5 _ _ _ _ _ _ _ _ _ _ _
   | exact ih6 _ _ _ _ _ _ _
   | exact ih7 _ _ _ _ _
   | exact ih8 _ _ _ _ _ _
   | exact impl_AddDrops.mono _ _ _ _
   | exact impl_BackDrops.mono _ _ _ _
   | exact impl_DropsFor.mono _ _ _
   | exact impl_HeldAfter.mono _ _ _
   | exact impl_RoundOf.mono _ _
   | exact impl_TipsAfter.mono _ _ _
   | exact impl_TipsAtDrop.mono _ _ _
   | exact laws_eSame.mono _ _ _
   | exact spec_AddDrops.mono _ _ _ _
   | exact spec_AreCaps.mono _ _
   | exact spec_BackDrops.mono _ _ _ _
   | exact spec_DrawAddDrops.mono _ _
   | exact spec_DrawDropsFor.mono _ _
   | exact spec_DrawHeldAfter.mono _ _
   | exact spec_DropsFor.mono _ _ _
   | exact spec_HeldAfter.mono _ _ _
   | exact spec_RoundOf.mono _ _
   | exact spec_TipsAfter.mono _ _ _
   | exact spec_TipsAtDrop.mono _ _ _
   | exact LeO.none _
   | refine LeO.ite ?_ ?_
   | refine LeO.bind ?_ (fun _ => ?_)
  ·intro y0 y1 y2 y3 y4 y5
   unfold laws_FnBucketsCount.l1
   repeat' first
   | (with_reducible exact ih0 _ _ _ _ _ _ _ _ _)
   | (with_reducible exact ih1 _)
   | (with_reducible exact ih2 _ _ _ _ _ _ _ _ _ _ _)
   | (with_reducible exact ih3 _ _ _ _ _ _ _ _ _ _)
   | (with_reducible exact ih4 _ _ _ _ _ _)
   | (with_reducible exact ih5 _ _ _ _ _ _ _ _ _ _ _)
   | (with_reducible exact ih6 _ _ _ _ _ _ _)
   | (with_reducible exact ih7 _ _ _ _ _)
   | (with_reducible exact ih8 _ _ _ _ _ _)
   | (with_reducible exact impl_AddDrops.mono _ _ _ _)
   | (with_reducible exact impl_BackDrops.mono _ _ _ _)
   | (with_reducible exact impl_DropsFor.mono _ _ _)
   | (with_reducible exact impl_HeldAfter.mono _ _ _)
   | (with_reducible exact impl_RoundOf.mono _ _)
   | (with_reducible exact impl_TipsAfter.mono _ _ _)
   | (with_reducible exact impl_TipsAtDrop.mono _ _ _)
   | (with_reducible exact laws_eSame.mono _ _ _)
   | (with_reducible exact spec_AddDrops.mono _ _ _ _)
   | (with_reducible exact spec_AreCaps.mono _ _)
   | (with_reducible exact spec_BackDrops.mono _ _ _ _)
   | (with_reducible exact spec_DrawAddDrops.mono _ _)
   | (with_reducible exact spec_DrawDropsFor.mono _ _)
   | (with_reducible exact spec_DrawHeldAfter.mono _ _)
   | (with_reducible exact spec_DropsFor.mono _ _ _)
   | (with_reducible exact spec_HeldAfter.mono _ _ _)
   | (with_reducible exact spec_RoundOf.mono _ _)
   | (with_reducible exact spec_TipsAfter.mono _ _ _)
   | (with_reducible exact spec_TipsAtDrop.mono _ _ _)
   | (with_reducible exact LeO.refl _)
   | (with_reducible exact LeO.none _)
   | (with_reducible refine LeO.ite ?_ ?_)
   | (with_reducible refine LeO.bind ?_ (fun _ => ?_))
   | exact ih0 _ _ _ _ _ _ _ _ _
   | exact ih1 _
   | exact ih2 _ _ _ _ _ _ _ _ _ _ _
   | exact ih3 _ _ _ _ _ _ _ _ _ _
   | exact ih4 _ _ _ _ _ _
   | exact ih5 _ _ _ _ _ _ _ _ _ _ _
   | exact ih6 _ _ _ _ _ _ _
   | exact ih7 _ _ _ _ _
   | exact ih8 _ _ _ _ _ _
   | exact impl_AddDrops.mono _ _ _ _
   | exact impl_BackDrops.mono _ _ _ _
   | exact impl_DropsFor.mono _ _ _
   | exact impl_HeldAfter.mono _ _ _
   | exact impl_RoundOf.mono _ _
   | exact impl_TipsAfter.mono _ _ _
   | exact impl_TipsAtDrop.mono _ _ _
   | exact laws_eSame.mono _ _ _
   | exact spec_AddDrops.mono _ _ _ _
   | exact spec_AreCaps.mono _ _
   | exact spec_BackDrops.mono _ _ _ _
   | exact spec_DrawAddDrops.mono _ _
   | exact spec_DrawDropsFor.mono _ _
   | exact spec_DrawHeldAfter.mono _ _
   | exact spec_DropsFor.mono _ _ _
   | exact spec_HeldAfter.mono _ _ _
   | exact spec_RoundOf.mono _ _
   | exact spec_TipsAfter.mono _ _ _
   | exact spec_TipsAtDrop.mono _ _ _
   | exact LeO.none _
   | refine LeO.ite ?_ ?_
   | refine LeO.bind ?_ (fun _ => ?_)
theorem laws_FnBucketsCount.mono : ∀ a0 a1 k, LeO (laws_FnBucketsCount.f k a0 a1) (laws_FnBucketsCount.f (k + 1) a0 a1) := by
 intro a0 a1 k
 obtain ⟨ih0, ih1, ih2, ih3, ih4, ih5, ih6, ih7, ih8⟩ := laws_FnBucketsCount.mono_l k
 unfold laws_FnBucketsCount.f
 repeat' first
   | (with_reducible exact ih0 _ _ _ _ _ _ _ _ _)
   | (with_reducible exact ih1 _)
   | (with_reducible exact ih2 _ _ _ _ _ _ _ _ _ _ _)
   | (with_reducible exact ih3 _ _ _ _ _ _ _ _ _ _)
   | (with_reducible exact ih4 _ _ _ _ _ _)
   | (with_reducible exact ih5 _ _ _ _ _ _ _ _ _ _ _)
   | (with_reducible exact ih6 _ _ _ _ _ _ _)
   | (with_reducible exact ih7 _ _ _ _ _)
   | (with_reducible exact ih8 _ _ _ _ _ _)
   | (with_reducible exact impl_AddDrops.mono _ _ _ _)
   | (with_reducible exact impl_BackDrops.mono _ _ _ _)
   | (with_reducible exact impl_DropsFor.mono _ _ _)
   | (with_reducible exact impl_HeldAfter.mono _ _ _)
   | (with_reducible exact impl_RoundOf.mono _ _)
   | (with_reducible exact impl_TipsAfter.mono _ _ _)
   | (with_reducible exact impl_TipsAtDrop.mono _ _ _)
   | (with_reducible exact laws_eSame.mono _ _ _)
   | (with_reducible exact spec_AddDrops.mono _ _ _ _)
   | (with_reducible exact spec_AreCaps.mono _ _)
   | (with_reducible exact spec_BackDrops.mono _ _ _ _)
   | (with_reducible exact spec_DrawAddDrops.mono _ _)
   | (with_reducible exact spec_DrawDropsFor.mono _ _)
   | (with_reducible exact spec_DrawHeldAfter.mono _ _)
   | (with_reducible exact spec_DropsFor.mono _ _ _)
   | (with_reducible exact spec_HeldAfter.mono _ _ _)
   | (with_reducible exact spec_RoundOf.mono _ _)
   | (with_reducible exact spec_TipsAfter.mono _ _ _)
   | (with_reducible exact spec_TipsAtDrop.mono _ _ _)
   | (with_reducible exact LeO.refl _)
   | (with_reducible exact LeO.none _)
   | (with_reducible refine LeO.ite ?_ ?_)
   | (with_reducible refine LeO.bind ?_ (fun _ => ?_))
   | exact ih0 _ _ _ _ _ _ _ _ _
   | exact ih1 _
   | exact ih2 _ _ _ _ _ _ _ _ _ _ _
   | exact ih3 _ _ _ _ _ _ _ _ _ _
   | exact ih4 _ _ _ _ _ _
   | exact ih5 _ _ _ _ _ _ _ _ _ _ _
   | exact ih6 _ _ _ _ _ _ _
   | exact ih7 _ _ _ _ _
   | exact ih8 _ _ _ _ _ _
   | exact impl_AddDrops.mono _ _ _ _
   | exact impl_BackDrops.mono _ _ _ _
   | exact impl_DropsFor.mono _ _ _
   | exact impl_HeldAfter.mono _ _ _
   | exact impl_RoundOf.mono _ _
   | exact impl_TipsAfter.mono _ _ _
   | exact impl_TipsAtDrop.mono _ _ _
   | exact laws_eSame.mono _ _ _
   | exact spec_AddDrops.mono _ _ _ _
   | exact spec_AreCaps.mono _ _
   | exact spec_BackDrops.mono _ _ _ _
   | exact spec_DrawAddDrops.mono _ _
   | exact spec_DrawDropsFor.mono _ _
   | exact spec_DrawHeldAfter.mono _ _
   | exact spec_DropsFor.mono _ _ _
   | exact spec_HeldAfter.mono _ _ _
   | exact spec_RoundOf.mono _ _
   | exact spec_TipsAfter.mono _ _ _
   | exact spec_TipsAtDrop.mono _ _ _
   | exact LeO.none _
   | refine LeO.ite ?_ ?_
   | refine LeO.bind ?_ (fun _ => ?_)
set_option maxHeartbeats 80000000 in
set_option maxRecDepth 100000 in
theorem laws_FnBucketsCount.calls (k : Nat) (A0 : Option Addr) (c0 : Nat) (l0 : List Int) (A1 : Option Addr) (c1 : Nat) (l1 : List Int) (r : Bool) (w : World) (hr0 : Kd.C (Kd.int .u8) w A0 l0.length l0) (hc0 : l0.length ≤ c0) (hr1 : Kd.C (Kd.int .u8) w A1 l1.length l1) (hc1 : l1.length ≤ c1) (hrt : Aside0 (r = true)) (h : laws_FnBucketsCount.f k l0 l1 = some r) :
  Calls Try.prog 7 #[.slice A0 l0.length c0, .slice A1 l1.length c1] w fun e w' => e = .returned (.bool r) ∧ Below w.heap.size w w' := by
 have HR0 := Aside0.mk hr0
 have HC0 := Aside0.mk hc0
 clear hr0 hc0
 have HR1 := Aside0.mk hr1
 have HC1 := Aside0.mk hc1
 clear hr1 hc1
 have HB := Aside0.mk (Below.refl w.heap.size w)
 have H : ((laws_big.f l0 l1).bind fun t334 => (if t334 = true then (some true) else ((spec_DrawHeldAfter.f k l0).bind fun bt335 => ((impl_HeldAfter.f k bt335.1 bt335.2).bind fun bt339 => ((spec_HeldAfter.f k bt335.1 bt335.2).bind fun bt343 => ((impl_TipsAfter.f k bt335.1 bt335.2).bind fun bt347 => ((spec_TipsAfter.f k bt335.1 bt335.2).bind fun bt351 => ((impl_TipsAtDrop.f k bt335.1 bt335.2).bind fun bt355 => ((spec_TipsAtDrop.f k bt335.1 bt335.2).bind fun bt357 => ((impl_RoundOf.f k bt335.1).bind fun bt359 => ((spec_RoundOf.f k bt335.1).bind fun bt361 => (if (bt339.2 != bt343.2) = true then (laws_FnBucketsCount.j0 k l1 bt335.1 bt335.2 bt339.1 bt339.2 bt347.1 bt355.1 bt359.1 true) else ((laws_eSame.f k bt339.1 bt343.1).bind fun t363 => (if t363 = true then (if (bt347.2 != bt351.2) = true then (laws_FnBucketsCount.j0 k l1 bt335.1 bt335.2 bt339.1 bt339.2 bt347.1 bt355.1 bt359.1 true) else ((laws_eSame.f k bt347.1 bt351.1).bind fun t364 => (if t364 = true then (if (bt355.2 != bt357.2) = true then (laws_FnBucketsCount.j0 k l1 bt335.1 bt335.2 bt339.1 bt339.2 bt347.1 bt355.1 bt359.1 true) else (if bt355.1 = bt357.1 then (if (bt359.2 != bt361.2) = true then (laws_FnBucketsCount.j0 k l1 bt335.1 bt335.2 bt339.1 bt339.2 bt347.1 bt355.1 bt359.1 true) else (if bt359.1 = bt361.1 then (if (bt347.2 != bt339.2) = true then (laws_FnBucketsCount.j0 k l1 bt335.1 bt335.2 bt339.1 bt339.2 bt347.1 bt355.1 bt359.1 true) else ((impl_AreCaps.f bt335.1).bind fun t365 => (if (bt359.2 != t365) = true then (laws_FnBucketsCount.j0 k l1 bt335.1 bt335.2 bt339.1 bt339.2 bt347.1 bt355.1 bt359.1 true) else ((impl_AreCaps.f bt335.1).bind fun t366 => ((spec_AreCaps.f k bt335.1).bind fun t367 => (if (t366 != t367) = true then (laws_FnBucketsCount.j0 k l1 bt335.1 bt335.2 bt339.1 bt339.2 bt347.1 bt355.1 bt359.1 true) else (if bt339.2 = true then (laws_FnBucketsCount.j0 k l1 bt335.1 bt335.2 bt339.1 bt339.2 bt347.1 bt355.1 bt359.1 (bt355.2 != (decide (bt335.2 > 0)))) else (laws_FnBucketsCount.j0 k l1 bt335.1 bt335.2 bt339.1 bt339.2 bt347.1 bt355.1 bt359.1 (bt355.2 != false))))))))) else (laws_FnBucketsCount.j0 k l1 bt335.1 bt335.2 bt339.1 bt339.2 bt347.1 bt355.1 bt359.1 true))) else (laws_FnBucketsCount.j0 k l1 bt335.1 bt335.2 bt339.1 bt339.2 bt347.1 bt355.1 bt359.1 true))) else (laws_FnBucketsCount.j0 k l1 bt335.1 bt335.2 bt339.1 bt339.2 bt347.1 bt355.1 bt359.1 true)))) else (laws_FnBucketsCount.j0 k l1 bt335.1 bt335.2 bt339.1 bt339.2 bt347.1 bt355.1 bt359.1 true))))))))))))))) = some r := h
 clear h
 replace H := Option.bind_eq_some_iff.mp H
 obtain ⟨t334, A30, H⟩ := H
 replace H : (if t334 = true then (some true) else ((spec_DrawHeldAfter.f k l0).bind fun bt335 => ((impl_HeldAfter.f k bt335.1 bt335.2).bind fun bt339 => ((spec_HeldAfter.f k bt335.1 bt335.2).bind fun bt343 => ((impl_TipsAfter.f k bt335.1 bt335.2).bind fun bt347 => ((spec_TipsAfter.f k bt335.1 bt335.2).bind fun bt351 => ((impl_TipsAtDrop.f k bt335.1 bt335.2).bind fun bt355 => ((spec_TipsAtDrop.f k bt335.1 bt335.2).bind fun bt357 => ((impl_RoundOf.f k bt335.1).bind fun bt359 => ((spec_RoundOf.f k bt335.1).bind fun bt361 => (if (bt339.2 != bt343.2) = true then (laws_FnBucketsCount.j0 k l1 bt335.1 bt335.2 bt339.1 bt339.2 bt347.1 bt355.1 bt359.1 true) else ((laws_eSame.f k bt339.1 bt343.1).bind fun t363 => (if t363 = true then (if (bt347.2 != bt351.2) = true then (laws_FnBucketsCount.j0 k l1 bt335.1 bt335.2 bt339.1 bt339.2 bt347.1 bt355.1 bt359.1 true) else ((laws_eSame.f k bt347.1 bt351.1).bind fun t364 => (if t364 = true then (if (bt355.2 != bt357.2) = true then (laws_FnBucketsCount.j0 k l1 bt335.1 bt335.2 bt339.1 bt339.2 bt347.1 bt355.1 bt359.1 true) else (if bt355.1 = bt357.1 then (if (bt359.2 != bt361.2) = true then (laws_FnBucketsCount.j0 k l1 bt335.1 bt335.2 bt339.1 bt339.2 bt347.1 bt355.1 bt359.1 true) else (if bt359.1 = bt361.1 then (if (bt347.2 != bt339.2) = true then (laws_FnBucketsCount.j0 k l1 bt335.1 bt335.2 bt339.1 bt339.2 bt347.1 bt355.1 bt359.1 true) else ((impl_AreCaps.f bt335.1).bind fun t365 => (if (bt359.2 != t365) = true then (laws_FnBucketsCount.j0 k l1 bt335.1 bt335.2 bt339.1 bt339.2 bt347.1 bt355.1 bt359.1 true) else ((impl_AreCaps.f bt335.1).bind fun t366 => ((spec_AreCaps.f k bt335.1).bind fun t367 => (if (t366 != t367) = true then (laws_FnBucketsCount.j0 k l1 bt335.1 bt335.2 bt339.1 bt339.2 bt347.1 bt355.1 bt359.1 true) else (if bt339.2 = true then (laws_FnBucketsCount.j0 k l1 bt335.1 bt335.2 bt339.1 bt339.2 bt347.1 bt355.1 bt359.1 (bt355.2 != (decide (bt335.2 > 0)))) else (laws_FnBucketsCount.j0 k l1 bt335.1 bt335.2 bt339.1 bt339.2 bt347.1 bt355.1 bt359.1 (bt355.2 != false))))))))) else (laws_FnBucketsCount.j0 k l1 bt335.1 bt335.2 bt339.1 bt339.2 bt347.1 bt355.1 bt359.1 true))) else (laws_FnBucketsCount.j0 k l1 bt335.1 bt335.2 bt339.1 bt339.2 bt347.1 bt355.1 bt359.1 true))) else (laws_FnBucketsCount.j0 k l1 bt335.1 bt335.2 bt339.1 bt339.2 bt347.1 bt355.1 bt359.1 true)))) else (laws_FnBucketsCount.j0 k l1 bt335.1 bt335.2 bt339.1 bt339.2 bt347.1 bt355.1 bt359.1 true)))))))))))))) = some r := H
 have A3 := Aside0.mk A30
 clear A30
 by_cases c4 : t334 = true
 ·subst c4
  have H1 : (some true) = some r := by rw [if_pos rfl] at H; exact H
  clear H
  have H := H1
  clear H1
  obtain rfl := Option.some.inj H
  go_enter Try.func7, Try.ntmps7
  go_wp2_with (first | (go_at_call 10; (with_reducible refine (laws_big.calls _ _ l0 _ _ l1 true _ ?side1 ?side2 ?side3 ?side4 A3.out).mono ?_); (case side1 => repeat (first | exact HR0.out | (with_reducible refine Kd.C_alloc ?_ _) | (with_reducible refine Kd.C_drewN ?_ _) | (with_reducible refine Kd.C_drew ?_))); (case side2 => exact HC0.out); (case side3 => repeat (first | exact HR1.out | (with_reducible refine Kd.C_alloc ?_ _) | (with_reducible refine Kd.C_drewN ?_ _) | (with_reducible refine Kd.C_drew ?_))); (case side4 => exact HC1.out); rintro e w' ⟨rfl, ⟨nd, rfl⟩⟩; (try first | exact ⟨rfl, _, World.drewN_drewN _ _ _⟩ | exact ⟨rfl, _, Eq.trans (World.drewN_drewN _ _ _) (congrArg (World.drewN _) (Nat.add_assoc _ _ _))⟩)))
  repeat (go_quiet (first | (go_at_call 10; (with_reducible refine (laws_big.calls _ _ l0 _ _ l1 true _ ?side1 ?side2 ?side3 ?side4 A3.out).mono ?_); (case side1 => repeat (first | exact HR0.out | (with_reducible refine Kd.C_alloc ?_ _) | (with_reducible refine Kd.C_drewN ?_ _) | (with_reducible refine Kd.C_drew ?_))); (case side2 => exact HC0.out); (case side3 => repeat (first | exact HR1.out | (with_reducible refine Kd.C_alloc ?_ _) | (with_reducible refine Kd.C_drewN ?_ _) | (with_reducible refine Kd.C_drew ?_))); (case side4 => exact HC1.out); rintro e w' ⟨rfl, ⟨nd, rfl⟩⟩; (try first | exact ⟨rfl, _, World.drewN_drewN _ _ _⟩ | exact ⟨rfl, _, Eq.trans (World.drewN_drewN _ _ _) (congrArg (World.drewN _) (Nat.add_assoc _ _ _))⟩))); try go_wp2_with (first | (go_at_call 10; (with_reducible refine (laws_big.calls _ _ l0 _ _ l1 true _ ?side1 ?side2 ?side3 ?side4 A3.out).mono ?_); (case side1 => repeat (first | exact HR0.out | (with_reducible refine Kd.C_alloc ?_ _) | (with_reducible refine Kd.C_drewN ?_ _) | (with_reducible refine Kd.C_drew ?_))); (case side2 => exact HC0.out); (case side3 => repeat (first | exact HR1.out | (with_reducible refine Kd.C_alloc ?_ _) | (with_reducible refine Kd.C_drewN ?_ _) | (with_reducible refine Kd.C_drew ?_))); (case side4 => exact HC1.out); rintro e w' ⟨rfl, ⟨nd, rfl⟩⟩; (try first | exact ⟨rfl, _, World.drewN_drewN _ _ _⟩ | exact ⟨rfl, _, Eq.trans (World.drewN_drewN _ _ _) (congrArg (World.drewN _) (Nat.add_assoc _ _ _))⟩))))
  go_ret
  exact ⟨by first | rfl | (simp [errW_none, errW_some] <;> rfl) | (simp [*, errW_none, errW_some] <;> rfl), bw HB⟩
 replace c4 := Bool.eq_false_iff.mpr c4
 subst c4
 have H1 : ((spec_DrawHeldAfter.f k l0).bind fun bt335 => ((impl_HeldAfter.f k bt335.1 bt335.2).bind fun bt339 => ((spec_HeldAfter.f k bt335.1 bt335.2).bind fun bt343 => ((impl_TipsAfter.f k bt335.1 bt335.2).bind fun bt347 => ((spec_TipsAfter.f k bt335.1 bt335.2).bind fun bt351 => ((impl_TipsAtDrop.f k bt335.1 bt335.2).bind fun bt355 => ((spec_TipsAtDrop.f k bt335.1 bt335.2).bind fun bt357 => ((impl_RoundOf.f k bt335.1).bind fun bt359 => ((spec_RoundOf.f k bt335.1).bind fun bt361 => (if (bt339.2 != bt343.2) = true then (laws_FnBucketsCount.j0 k l1 bt335.1 bt335.2 bt339.1 bt339.2 bt347.1 bt355.1 bt359.1 true) else ((laws_eSame.f k bt339.1 bt343.1).bind fun t363 => (if t363 = true then (if (bt347.2 != bt351.2) = true then (laws_FnBucketsCount.j0 k l1 bt335.1 bt335.2 bt339.1 bt339.2 bt347.1 bt355.1 bt359.1 true) else ((laws_eSame.f k bt347.1 bt351.1).bind fun t364 => (if t364 = true then (if (bt355.2 != bt357.2) = true then (laws_FnBucketsCount.j0 k l1 bt335.1 bt335.2 bt339.1 bt339.2 bt347.1 bt355.1 bt359.1 true) else (if bt355.1 = bt357.1 then (if (bt359.2 != bt361.2) = true then (laws_FnBucketsCount.j0 k l1 bt335.1 bt335.2 bt339.1 bt339.2 bt347.1 bt355.1 bt359.1 true) else (if bt359.1 = bt361.1 then (if (bt347.2 != bt339.2) = true then (laws_FnBucketsCount.j0 k l1 bt335.1 bt335.2 bt339.1 bt339.2 bt347.1 bt355.1 bt359.1 true) else ((impl_AreCaps.f bt335.1).bind fun t365 => (if (bt359.2 != t365) = true then (laws_FnBucketsCount.j0 k l1 bt335.1 bt335.2 bt339.1 bt339.2 bt347.1 bt355.1 bt359.1 true) else ((impl_AreCaps.f bt335.1).bind fun t366 => ((spec_AreCaps.f k bt335.1).bind fun t367 => (if (t366 != t367) = true then (laws_FnBucketsCount.j0 k l1 bt335.1 bt335.2 bt339.1 bt339.2 bt347.1 bt355.1 bt359.1 true) else (if bt339.2 = true then (laws_FnBucketsCount.j0 k l1 bt335.1 bt335.2 bt339.1 bt339.2 bt347.1 bt355.1 bt359.1 (bt355.2 != (decide (bt335.2 > 0)))) else (laws_FnBucketsCount.j0 k l1 bt335.1 bt335.2 bt339.1 bt339.2 bt347.1 bt355.1 bt359.1 (bt355.2 != false))))))))) else (laws_FnBucketsCount.j0 k l1 bt335.1 bt335.2 bt339.1 bt339.2 bt347.1 bt355.1 bt359.1 true))) else (laws_FnBucketsCount.j0 k l1 bt335.1 bt335.2 bt339.1 bt339.2 bt347.1 bt355.1 bt359.1 true))) else (laws_FnBucketsCount.j0 k l1 bt335.1 bt335.2 bt339.1 bt339.2 bt347.1 bt355.1 bt359.1 true)))) else (laws_FnBucketsCount.j0 k l1 bt335.1 bt335.2 bt339.1 bt339.2 bt347.1 bt355.1 bt359.1 true))))))))))))) = some r := by rw [if_neg (show ¬ (false = true) by decide)] at H; exact H
 clear H
 have H := H1
 clear H1
 replace H := Option.bind_eq_some_iff.mp H
 obtain ⟨⟨t335, t336⟩, A50, H⟩ := H
 replace H : ((impl_HeldAfter.f k t335 t336).bind fun bt339 => ((spec_HeldAfter.f k t335 t336).bind fun bt343 => ((impl_TipsAfter.f k t335 t336).bind fun bt347 => ((spec_TipsAfter.f k t335 t336).bind fun bt351 => ((impl_TipsAtDrop.f k t335 t336).bind fun bt355 => ((spec_TipsAtDrop.f k t335 t336).bind fun bt357 => ((impl_RoundOf.f k t335).bind fun bt359 => ((spec_RoundOf.f k t335).bind fun bt361 => (if (bt339.2 != bt343.2) = true then (laws_FnBucketsCount.j0 k l1 t335 t336 bt339.1 bt339.2 bt347.1 bt355.1 bt359.1 true) else ((laws_eSame.f k bt339.1 bt343.1).bind fun t363 => (if t363 = true then (if (bt347.2 != bt351.2) = true then (laws_FnBucketsCount.j0 k l1 t335 t336 bt339.1 bt339.2 bt347.1 bt355.1 bt359.1 true) else ((laws_eSame.f k bt347.1 bt351.1).bind fun t364 => (if t364 = true then (if (bt355.2 != bt357.2) = true then (laws_FnBucketsCount.j0 k l1 t335 t336 bt339.1 bt339.2 bt347.1 bt355.1 bt359.1 true) else (if bt355.1 = bt357.1 then (if (bt359.2 != bt361.2) = true then (laws_FnBucketsCount.j0 k l1 t335 t336 bt339.1 bt339.2 bt347.1 bt355.1 bt359.1 true) else (if bt359.1 = bt361.1 then (if (bt347.2 != bt339.2) = true then (laws_FnBucketsCount.j0 k l1 t335 t336 bt339.1 bt339.2 bt347.1 bt355.1 bt359.1 true) else ((impl_AreCaps.f t335).bind fun t365 => (if (bt359.2 != t365) = true then (laws_FnBucketsCount.j0 k l1 t335 t336 bt339.1 bt339.2 bt347.1 bt355.1 bt359.1 true) else ((impl_AreCaps.f t335).bind fun t366 => ((spec_AreCaps.f k t335).bind fun t367 => (if (t366 != t367) = true then (laws_FnBucketsCount.j0 k l1 t335 t336 bt339.1 bt339.2 bt347.1 bt355.1 bt359.1 true) else (if bt339.2 = true then (laws_FnBucketsCount.j0 k l1 t335 t336 bt339.1 bt339.2 bt347.1 bt355.1 bt359.1 (bt355.2 != (decide (t336 > 0)))) else (laws_FnBucketsCount.j0 k l1 t335 t336 bt339.1 bt339.2 bt347.1 bt355.1 bt359.1 (bt355.2 != false))))))))) else (laws_FnBucketsCount.j0 k l1 t335 t336 bt339.1 bt339.2 bt347.1 bt355.1 bt359.1 true))) else (laws_FnBucketsCount.j0 k l1 t335 t336 bt339.1 bt339.2 bt347.1 bt355.1 bt359.1 true))) else (laws_FnBucketsCount.j0 k l1 t335 t336 bt339.1 bt339.2 bt347.1 bt355.1 bt359.1 true)))) else (laws_FnBucketsCount.j0 k l1 t335 t336 bt339.1 bt339.2 bt347.1 bt355.1 bt359.1 true)))))))))))) = some r := H
 have A5 := Aside0.mk A50
 clear A50
 replace H := Option.bind_eq_some_iff.mp H
 obtain ⟨⟨t339, t340⟩, A60, H⟩ := H
 replace H : ((spec_HeldAfter.f k t335 t336).bind fun bt343 => ((impl_TipsAfter.f k t335 t336).bind fun bt347 => ((spec_TipsAfter.f k t335 t336).bind fun bt351 => ((impl_TipsAtDrop.f k t335 t336).bind fun bt355 => ((spec_TipsAtDrop.f k t335 t336).bind fun bt357 => ((impl_RoundOf.f k t335).bind fun bt359 => ((spec_RoundOf.f k t335).bind fun bt361 => (if (t340 != bt343.2) = true then (laws_FnBucketsCount.j0 k l1 t335 t336 t339 t340 bt347.1 bt355.1 bt359.1 true) else ((laws_eSame.f k t339 bt343.1).bind fun t363 => (if t363 = true then (if (bt347.2 != bt351.2) = true then (laws_FnBucketsCount.j0 k l1 t335 t336 t339 t340 bt347.1 bt355.1 bt359.1 true) else ((laws_eSame.f k bt347.1 bt351.1).bind fun t364 => (if t364 = true then (if (bt355.2 != bt357.2) = true then (laws_FnBucketsCount.j0 k l1 t335 t336 t339 t340 bt347.1 bt355.1 bt359.1 true) else (if bt355.1 = bt357.1 then (if (bt359.2 != bt361.2) = true then (laws_FnBucketsCount.j0 k l1 t335 t336 t339 t340 bt347.1 bt355.1 bt359.1 true) else (if bt359.1 = bt361.1 then (if (bt347.2 != t340) = true then (laws_FnBucketsCount.j0 k l1 t335 t336 t339 t340 bt347.1 bt355.1 bt359.1 true) else ((impl_AreCaps.f t335).bind fun t365 => (if (bt359.2 != t365) = true then (laws_FnBucketsCount.j0 k l1 t335 t336 t339 t340 bt347.1 bt355.1 bt359.1 true) else ((impl_AreCaps.f t335).bind fun t366 => ((spec_AreCaps.f k t335).bind fun t367 => (if (t366 != t367) = true then (laws_FnBucketsCount.j0 k l1 t335 t336 t339 t340 bt347.1 bt355.1 bt359.1 true) else (if t340 = true then (laws_FnBucketsCount.j0 k l1 t335 t336 t339 t340 bt347.1 bt355.1 bt359.1 (bt355.2 != (decide (t336 > 0)))) else (laws_FnBucketsCount.j0 k l1 t335 t336 t339 t340 bt347.1 bt355.1 bt359.1 (bt355.2 != false))))))))) else (laws_FnBucketsCount.j0 k l1 t335 t336 t339 t340 bt347.1 bt355.1 bt359.1 true))) else (laws_FnBucketsCount.j0 k l1 t335 t336 t339 t340 bt347.1 bt355.1 bt359.1 true))) else (laws_FnBucketsCount.j0 k l1 t335 t336 t339 t340 bt347.1 bt355.1 bt359.1 true)))) else (laws_FnBucketsCount.j0 k l1 t335 t336 t339 t340 bt347.1 bt355.1 bt359.1 true))))))))))) = some r := H
 have A6 := Aside0.mk A60
 clear A60
 replace H := Option.bind_eq_some_iff.mp H
 obtain ⟨⟨t343, t344⟩, A70, H⟩ := H
 replace H : ((impl_TipsAfter.f k t335 t336).bind fun bt347 => ((spec_TipsAfter.f k t335 t336).bind fun bt351 => ((impl_TipsAtDrop.f k t335 t336).bind fun bt355 => ((spec_TipsAtDrop.f k t335 t336).bind fun bt357 => ((impl_RoundOf.f k t335).bind fun bt359 => ((spec_RoundOf.f k t335).bind fun bt361 => (if (t340 != t344) = true then (laws_FnBucketsCount.j0 k l1 t335 t336 t339 t340 bt347.1 bt355.1 bt359.1 true) else ((laws_eSame.f k t339 t343).bind fun t363 => (if t363 = true then (if (bt347.2 != bt351.2) = true then (laws_FnBucketsCount.j0 k l1 t335 t336 t339 t340 bt347.1 bt355.1 bt359.1 true) else ((laws_eSame.f k bt347.1 bt351.1).bind fun t364 => (if t364 = true then (if (bt355.2 != bt357.2) = true then (laws_FnBucketsCount.j0 k l1 t335 t336 t339 t340 bt347.1 bt355.1 bt359.1 true) else (if bt355.1 = bt357.1 then (if (bt359.2 != bt361.2) = true then (laws_FnBucketsCount.j0 k l1 t335 t336 t339 t340 bt347.1 bt355.1 bt359.1 true) else (if bt359.1 = bt361.1 then (if (bt347.2 != t340) = true then (laws_FnBucketsCount.j0 k l1 t335 t336 t339 t340 bt347.1 bt355.1 bt359.1 true) else ((impl_AreCaps.f t335).bind fun t365 => (if (bt359.2 != t365) = true then (laws_FnBucketsCount.j0 k l1 t335 t336 t339 t340 bt347.1 bt355.1 bt359.1 true) else ((impl_AreCaps.f t335).bind fun t366 => ((spec_AreCaps.f k t335).bind fun t367 => (if (t366 != t367) = true then (laws_FnBucketsCount.j0 k l1 t335 t336 t339 t340 bt347.1 bt355.1 bt359.1 true) else (if t340 = true then (laws_FnBucketsCount.j0 k l1 t335 t336 t339 t340 bt347.1 bt355.1 bt359.1 (bt355.2 != (decide (t336 > 0)))) else (laws_FnBucketsCount.j0 k l1 t335 t336 t339 t340 bt347.1 bt355.1 bt359.1 (bt355.2 != false))))))))) else (laws_FnBucketsCount.j0 k l1 t335 t336 t339 t340 bt347.1 bt355.1 bt359.1 true))) else (laws_FnBucketsCount.j0 k l1 t335 t336 t339 t340 bt347.1 bt355.1 bt359.1 true))) else (laws_FnBucketsCount.j0 k l1 t335 t336 t339 t340 bt347.1 bt355.1 bt359.1 true)))) else (laws_FnBucketsCount.j0 k l1 t335 t336 t339 t340 bt347.1 bt355.1 bt359.1 true)))))))))) = some r := H
 have A7 := Aside0.mk A70
 clear A70
 replace H := Option.bind_eq_some_iff.mp H
 obtain ⟨⟨t347, t348⟩, A80, H⟩ := H
 replace H : ((spec_TipsAfter.f k t335 t336).bind fun bt351 => ((impl_TipsAtDrop.f k t335 t336).bind fun bt355 => ((spec_TipsAtDrop.f k t335 t336).bind fun bt357 => ((impl_RoundOf.f k t335).bind fun bt359 => ((spec_RoundOf.f k t335).bind fun bt361 => (if (t340 != t344) = true then (laws_FnBucketsCount.j0 k l1 t335 t336 t339 t340 t347 bt355.1 bt359.1 true) else ((laws_eSame.f k t339 t343).bind fun t363 => (if t363 = true then (if (t348 != bt351.2) = true then (laws_FnBucketsCount.j0 k l1 t335 t336 t339 t340 t347 bt355.1 bt359.1 true) else ((laws_eSame.f k t347 bt351.1).bind fun t364 => (if t364 = true then (if (bt355.2 != bt357.2) = true then (laws_FnBucketsCount.j0 k l1 t335 t336 t339 t340 t347 bt355.1 bt359.1 true) else (if bt355.1 = bt357.1 then (if (bt359.2 != bt361.2) = true then (laws_FnBucketsCount.j0 k l1 t335 t336 t339 t340 t347 bt355.1 bt359.1 true) else (if bt359.1 = bt361.1 then (if (t348 != t340) = true then (laws_FnBucketsCount.j0 k l1 t335 t336 t339 t340 t347 bt355.1 bt359.1 true) else ((impl_AreCaps.f t335).bind fun t365 => (if (bt359.2 != t365) = true then (laws_FnBucketsCount.j0 k l1 t335 t336 t339 t340 t347 bt355.1 bt359.1 true) else ((impl_AreCaps.f t335).bind fun t366 => ((spec_AreCaps.f k t335).bind fun t367 => (if (t366 != t367) = true then (laws_FnBucketsCount.j0 k l1 t335 t336 t339 t340 t347 bt355.1 bt359.1 true) else (if t340 = true then (laws_FnBucketsCount.j0 k l1 t335 t336 t339 t340 t347 bt355.1 bt359.1 (bt355.2 != (decide (t336 > 0)))) else (laws_FnBucketsCount.j0 k l1 t335 t336 t339 t340 t347 bt355.1 bt359.1 (bt355.2 != false))))))))) else (laws_FnBucketsCount.j0 k l1 t335 t336 t339 t340 t347 bt355.1 bt359.1 true))) else (laws_FnBucketsCount.j0 k l1 t335 t336 t339 t340 t347 bt355.1 bt359.1 true))) else (laws_FnBucketsCount.j0 k l1 t335 t336 t339 t340 t347 bt355.1 bt359.1 true)))) else (laws_FnBucketsCount.j0 k l1 t335 t336 t339 t340 t347 bt355.1 bt359.1 true))))))))) = some r := H
 have A8 := Aside0.mk A80
 clear A80
 replace H := Option.bind_eq_some_iff.mp H
 obtain ⟨⟨t351, t352⟩, A90, H⟩ := H
 replace H : ((impl_TipsAtDrop.f k t335 t336).bind fun bt355 => ((spec_TipsAtDrop.f k t335 t336).bind fun bt357 => ((impl_RoundOf.f k t335).bind fun bt359 => ((spec_RoundOf.f k t335).bind fun bt361 => (if (t340 != t344) = true then (laws_FnBucketsCount.j0 k l1 t335 t336 t339 t340 t347 bt355.1 bt359.1 true) else ((laws_eSame.f k t339 t343).bind fun t363 => (if t363 = true then (if (t348 != t352) = true then (laws_FnBucketsCount.j0 k l1 t335 t336 t339 t340 t347 bt355.1 bt359.1 true) else ((laws_eSame.f k t347 t351).bind fun t364 => (if t364 = true then (if (bt355.2 != bt357.2) = true then (laws_FnBucketsCount.j0 k l1 t335 t336 t339 t340 t347 bt355.1 bt359.1 true) else (if bt355.1 = bt357.1 then (if (bt359.2 != bt361.2) = true then (laws_FnBucketsCount.j0 k l1 t335 t336 t339 t340 t347 bt355.1 bt359.1 true) else (if bt359.1 = bt361.1 then (if (t348 != t340) = true then (laws_FnBucketsCount.j0 k l1 t335 t336 t339 t340 t347 bt355.1 bt359.1 true) else ((impl_AreCaps.f t335).bind fun t365 => (if (bt359.2 != t365) = true then (laws_FnBucketsCount.j0 k l1 t335 t336 t339 t340 t347 bt355.1 bt359.1 true) else ((impl_AreCaps.f t335).bind fun t366 => ((spec_AreCaps.f k t335).bind fun t367 => (if (t366 != t367) = true then (laws_FnBucketsCount.j0 k l1 t335 t336 t339 t340 t347 bt355.1 bt359.1 true) else (if t340 = true then (laws_FnBucketsCount.j0 k l1 t335 t336 t339 t340 t347 bt355.1 bt359.1 (bt355.2 != (decide (t336 > 0)))) else (laws_FnBucketsCount.j0 k l1 t335 t336 t339 t340 t347 bt355.1 bt359.1 (bt355.2 != false))))))))) else (laws_FnBucketsCount.j0 k l1 t335 t336 t339 t340 t347 bt355.1 bt359.1 true))) else (laws_FnBucketsCount.j0 k l1 t335 t336 t339 t340 t347 bt355.1 bt359.1 true))) else (laws_FnBucketsCount.j0 k l1 t335 t336 t339 t340 t347 bt355.1 bt359.1 true)))) else (laws_FnBucketsCount.j0 k l1 t335 t336 t339 t340 t347 bt355.1 bt359.1 true)))))))) = some r := H
 have A9 := Aside0.mk A90
 clear A90
 replace H := Option.bind_eq_some_iff.mp H
 obtain ⟨⟨t355, t356⟩, A100, H⟩ := H
 replace H : ((spec_TipsAtDrop.f k t335 t336).bind fun bt357 => ((impl_RoundOf.f k t335).bind fun bt359 => ((spec_RoundOf.f k t335).bind fun bt361 => (if (t340 != t344) = true then (laws_FnBucketsCount.j0 k l1 t335 t336 t339 t340 t347 t355 bt359.1 true) else ((laws_eSame.f k t339 t343).bind fun t363 => (if t363 = true then (if (t348 != t352) = true then (laws_FnBucketsCount.j0 k l1 t335 t336 t339 t340 t347 t355 bt359.1 true) else ((laws_eSame.f k t347 t351).bind fun t364 => (if t364 = true then (if (t356 != bt357.2) = true then (laws_FnBucketsCount.j0 k l1 t335 t336 t339 t340 t347 t355 bt359.1 true) else (if t355 = bt357.1 then (if (bt359.2 != bt361.2) = true then (laws_FnBucketsCount.j0 k l1 t335 t336 t339 t340 t347 t355 bt359.1 true) else (if bt359.1 = bt361.1 then (if (t348 != t340) = true then (laws_FnBucketsCount.j0 k l1 t335 t336 t339 t340 t347 t355 bt359.1 true) else ((impl_AreCaps.f t335).bind fun t365 => (if (bt359.2 != t365) = true then (laws_FnBucketsCount.j0 k l1 t335 t336 t339 t340 t347 t355 bt359.1 true) else ((impl_AreCaps.f t335).bind fun t366 => ((spec_AreCaps.f k t335).bind fun t367 => (if (t366 != t367) = true then (laws_FnBucketsCount.j0 k l1 t335 t336 t339 t340 t347 t355 bt359.1 true) else (if t340 = true then (laws_FnBucketsCount.j0 k l1 t335 t336 t339 t340 t347 t355 bt359.1 (t356 != (decide (t336 > 0)))) else (laws_FnBucketsCount.j0 k l1 t335 t336 t339 t340 t347 t355 bt359.1 (t356 != false))))))))) else (laws_FnBucketsCount.j0 k l1 t335 t336 t339 t340 t347 t355 bt359.1 true))) else (laws_FnBucketsCount.j0 k l1 t335 t336 t339 t340 t347 t355 bt359.1 true))) else (laws_FnBucketsCount.j0 k l1 t335 t336 t339 t340 t347 t355 bt359.1 true)))) else (laws_FnBucketsCount.j0 k l1 t335 t336 t339 t340 t347 t355 bt359.1 true))))))) = some r := H
 have A10 := Aside0.mk A100
 clear A100
 replace H := Option.bind_eq_some_iff.mp H
 obtain ⟨⟨t357, t358⟩, A110, H⟩ := H
 replace H : ((impl_RoundOf.f k t335).bind fun bt359 => ((spec_RoundOf.f k t335).bind fun bt361 => (if (t340 != t344) = true then (laws_FnBucketsCount.j0 k l1 t335 t336 t339 t340 t347 t355 bt359.1 true) else ((laws_eSame.f k t339 t343).bind fun t363 => (if t363 = true then (if (t348 != t352) = true then (laws_FnBucketsCount.j0 k l1 t335 t336 t339 t340 t347 t355 bt359.1 true) else ((laws_eSame.f k t347 t351).bind fun t364 => (if t364 = true then (if (t356 != t358) = true then (laws_FnBucketsCount.j0 k l1 t335 t336 t339 t340 t347 t355 bt359.1 true) else (if t355 = t357 then (if (bt359.2 != bt361.2) = true then (laws_FnBucketsCount.j0 k l1 t335 t336 t339 t340 t347 t355 bt359.1 true) else (if bt359.1 = bt361.1 then (if (t348 != t340) = true then (laws_FnBucketsCount.j0 k l1 t335 t336 t339 t340 t347 t355 bt359.1 true) else ((impl_AreCaps.f t335).bind fun t365 => (if (bt359.2 != t365) = true then (laws_FnBucketsCount.j0 k l1 t335 t336 t339 t340 t347 t355 bt359.1 true) else ((impl_AreCaps.f t335).bind fun t366 => ((spec_AreCaps.f k t335).bind fun t367 => (if (t366 != t367) = true then (laws_FnBucketsCount.j0 k l1 t335 t336 t339 t340 t347 t355 bt359.1 true) else (if t340 = true then (laws_FnBucketsCount.j0 k l1 t335 t336 t339 t340 t347 t355 bt359.1 (t356 != (decide (t336 > 0)))) else (laws_FnBucketsCount.j0 k l1 t335 t336 t339 t340 t347 t355 bt359.1 (t356 != false))))))))) else (laws_FnBucketsCount.j0 k l1 t335 t336 t339 t340 t347 t355 bt359.1 true))) else (laws_FnBucketsCount.j0 k l1 t335 t336 t339 t340 t347 t355 bt359.1 true))) else (laws_FnBucketsCount.j0 k l1 t335 t336 t339 t340 t347 t355 bt359.1 true)))) else (laws_FnBucketsCount.j0 k l1 t335 t336 t339 t340 t347 t355 bt359.1 true)))))) = some r := H
 have A11 := Aside0.mk A110
 clear A110
 replace H := Option.bind_eq_some_iff.mp H
 obtain ⟨⟨t359, t360⟩, A120, H⟩ := H
 replace H : ((spec_RoundOf.f k t335).bind fun bt361 => (if (t340 != t344) = true then (laws_FnBucketsCount.j0 k l1 t335 t336 t339 t340 t347 t355 t359 true) else ((laws_eSame.f k t339 t343).bind fun t363 => (if t363 = true then (if (t348 != t352) = true then (laws_FnBucketsCount.j0 k l1 t335 t336 t339 t340 t347 t355 t359 true) else ((laws_eSame.f k t347 t351).bind fun t364 => (if t364 = true then (if (t356 != t358) = true then (laws_FnBucketsCount.j0 k l1 t335 t336 t339 t340 t347 t355 t359 true) else (if t355 = t357 then (if (t360 != bt361.2) = true then (laws_FnBucketsCount.j0 k l1 t335 t336 t339 t340 t347 t355 t359 true) else (if t359 = bt361.1 then (if (t348 != t340) = true then (laws_FnBucketsCount.j0 k l1 t335 t336 t339 t340 t347 t355 t359 true) else ((impl_AreCaps.f t335).bind fun t365 => (if (t360 != t365) = true then (laws_FnBucketsCount.j0 k l1 t335 t336 t339 t340 t347 t355 t359 true) else ((impl_AreCaps.f t335).bind fun t366 => ((spec_AreCaps.f k t335).bind fun t367 => (if (t366 != t367) = true then (laws_FnBucketsCount.j0 k l1 t335 t336 t339 t340 t347 t355 t359 true) else (if t340 = true then (laws_FnBucketsCount.j0 k l1 t335 t336 t339 t340 t347 t355 t359 (t356 != (decide (t336 > 0)))) else (laws_FnBucketsCount.j0 k l1 t335 t336 t339 t340 t347 t355 t359 (t356 != false))))))))) else (laws_FnBucketsCount.j0 k l1 t335 t336 t339 t340 t347 t355 t359 true))) else (laws_FnBucketsCount.j0 k l1 t335 t336 t339 t340 t347 t355 t359 true))) else (laws_FnBucketsCount.j0 k l1 t335 t336 t339 t340 t347 t355 t359 true)))) else (laws_FnBucketsCount.j0 k l1 t335 t336 t339 t340 t347 t355 t359 true))))) = some r := H
 have A12 := Aside0.mk A120
 clear A120
 replace H := Option.bind_eq_some_iff.mp H
 obtain ⟨⟨t361, t362⟩, A130, H⟩ := H
 replace H : (if (t340 != t344) = true then (laws_FnBucketsCount.j0 k l1 t335 t336 t339 t340 t347 t355 t359 true) else ((laws_eSame.f k t339 t343).bind fun t363 => (if t363 = true then (if (t348 != t352) = true then (laws_FnBucketsCount.j0 k l1 t335 t336 t339 t340 t347 t355 t359 true) else ((laws_eSame.f k t347 t351).bind fun t364 => (if t364 = true then (if (t356 != t358) = true then (laws_FnBucketsCount.j0 k l1 t335 t336 t339 t340 t347 t355 t359 true) else (if t355 = t357 then (if (t360 != t362) = true then (laws_FnBucketsCount.j0 k l1 t335 t336 t339 t340 t347 t355 t359 true) else (if t359 = t361 then (if (t348 != t340) = true then (laws_FnBucketsCount.j0 k l1 t335 t336 t339 t340 t347 t355 t359 true) else ((impl_AreCaps.f t335).bind fun t365 => (if (t360 != t365) = true then (laws_FnBucketsCount.j0 k l1 t335 t336 t339 t340 t347 t355 t359 true) else ((impl_AreCaps.f t335).bind fun t366 => ((spec_AreCaps.f k t335).bind fun t367 => (if (t366 != t367) = true then (laws_FnBucketsCount.j0 k l1 t335 t336 t339 t340 t347 t355 t359 true) else (if t340 = true then (laws_FnBucketsCount.j0 k l1 t335 t336 t339 t340 t347 t355 t359 (t356 != (decide (t336 > 0)))) else (laws_FnBucketsCount.j0 k l1 t335 t336 t339 t340 t347 t355 t359 (t356 != false))))))))) else (laws_FnBucketsCount.j0 k l1 t335 t336 t339 t340 t347 t355 t359 true))) else (laws_FnBucketsCount.j0 k l1 t335 t336 t339 t340 t347 t355 t359 true))) else (laws_FnBucketsCount.j0 k l1 t335 t336 t339 t340 t347 t355 t359 true)))) else (laws_FnBucketsCount.j0 k l1 t335 t336 t339 t340 t347 t355 t359 true)))) = some r := H
 have A13 := Aside0.mk A130
 clear A130
 have HC14 := Aside0.mk H
 clear H
 go_enter Try.func7, Try.ntmps7
 go_upto_region 12 with (first | (go_at_call 10; (with_reducible refine (laws_big.calls _ _ l0 _ _ l1 false _ ?side1 ?side2 ?side3 ?side4 A3.out).mono ?_); (case side1 => repeat (first | exact HR0.out | (with_reducible refine Kd.C_alloc ?_ _) | (with_reducible refine Kd.C_drewN ?_ _) | (with_reducible refine Kd.C_drew ?_))); (case side2 => exact HC0.out); (case side3 => repeat (first | exact HR1.out | (with_reducible refine Kd.C_alloc ?_ _) | (with_reducible refine Kd.C_drewN ?_ _) | (with_reducible refine Kd.C_drew ?_))); (case side4 => exact HC1.out); rintro e w' ⟨rfl, ⟨nd, rfl⟩⟩; (try first | exact ⟨rfl, _, World.drewN_drewN _ _ _⟩ | exact ⟨rfl, _, Eq.trans (World.drewN_drewN _ _ _) (congrArg (World.drewN _) (Nat.add_assoc _ _ _))⟩)) | (go_at_call 79; (with_reducible refine (spec_DrawHeldAfter.calls k _ _ l0 t335 t336 _ ?side1 ?side2 A5.out).mono ?_); (case side1 => repeat (first | exact HR0.out | (with_reducible refine Kd.C_alloc ?_ _) | (with_reducible refine Kd.C_drewN ?_ _) | (with_reducible refine Kd.C_drew ?_))); (case side2 => exact HC0.out); rintro e w15 ⟨v337, rfl, ho0, hb⟩; have HO338 := lo ho0 HB; replace HB := bs HB hb; (try clear hb); (try clear ho0); obtain ⟨Ao16, co16, eo16⟩ := Kd.R_slice HO338.out; subst eo16) | (go_at_call 80; (with_reducible refine (impl_HeldAfter.calls k _ _ t335 t336 t339 t340 _ ?side1 ?side2 A6.out).mono ?_); (case side1 => exact cr HO338); (case side2 => exact (Kd.R_reads' HO338.out).2.1); rintro e w17 ⟨v341, rfl, ho0, hb⟩; have HO342 := Aside0.mk (Kd.R_lower (Kd.R_new' ho0 (Kd.R_lt (rk HO338))) (below_size (bw HB))); replace HO338 := Aside0.mk (Kd.R_elder' (rk HO338) (Kd.R_base ho0) hb); replace HB := bs HB hb; (try clear hb); (try clear ho0)) | (go_at_call 81; (with_reducible refine (spec_HeldAfter.calls k _ _ t335 t336 t343 t344 _ ?side1 ?side2 A7.out).mono ?_); (case side1 => exact cr HO338); (case side2 => exact (Kd.R_reads' HO338.out).2.1); rintro e w18 ⟨v345, rfl, ho0, hb⟩; have HO346 := Aside0.mk (Kd.R_lower (Kd.R_new' (Kd.R_new' ho0 (Kd.R_lt (rk HO338))) (Kd.R_lt (rk HO342))) (below_size (bw HB))); replace HO338 := Aside0.mk (Kd.R_elder' (rk HO338) (Kd.R_base ho0) hb); replace HO342 := Aside0.mk (Kd.R_elder' (rk HO342) (Kd.R_base ho0) hb); replace HB := bs HB hb; (try clear hb); (try clear ho0)) | (go_at_call 82; (with_reducible refine (impl_TipsAfter.calls k _ _ t335 t336 t347 t348 _ ?side1 ?side2 A8.out).mono ?_); (case side1 => exact cr HO338); (case side2 => exact (Kd.R_reads' HO338.out).2.1); rintro e w19 ⟨v349, rfl, ho0, hb⟩; have HO350 := Aside0.mk (Kd.R_lower (Kd.R_new' (Kd.R_new' (Kd.R_new' ho0 (Kd.R_lt (rk HO338))) (Kd.R_lt (rk HO342))) (Kd.R_lt (rk HO346))) (below_size (bw HB))); replace HO338 := Aside0.mk (Kd.R_elder' (rk HO338) (Kd.R_base ho0) hb); replace HO342 := Aside0.mk (Kd.R_elder' (rk HO342) (Kd.R_base ho0) hb); replace HO346 := Aside0.mk (Kd.R_elder' (rk HO346) (Kd.R_base ho0) hb); replace HB := bs HB hb; (try clear hb); (try clear ho0)) | (go_at_call 83; (with_reducible refine (spec_TipsAfter.calls k _ _ t335 t336 t351 t352 _ ?side1 ?side2 A9.out).mono ?_); (case side1 => exact cr HO338); (case side2 => exact (Kd.R_reads' HO338.out).2.1); rintro e w20 ⟨v353, rfl, ho0, hb⟩; have HO354 := Aside0.mk (Kd.R_lower (Kd.R_new' (Kd.R_new' (Kd.R_new' (Kd.R_new' ho0 (Kd.R_lt (rk HO338))) (Kd.R_lt (rk HO342))) (Kd.R_lt (rk HO346))) (Kd.R_lt (rk HO350))) (below_size (bw HB))); replace HO338 := Aside0.mk (Kd.R_elder' (rk HO338) (Kd.R_base ho0) hb); replace HO342 := Aside0.mk (Kd.R_elder' (rk HO342) (Kd.R_base ho0) hb); replace HO346 := Aside0.mk (Kd.R_elder' (rk HO346) (Kd.R_base ho0) hb); replace HO350 := Aside0.mk (Kd.R_elder' (rk HO350) (Kd.R_base ho0) hb); replace HB := bs HB hb; (try clear hb); (try clear ho0)) | (go_at_call 84; (with_reducible refine (impl_TipsAtDrop.calls k _ _ t335 t336 t355 t356 _ ?side1 ?side2 A10.out).mono ?_); (case side1 => exact cr HO338); (case side2 => exact (Kd.R_reads' HO338.out).2.1); rintro e w21 ⟨rfl, hb⟩; replace HO338 := rb HO338 hb; replace HO342 := rb HO342 hb; replace HO346 := rb HO346 hb; replace HO350 := rb HO350 hb; replace HO354 := rb HO354 hb; replace HB := bs HB hb; (try clear hb)) | (go_at_call 85; (with_reducible refine (spec_TipsAtDrop.calls k _ _ t335 t336 t357 t358 _ ?side1 ?side2 A11.out).mono ?_); (case side1 => exact cr HO338); (case side2 => exact (Kd.R_reads' HO338.out).2.1); rintro e w' ⟨rfl, ⟨nd, rfl⟩⟩; (try first | exact ⟨rfl, _, World.drewN_drewN _ _ _⟩ | exact ⟨rfl, _, Eq.trans (World.drewN_drewN _ _ _) (congrArg (World.drewN _) (Nat.add_assoc _ _ _))⟩)) | (go_at_call 86; (with_reducible refine (impl_RoundOf.calls k _ _ t335 t359 t360 _ ?side1 ?side2 A12.out).mono ?_); (case side1 => exact cr HO338); (case side2 => exact (Kd.R_reads' HO338.out).2.1); rintro e w22 ⟨rfl, hb⟩; replace HO338 := rb HO338 hb; replace HO342 := rb HO342 hb; replace HO346 := rb HO346 hb; replace HO350 := rb HO350 hb; replace HO354 := rb HO354 hb; replace HB := bs HB hb; (try clear hb)) | (go_at_call 87; (with_reducible refine (spec_RoundOf.calls k _ _ t335 t361 t362 _ ?side1 ?side2 A13.out).mono ?_); (case side1 => exact cr HO338); (case side2 => exact (Kd.R_reads' HO338.out).2.1); rintro e w' ⟨rfl, ⟨nd, rfl⟩⟩; (try first | exact ⟨rfl, _, World.drewN_drewN _ _ _⟩ | exact ⟨rfl, _, Eq.trans (World.drewN_drewN _ _ _) (congrArg (World.drewN _) (Nat.add_assoc _ _ _))⟩)))
 repeat (go_quiet (first | (go_at_call 10; (with_reducible refine (laws_big.calls _ _ l0 _ _ l1 false _ ?side1 ?side2 ?side3 ?side4 A3.out).mono ?_); (case side1 => repeat (first | exact HR0.out | (with_reducible refine Kd.C_alloc ?_ _) | (with_reducible refine Kd.C_drewN ?_ _) | (with_reducible refine Kd.C_drew ?_))); (case side2 => exact HC0.out); (case side3 => repeat (first | exact HR1.out | (with_reducible refine Kd.C_alloc ?_ _) | (with_reducible refine Kd.C_drewN ?_ _) | (with_reducible refine Kd.C_drew ?_))); (case side4 => exact HC1.out); rintro e w' ⟨rfl, ⟨nd, rfl⟩⟩; (try first | exact ⟨rfl, _, World.drewN_drewN _ _ _⟩ | exact ⟨rfl, _, Eq.trans (World.drewN_drewN _ _ _) (congrArg (World.drewN _) (Nat.add_assoc _ _ _))⟩)) | (go_at_call 79; (with_reducible refine (spec_DrawHeldAfter.calls k _ _ l0 t335 t336 _ ?side1 ?side2 A5.out).mono ?_); (case side1 => repeat (first | exact HR0.out | (with_reducible refine Kd.C_alloc ?_ _) | (with_reducible refine Kd.C_drewN ?_ _) | (with_reducible refine Kd.C_drew ?_))); (case side2 => exact HC0.out); rintro e w15 ⟨v337, rfl, ho0, hb⟩; have n0_ := lo ho0 HB; have n1_ := bs HB hb; clear HB; have HO338 := n0_; have HB := n1_; clear n0_ n1_; (try clear hb); (try clear hb2); (try clear hk); (try clear hi); (try clear ho0); obtain ⟨Ao16, co16, eo16⟩ := Kd.R_slice HO338.out; subst eo16) | (go_at_call 80; (with_reducible refine (impl_HeldAfter.calls k _ _ t335 t336 t339 t340 _ ?side1 ?side2 A6.out).mono ?_); (case side1 => exact cr HO338); (case side2 => exact (Kd.R_reads' HO338.out).2.1); rintro e w17 ⟨v341, rfl, ho0, hb⟩; have n0_ := Aside0.mk (Kd.R_elder' (rk HO338) (Kd.R_base ho0) hb); have n1_ := Aside0.mk (Kd.R_lower (Kd.R_new' ho0 (Kd.R_lt (rk HO338))) (below_size (bw HB))); have n2_ := bs HB hb; clear HO338; clear HB; have HO338 := n0_; have HO342 := n1_; have HB := n2_; clear n0_ n1_ n2_; (try clear hb); (try clear hb2); (try clear hk); (try clear hi); (try clear ho0)) | (go_at_call 81; (with_reducible refine (spec_HeldAfter.calls k _ _ t335 t336 t343 t344 _ ?side1 ?side2 A7.out).mono ?_); (case side1 => exact cr HO338); (case side2 => exact (Kd.R_reads' HO338.out).2.1); rintro e w18 ⟨v345, rfl, ho0, hb⟩; have n0_ := Aside0.mk (Kd.R_elder' (rk HO338) (Kd.R_base ho0) hb); have n1_ := Aside0.mk (Kd.R_elder' (rk HO342) (Kd.R_base ho0) hb); have n2_ := Aside0.mk (Kd.R_lower (Kd.R_new' (Kd.R_new' ho0 (Kd.R_lt (rk HO338))) (Kd.R_lt (rk HO342))) (below_size (bw HB))); have n3_ := bs HB hb; clear HO338; clear HO342; clear HB; have HO338 := n0_; have HO342 := n1_; have HO346 := n2_; have HB := n3_; clear n0_ n1_ n2_ n3_; (try clear hb); (try clear hb2); (try clear hk); (try clear hi); (try clear ho0)) | (go_at_call 82; (with_reducible refine (impl_TipsAfter.calls k _ _ t335 t336 t347 t348 _ ?side1 ?side2 A8.out).mono ?_); (case side1 => exact cr HO338); (case side2 => exact (Kd.R_reads' HO338.out).2.1); rintro e w19 ⟨v349, rfl, ho0, hb⟩; have n0_ := Aside0.mk (Kd.R_elder' (rk HO338) (Kd.R_base ho0) hb); have n1_ := Aside0.mk (Kd.R_elder' (rk HO342) (Kd.R_base ho0) hb); have n2_ := Aside0.mk (Kd.R_elder' (rk HO346) (Kd.R_base ho0) hb); have n3_ := Aside0.mk (Kd.R_lower (Kd.R_new' (Kd.R_new' (Kd.R_new' ho0 (Kd.R_lt (rk HO338))) (Kd.R_lt (rk HO342))) (Kd.R_lt (rk HO346))) (below_size (bw HB))); have n4_ := bs HB hb; clear HO338; clear HO342; clear HO346; clear HB; have HO338 := n0_; have HO342 := n1_; have HO346 := n2_; have HO350 := n3_; have HB := n4_; clear n0_ n1_ n2_ n3_ n4_; (try clear hb); (try clear hb2); (try clear hk); (try clear hi); (try clear ho0)) | (go_at_call 83; (with_reducible refine (spec_TipsAfter.calls k _ _ t335 t336 t351 t352 _ ?side1 ?side2 A9.out).mono ?_); (case side1 => exact cr HO338); (case side2 => exact (Kd.R_reads' HO338.out).2.1); rintro e w20 ⟨v353, rfl, ho0, hb⟩; have n0_ := Aside0.mk (Kd.R_elder' (rk HO338) (Kd.R_base ho0) hb); have n1_ := Aside0.mk (Kd.R_elder' (rk HO342) (Kd.R_base ho0) hb); have n2_ := Aside0.mk (Kd.R_elder' (rk HO346) (Kd.R_base ho0) hb); have n3_ := Aside0.mk (Kd.R_elder' (rk HO350) (Kd.R_base ho0) hb); have n4_ := Aside0.mk (Kd.R_lower (Kd.R_new' (Kd.R_new' (Kd.R_new' (Kd.R_new' ho0 (Kd.R_lt (rk HO338))) (Kd.R_lt (rk HO342))) (Kd.R_lt (rk HO346))) (Kd.R_lt (rk HO350))) (below_size (bw HB))); have n5_ := bs HB hb; clear HO338; clear HO342; clear HO346; clear HO350; clear HB; have HO338 := n0_; have HO342 := n1_; have HO346 := n2_; have HO350 := n3_; have HO354 := n4_; have HB := n5_; clear n0_ n1_ n2_ n3_ n4_ n5_; (try clear hb); (try clear hb2); (try clear hk); (try clear hi); (try clear ho0)) | (go_at_call 84; (with_reducible refine (impl_TipsAtDrop.calls k _ _ t335 t336 t355 t356 _ ?side1 ?side2 A10.out).mono ?_); (case side1 => exact cr HO338); (case side2 => exact (Kd.R_reads' HO338.out).2.1); rintro e w21 ⟨rfl, hb⟩; have n0_ := rb HO338 hb; have n1_ := rb HO342 hb; have n2_ := rb HO346 hb; have n3_ := rb HO350 hb; have n4_ := rb HO354 hb; have n5_ := bs HB hb; clear HO338; clear HO342; clear HO346; clear HO350; clear HO354; clear HB; have HO338 := n0_; have HO342 := n1_; have HO346 := n2_; have HO350 := n3_; have HO354 := n4_; have HB := n5_; clear n0_ n1_ n2_ n3_ n4_ n5_; (try clear hb); (try clear hb2); (try clear hk); (try clear hi)) | (go_at_call 85; (with_reducible refine (spec_TipsAtDrop.calls k _ _ t335 t336 t357 t358 _ ?side1 ?side2 A11.out).mono ?_); (case side1 => exact cr HO338); (case side2 => exact (Kd.R_reads' HO338.out).2.1); rintro e w' ⟨rfl, ⟨nd, rfl⟩⟩; (try first | exact ⟨rfl, _, World.drewN_drewN _ _ _⟩ | exact ⟨rfl, _, Eq.trans (World.drewN_drewN _ _ _) (congrArg (World.drewN _) (Nat.add_assoc _ _ _))⟩)) | (go_at_call 86; (with_reducible refine (impl_RoundOf.calls k _ _ t335 t359 t360 _ ?side1 ?side2 A12.out).mono ?_); (case side1 => exact cr HO338); (case side2 => exact (Kd.R_reads' HO338.out).2.1); rintro e w22 ⟨rfl, hb⟩; have n0_ := rb HO338 hb; have n1_ := rb HO342 hb; have n2_ := rb HO346 hb; have n3_ := rb HO350 hb; have n4_ := rb HO354 hb; have n5_ := bs HB hb; clear HO338; clear HO342; clear HO346; clear HO350; clear HO354; clear HB; have HO338 := n0_; have HO342 := n1_; have HO346 := n2_; have HO350 := n3_; have HO354 := n4_; have HB := n5_; clear n0_ n1_ n2_ n3_ n4_ n5_; (try clear hb); (try clear hb2); (try clear hk); (try clear hi)) | (go_at_call 87; (with_reducible refine (spec_RoundOf.calls k _ _ t335 t361 t362 _ ?side1 ?side2 A13.out).mono ?_); (case side1 => exact cr HO338); (case side2 => exact (Kd.R_reads' HO338.out).2.1); rintro e w' ⟨rfl, ⟨nd, rfl⟩⟩; (try first | exact ⟨rfl, _, World.drewN_drewN _ _ _⟩ | exact ⟨rfl, _, Eq.trans (World.drewN_drewN _ _ _) (congrArg (World.drewN _) (Nat.add_assoc _ _ _))⟩))); go_upto_region 12 with (first | (go_at_call 10; (with_reducible refine (laws_big.calls _ _ l0 _ _ l1 false _ ?side1 ?side2 ?side3 ?side4 A3.out).mono ?_); (case side1 => repeat (first | exact HR0.out | (with_reducible refine Kd.C_alloc ?_ _) | (with_reducible refine Kd.C_drewN ?_ _) | (with_reducible refine Kd.C_drew ?_))); (case side2 => exact HC0.out); (case side3 => repeat (first | exact HR1.out | (with_reducible refine Kd.C_alloc ?_ _) | (with_reducible refine Kd.C_drewN ?_ _) | (with_reducible refine Kd.C_drew ?_))); (case side4 => exact HC1.out); rintro e w' ⟨rfl, ⟨nd, rfl⟩⟩; (try first | exact ⟨rfl, _, World.drewN_drewN _ _ _⟩ | exact ⟨rfl, _, Eq.trans (World.drewN_drewN _ _ _) (congrArg (World.drewN _) (Nat.add_assoc _ _ _))⟩)) | (go_at_call 79; (with_reducible refine (spec_DrawHeldAfter.calls k _ _ l0 t335 t336 _ ?side1 ?side2 A5.out).mono ?_); (case side1 => repeat (first | exact HR0.out | (with_reducible refine Kd.C_alloc ?_ _) | (with_reducible refine Kd.C_drewN ?_ _) | (with_reducible refine Kd.C_drew ?_))); (case side2 => exact HC0.out); rintro e w15 ⟨v337, rfl, ho0, hb⟩; have n0_ := lo ho0 HB; have n1_ := bs HB hb; clear HB; have HO338 := n0_; have HB := n1_; clear n0_ n1_; (try clear hb); (try clear hb2); (try clear hk); (try clear hi); (try clear ho0); obtain ⟨Ao16, co16, eo16⟩ := Kd.R_slice HO338.out; subst eo16) | (go_at_call 80; (with_reducible refine (impl_HeldAfter.calls k _ _ t335 t336 t339 t340 _ ?side1 ?side2 A6.out).mono ?_); (case side1 => exact cr HO338); (case side2 => exact (Kd.R_reads' HO338.out).2.1); rintro e w17 ⟨v341, rfl, ho0, hb⟩; have n0_ := Aside0.mk (Kd.R_elder' (rk HO338) (Kd.R_base ho0) hb); have n1_ := Aside0.mk (Kd.R_lower (Kd.R_new' ho0 (Kd.R_lt (rk HO338))) (below_size (bw HB))); have n2_ := bs HB hb; clear HO338; clear HB; have HO338 := n0_; have HO342 := n1_; have HB := n2_; clear n0_ n1_ n2_; (try clear hb); (try clear hb2); (try clear hk); (try clear hi); (try clear ho0)) | (go_at_call 81; (with_reducible refine (spec_HeldAfter.calls k _ _ t335 t336 t343 t344 _ ?side1 ?side2 A7.out).mono ?_); (case side1 => exact cr HO338); (case side2 => exact (Kd.R_reads' HO338.out).2.1); rintro e w18 ⟨v345, rfl, ho0, hb⟩; have n0_ := Aside0.mk (Kd.R_elder' (rk HO338) (Kd.R_base ho0) hb); have n1_ := Aside0.mk (Kd.R_elder' (rk HO342) (Kd.R_base ho0) hb); have n2_ := Aside0.mk (Kd.R_lower (Kd.R_new' (Kd.R_new' ho0 (Kd.R_lt (rk HO338))) (Kd.R_lt (rk HO342))) (below_size (bw HB))); have n3_ := bs HB hb; clear HO338; clear HO342; clear HB; have HO338 := n0_; have HO342 := n1_; have HO346 := n2_; have HB := n3_; clear n0_ n1_ n2_ n3_; (try clear hb); (try clear hb2); (try clear hk); (try clear hi); (try clear ho0)) | (go_at_call 82; (with_reducible refine (impl_TipsAfter.calls k _ _ t335 t336 t347 t348 _ ?side1 ?side2 A8.out).mono ?_); (case side1 => exact cr HO338); (case side2 => exact (Kd.R_reads' HO338.out).2.1); rintro e w19 ⟨v349, rfl, ho0, hb⟩; have n0_ := Aside0.mk (Kd.R_elder' (rk HO338) (Kd.R_base ho0) hb); have n1_ := Aside0.mk (Kd.R_elder' (rk HO342) (Kd.R_base ho0) hb); have n2_ := Aside0.mk (Kd.R_elder' (rk HO346) (Kd.R_base ho0) hb); have n3_ := Aside0.mk (Kd.R_lower (Kd.R_new' (Kd.R_new' (Kd.R_new' ho0 (Kd.R_lt (rk HO338))) (Kd.R_lt (rk HO342))) (Kd.R_lt (rk HO346))) (below_size (bw HB))); have n4_ := bs HB hb; clear HO338; clear HO342; clear HO346; clear HB; have HO338 := n0_; have HO342 := n1_; have HO346 := n2_; have HO350 := n3_; have HB := n4_; clear n0_ n1_ n2_ n3_ n4_; (try clear hb); (try clear hb2); (try clear hk); (try clear hi); (try clear ho0)) | (go_at_call 83; (with_reducible refine (spec_TipsAfter.calls k _ _ t335 t336 t351 t352 _ ?side1 ?side2 A9.out).mono ?_); (case side1 => exact cr HO338); (case side2 => exact (Kd.R_reads' HO338.out).2.1); rintro e w20 ⟨v353, rfl, ho0, hb⟩; have n0_ := Aside0.mk (Kd.R_elder' (rk HO338) (Kd.R_base ho0) hb); have n1_ := Aside0.mk (Kd.R_elder' (rk HO342) (Kd.R_base ho0) hb); have n2_ := Aside0.mk (Kd.R_elder' (rk HO346) (Kd.R_base ho0) hb); have n3_ := Aside0.mk (Kd.R_elder' (rk HO350) (Kd.R_base ho0) hb); have n4_ := Aside0.mk (Kd.R_lower (Kd.R_new' (Kd.R_new' (Kd.R_new' (Kd.R_new' ho0 (Kd.R_lt (rk HO338))) (Kd.R_lt (rk HO342))) (Kd.R_lt (rk HO346))) (Kd.R_lt (rk HO350))) (below_size (bw HB))); have n5_ := bs HB hb; clear HO338; clear HO342; clear HO346; clear HO350; clear HB; have HO338 := n0_; have HO342 := n1_; have HO346 := n2_; have HO350 := n3_; have HO354 := n4_; have HB := n5_; clear n0_ n1_ n2_ n3_ n4_ n5_; (try clear hb); (try clear hb2); (try clear hk); (try clear hi); (try clear ho0)) | (go_at_call 84; (with_reducible refine (impl_TipsAtDrop.calls k _ _ t335 t336 t355 t356 _ ?side1 ?side2 A10.out).mono ?_); (case side1 => exact cr HO338); (case side2 => exact (Kd.R_reads' HO338.out).2.1); rintro e w21 ⟨rfl, hb⟩; have n0_ := rb HO338 hb; have n1_ := rb HO342 hb; have n2_ := rb HO346 hb; have n3_ := rb HO350 hb; have n4_ := rb HO354 hb; have n5_ := bs HB hb; clear HO338; clear HO342; clear HO346; clear HO350; clear HO354; clear HB; have HO338 := n0_; have HO342 := n1_; have HO346 := n2_; have HO350 := n3_; have HO354 := n4_; have HB := n5_; clear n0_ n1_ n2_ n3_ n4_ n5_; (try clear hb); (try clear hb2); (try clear hk); (try clear hi)) | (go_at_call 85; (with_reducible refine (spec_TipsAtDrop.calls k _ _ t335 t336 t357 t358 _ ?side1 ?side2 A11.out).mono ?_); (case side1 => exact cr HO338); (case side2 => exact (Kd.R_reads' HO338.out).2.1); rintro e w' ⟨rfl, ⟨nd, rfl⟩⟩; (try first | exact ⟨rfl, _, World.drewN_drewN _ _ _⟩ | exact ⟨rfl, _, Eq.trans (World.drewN_drewN _ _ _) (congrArg (World.drewN _) (Nat.add_assoc _ _ _))⟩)) | (go_at_call 86; (with_reducible refine (impl_RoundOf.calls k _ _ t335 t359 t360 _ ?side1 ?side2 A12.out).mono ?_); (case side1 => exact cr HO338); (case side2 => exact (Kd.R_reads' HO338.out).2.1); rintro e w22 ⟨rfl, hb⟩; have n0_ := rb HO338 hb; have n1_ := rb HO342 hb; have n2_ := rb HO346 hb; have n3_ := rb HO350 hb; have n4_ := rb HO354 hb; have n5_ := bs HB hb; clear HO338; clear HO342; clear HO346; clear HO350; clear HO354; clear HB; have HO338 := n0_; have HO342 := n1_; have HO346 := n2_; have HO350 := n3_; have HO354 := n4_; have HB := n5_; clear n0_ n1_ n2_ n3_ n4_ n5_; (try clear hb); (try clear hb2); (try clear hk); (try clear hi)) | (go_at_call 87; (with_reducible refine (spec_RoundOf.calls k _ _ t335 t361 t362 _ ?side1 ?side2 A13.out).mono ?_); (case side1 => exact cr HO338); (case side2 => exact (Kd.R_reads' HO338.out).2.1); rintro e w' ⟨rfl, ⟨nd, rfl⟩⟩; (try first | exact ⟨rfl, _, World.drewN_drewN _ _ _⟩ | exact ⟨rfl, _, Eq.trans (World.drewN_drewN _ _ _) (congrArg (World.drewN _) (Nat.add_assoc _ _ _))⟩))))
 (try simp only [Act.put, List.setIfInBounds_toArray, List.set_cons_zero, List.set_cons_succ])
 refine cutF (rl [58, 123, 3, 91, 2, 168] false) (fun u_ wc => ∃ (kq : Nat) (x178_13 : Bool), (u_ 178) = .bool x178_13 ∧ Aside0 (laws_FnBucketsCount.j0 kq l1 t335 t336 t339 t340 t347 t355 t359 x178_13 = some r) ∧ Aside0 (kq ≤ k) ∧ Aside0 (Kd.R (Kd.int .i64) 3 wc w.heap.size (fun k_ => some k_ ≠ (v341 : Value).ownBlock ∧ some k_ ≠ (v349 : Value).ownBlock) (.slice Ao16 t335.length co16) t335) ∧ Aside0 (Kd.R (Kd.int .i64) 3 wc w.heap.size (fun k_ => some k_ ≠ ((.slice Ao16 t335.length co16) : Value).ownBlock ∧ some k_ ≠ (v349 : Value).ownBlock) v341 t339) ∧ Aside0 (Kd.R (Kd.int .i64) 3 wc w.heap.size (fun k_ => some k_ ≠ ((.slice Ao16 t335.length co16) : Value).ownBlock ∧ some k_ ≠ (v341 : Value).ownBlock) v349 t347) ∧ Aside0 (Below w.heap.size w wc)) ?first1 ?rest1
 case first1 =>
  as_aux_lemma =>
   intro J_ K_ hJ_ hK_
   have H := HC14.out
   clear HC14
   by_cases c23 : (t340 != t344) = true
   ·rw [if_pos c23] at H
    have c23b0 : (t340 != t344) = true := c23
    (try (have c23b1 : decide (t340 = t344) = false := by simpa using c23))
    (try (have c23b2 : (t340 == t344) = false := by simpa using c23))
    (try (have c23b3 : ¬ (t340 = t344) := by simpa using c23))
    clear c23
    (first | rw [c23b0] | (simp only [i64_w, i32_w]; rw [c23b0]) | skip)
    exact absurd H (by rw [hrt.out]; cases k <;> simp [laws_FnBucketsCount.j0])
   rw [if_neg c23] at H
   have c23b0 : (t340 != t344) = false := by simpa using c23
   (try (have c23b1 : decide (t340 = t344) = true := by simpa using c23))
   (try (have c23b2 : (t340 == t344) = true := by simpa using c23))
   clear c23
   (first | rw [c23b0] | (simp only [i64_w, i32_w]; rw [c23b0]) | skip)
   replace H := Option.bind_eq_some_iff.mp H
   obtain ⟨t363, A240, H⟩ := H
   replace H : (if t363 = true then (if (t348 != t352) = true then (laws_FnBucketsCount.j0 k l1 t335 t336 t339 t340 t347 t355 t359 true) else ((laws_eSame.f k t347 t351).bind fun t364 => (if t364 = true then (if (t356 != t358) = true then (laws_FnBucketsCount.j0 k l1 t335 t336 t339 t340 t347 t355 t359 true) else (if t355 = t357 then (if (t360 != t362) = true then (laws_FnBucketsCount.j0 k l1 t335 t336 t339 t340 t347 t355 t359 true) else (if t359 = t361 then (if (t348 != t340) = true then (laws_FnBucketsCount.j0 k l1 t335 t336 t339 t340 t347 t355 t359 true) else ((impl_AreCaps.f t335).bind fun t365 => (if (t360 != t365) = true then (laws_FnBucketsCount.j0 k l1 t335 t336 t339 t340 t347 t355 t359 true) else ((impl_AreCaps.f t335).bind fun t366 => ((spec_AreCaps.f k t335).bind fun t367 => (if (t366 != t367) = true then (laws_FnBucketsCount.j0 k l1 t335 t336 t339 t340 t347 t355 t359 true) else (if t340 = true then (laws_FnBucketsCount.j0 k l1 t335 t336 t339 t340 t347 t355 t359 (t356 != (decide (t336 > 0)))) else (laws_FnBucketsCount.j0 k l1 t335 t336 t339 t340 t347 t355 t359 (t356 != false))))))))) else (laws_FnBucketsCount.j0 k l1 t335 t336 t339 t340 t347 t355 t359 true))) else (laws_FnBucketsCount.j0 k l1 t335 t336 t339 t340 t347 t355 t359 true))) else (laws_FnBucketsCount.j0 k l1 t335 t336 t339 t340 t347 t355 t359 true)))) else (laws_FnBucketsCount.j0 k l1 t335 t336 t339 t340 t347 t355 t359 true)) = some r := H
   have A24 := Aside0.mk A240
   clear A240
   by_cases c25 : t363 = true
   rotate_left
   ·replace c25 := Bool.eq_false_iff.mpr c25
    subst c25
    have H1 : (laws_FnBucketsCount.j0 k l1 t335 t336 t339 t340 t347 t355 t359 true) = some r := by rw [if_neg (show ¬ (false = true) by decide)] at H; exact H
    clear H
    have H := H1
    clear H1
    exact absurd H (by rw [hrt.out]; cases k <;> simp [laws_FnBucketsCount.j0])
   subst c25
   have H1 : (if (t348 != t352) = true then (laws_FnBucketsCount.j0 k l1 t335 t336 t339 t340 t347 t355 t359 true) else ((laws_eSame.f k t347 t351).bind fun t364 => (if t364 = true then (if (t356 != t358) = true then (laws_FnBucketsCount.j0 k l1 t335 t336 t339 t340 t347 t355 t359 true) else (if t355 = t357 then (if (t360 != t362) = true then (laws_FnBucketsCount.j0 k l1 t335 t336 t339 t340 t347 t355 t359 true) else (if t359 = t361 then (if (t348 != t340) = true then (laws_FnBucketsCount.j0 k l1 t335 t336 t339 t340 t347 t355 t359 true) else ((impl_AreCaps.f t335).bind fun t365 => (if (t360 != t365) = true then (laws_FnBucketsCount.j0 k l1 t335 t336 t339 t340 t347 t355 t359 true) else ((impl_AreCaps.f t335).bind fun t366 => ((spec_AreCaps.f k t335).bind fun t367 => (if (t366 != t367) = true then (laws_FnBucketsCount.j0 k l1 t335 t336 t339 t340 t347 t355 t359 true) else (if t340 = true then (laws_FnBucketsCount.j0 k l1 t335 t336 t339 t340 t347 t355 t359 (t356 != (decide (t336 > 0)))) else (laws_FnBucketsCount.j0 k l1 t335 t336 t339 t340 t347 t355 t359 (t356 != false))))))))) else (laws_FnBucketsCount.j0 k l1 t335 t336 t339 t340 t347 t355 t359 true))) else (laws_FnBucketsCount.j0 k l1 t335 t336 t339 t340 t347 t355 t359 true))) else (laws_FnBucketsCount.j0 k l1 t335 t336 t339 t340 t347 t355 t359 true)))) = some r := by rw [if_pos rfl] at H; exact H
   clear H
   have H := H1
   clear H1
   by_cases c26 : (t348 != t352) = true
   ·rw [if_pos c26] at H
    have c26b0 : (t348 != t352) = true := c26
    (try (have c26b1 : decide (t348 = t352) = false := by simpa using c26))
    (try (have c26b2 : (t348 == t352) = false := by simpa using c26))
    (try (have c26b3 : ¬ (t348 = t352) := by simpa using c26))
    clear c26
    exact absurd H (by rw [hrt.out]; cases k <;> simp [laws_FnBucketsCount.j0])
   rw [if_neg c26] at H
   have c26b0 : (t348 != t352) = false := by simpa using c26
   (try (have c26b1 : decide (t348 = t352) = true := by simpa using c26))
   (try (have c26b2 : (t348 == t352) = true := by simpa using c26))
   clear c26
   replace H := Option.bind_eq_some_iff.mp H
   obtain ⟨t364, A270, H⟩ := H
   replace H : (if t364 = true then (if (t356 != t358) = true then (laws_FnBucketsCount.j0 k l1 t335 t336 t339 t340 t347 t355 t359 true) else (if t355 = t357 then (if (t360 != t362) = true then (laws_FnBucketsCount.j0 k l1 t335 t336 t339 t340 t347 t355 t359 true) else (if t359 = t361 then (if (t348 != t340) = true then (laws_FnBucketsCount.j0 k l1 t335 t336 t339 t340 t347 t355 t359 true) else ((impl_AreCaps.f t335).bind fun t365 => (if (t360 != t365) = true then (laws_FnBucketsCount.j0 k l1 t335 t336 t339 t340 t347 t355 t359 true) else ((impl_AreCaps.f t335).bind fun t366 => ((spec_AreCaps.f k t335).bind fun t367 => (if (t366 != t367) = true then (laws_FnBucketsCount.j0 k l1 t335 t336 t339 t340 t347 t355 t359 true) else (if t340 = true then (laws_FnBucketsCount.j0 k l1 t335 t336 t339 t340 t347 t355 t359 (t356 != (decide (t336 > 0)))) else (laws_FnBucketsCount.j0 k l1 t335 t336 t339 t340 t347 t355 t359 (t356 != false))))))))) else (laws_FnBucketsCount.j0 k l1 t335 t336 t339 t340 t347 t355 t359 true))) else (laws_FnBucketsCount.j0 k l1 t335 t336 t339 t340 t347 t355 t359 true))) else (laws_FnBucketsCount.j0 k l1 t335 t336 t339 t340 t347 t355 t359 true)) = some r := H
   have A27 := Aside0.mk A270
   clear A270
   by_cases c28 : t364 = true
   rotate_left
   ·replace c28 := Bool.eq_false_iff.mpr c28
    subst c28
    have H1 : (laws_FnBucketsCount.j0 k l1 t335 t336 t339 t340 t347 t355 t359 true) = some r := by rw [if_neg (show ¬ (false = true) by decide)] at H; exact H
    clear H
    have H := H1
    clear H1
    exact absurd H (by rw [hrt.out]; cases k <;> simp [laws_FnBucketsCount.j0])
   subst c28
   have H1 : (if (t356 != t358) = true then (laws_FnBucketsCount.j0 k l1 t335 t336 t339 t340 t347 t355 t359 true) else (if t355 = t357 then (if (t360 != t362) = true then (laws_FnBucketsCount.j0 k l1 t335 t336 t339 t340 t347 t355 t359 true) else (if t359 = t361 then (if (t348 != t340) = true then (laws_FnBucketsCount.j0 k l1 t335 t336 t339 t340 t347 t355 t359 true) else ((impl_AreCaps.f t335).bind fun t365 => (if (t360 != t365) = true then (laws_FnBucketsCount.j0 k l1 t335 t336 t339 t340 t347 t355 t359 true) else ((impl_AreCaps.f t335).bind fun t366 => ((spec_AreCaps.f k t335).bind fun t367 => (if (t366 != t367) = true then (laws_FnBucketsCount.j0 k l1 t335 t336 t339 t340 t347 t355 t359 true) else (if t340 = true then (laws_FnBucketsCount.j0 k l1 t335 t336 t339 t340 t347 t355 t359 (t356 != (decide (t336 > 0)))) else (laws_FnBucketsCount.j0 k l1 t335 t336 t339 t340 t347 t355 t359 (t356 != false))))))))) else (laws_FnBucketsCount.j0 k l1 t335 t336 t339 t340 t347 t355 t359 true))) else (laws_FnBucketsCount.j0 k l1 t335 t336 t339 t340 t347 t355 t359 true))) = some r := by rw [if_pos rfl] at H; exact H
   clear H
   have H := H1
   clear H1
   by_cases c29 : (t356 != t358) = true
   ·rw [if_pos c29] at H
    have c29b0 : (t356 != t358) = true := c29
    (try (have c29b1 : decide (t356 = t358) = false := by simpa using c29))
    (try (have c29b2 : (t356 == t358) = false := by simpa using c29))
    (try (have c29b3 : ¬ (t356 = t358) := by simpa using c29))
    clear c29
    exact absurd H (by rw [hrt.out]; cases k <;> simp [laws_FnBucketsCount.j0])
   rw [if_neg c29] at H
   have c29b0 : (t356 != t358) = false := by simpa using c29
   (try (have c29b1 : decide (t356 = t358) = true := by simpa using c29))
   (try (have c29b2 : (t356 == t358) = true := by simpa using c29))
   clear c29
   by_cases c30 : t355 = t357
   rotate_left
   ·rw [if_neg c30] at H
    have c30b0 : (t355 == t357) = false := beq_eq_false_iff_ne.mpr c30
    have c30b1 : (t355 != t357) = true := bne_iff_ne.mpr c30
    exact absurd H (by rw [hrt.out]; cases k <;> simp [laws_FnBucketsCount.j0])
   rw [if_pos c30] at H
   have c30b0 : (t355 == t357) = true := beq_iff_eq.mpr c30
   have c30b1 : (t355 != t357) = false := bne_eq_false_iff_eq.mpr c30
   clear c30
   by_cases c31 : (t360 != t362) = true
   ·rw [if_pos c31] at H
    have c31b0 : (t360 != t362) = true := c31
    (try (have c31b1 : decide (t360 = t362) = false := by simpa using c31))
    (try (have c31b2 : (t360 == t362) = false := by simpa using c31))
    (try (have c31b3 : ¬ (t360 = t362) := by simpa using c31))
    clear c31
    exact absurd H (by rw [hrt.out]; cases k <;> simp [laws_FnBucketsCount.j0])
   rw [if_neg c31] at H
   have c31b0 : (t360 != t362) = false := by simpa using c31
   (try (have c31b1 : decide (t360 = t362) = true := by simpa using c31))
   (try (have c31b2 : (t360 == t362) = true := by simpa using c31))
   clear c31
   by_cases c32 : t359 = t361
   rotate_left
   ·rw [if_neg c32] at H
    have c32b0 : (t359 == t361) = false := beq_eq_false_iff_ne.mpr c32
    have c32b1 : (t359 != t361) = true := bne_iff_ne.mpr c32
    exact absurd H (by rw [hrt.out]; cases k <;> simp [laws_FnBucketsCount.j0])
   rw [if_pos c32] at H
   have c32b0 : (t359 == t361) = true := beq_iff_eq.mpr c32
   have c32b1 : (t359 != t361) = false := bne_eq_false_iff_eq.mpr c32
   clear c32
   by_cases c33 : (t348 != t340) = true
   ·rw [if_pos c33] at H
    have c33b0 : (t348 != t340) = true := c33
    (try (have c33b1 : decide (t348 = t340) = false := by simpa using c33))
    (try (have c33b2 : (t348 == t340) = false := by simpa using c33))
    (try (have c33b3 : ¬ (t348 = t340) := by simpa using c33))
    clear c33
    exact absurd H (by rw [hrt.out]; cases k <;> simp [laws_FnBucketsCount.j0])
   rw [if_neg c33] at H
   have c33b0 : (t348 != t340) = false := by simpa using c33
   (try (have c33b1 : decide (t348 = t340) = true := by simpa using c33))
   (try (have c33b2 : (t348 == t340) = true := by simpa using c33))
   clear c33
   replace H := Option.bind_eq_some_iff.mp H
   obtain ⟨t365, A340, H⟩ := H
   replace H : (if (t360 != t365) = true then (laws_FnBucketsCount.j0 k l1 t335 t336 t339 t340 t347 t355 t359 true) else ((impl_AreCaps.f t335).bind fun t366 => ((spec_AreCaps.f k t335).bind fun t367 => (if (t366 != t367) = true then (laws_FnBucketsCount.j0 k l1 t335 t336 t339 t340 t347 t355 t359 true) else (if t340 = true then (laws_FnBucketsCount.j0 k l1 t335 t336 t339 t340 t347 t355 t359 (t356 != (decide (t336 > 0)))) else (laws_FnBucketsCount.j0 k l1 t335 t336 t339 t340 t347 t355 t359 (t356 != false))))))) = some r := H
   have A34 := Aside0.mk A340
   clear A340
   by_cases c35 : (t360 != t365) = true
   ·rw [if_pos c35] at H
    have c35b0 : (t360 != t365) = true := c35
    (try (have c35b1 : decide (t360 = t365) = false := by simpa using c35))
    (try (have c35b2 : (t360 == t365) = false := by simpa using c35))
    (try (have c35b3 : ¬ (t360 = t365) := by simpa using c35))
    clear c35
    exact absurd H (by rw [hrt.out]; cases k <;> simp [laws_FnBucketsCount.j0])
   rw [if_neg c35] at H
   have c35b0 : (t360 != t365) = false := by simpa using c35
   (try (have c35b1 : decide (t360 = t365) = true := by simpa using c35))
   (try (have c35b2 : (t360 == t365) = true := by simpa using c35))
   clear c35
   replace H := Option.bind_eq_some_iff.mp H
   obtain ⟨t366, A360, H⟩ := H
   obtain rfl : t365 = t366 := Option.some.inj (A34.out.symm.trans A360)
   replace H : ((spec_AreCaps.f k t335).bind fun t367 => (if (t365 != t367) = true then (laws_FnBucketsCount.j0 k l1 t335 t336 t339 t340 t347 t355 t359 true) else (if t340 = true then (laws_FnBucketsCount.j0 k l1 t335 t336 t339 t340 t347 t355 t359 (t356 != (decide (t336 > 0)))) else (laws_FnBucketsCount.j0 k l1 t335 t336 t339 t340 t347 t355 t359 (t356 != false))))) = some r := H
   have A36 := Aside0.mk A360
   clear A360
   replace H := Option.bind_eq_some_iff.mp H
   obtain ⟨t367, A370, H⟩ := H
   replace H : (if (t365 != t367) = true then (laws_FnBucketsCount.j0 k l1 t335 t336 t339 t340 t347 t355 t359 true) else (if t340 = true then (laws_FnBucketsCount.j0 k l1 t335 t336 t339 t340 t347 t355 t359 (t356 != (decide (t336 > 0)))) else (laws_FnBucketsCount.j0 k l1 t335 t336 t339 t340 t347 t355 t359 (t356 != false)))) = some r := H
   have A37 := Aside0.mk A370
   clear A370
   by_cases c38 : (t365 != t367) = true
   ·rw [if_pos c38] at H
    have c38b0 : (t365 != t367) = true := c38
    (try (have c38b1 : decide (t365 = t367) = false := by simpa using c38))
    (try (have c38b2 : (t365 == t367) = false := by simpa using c38))
    (try (have c38b3 : ¬ (t365 = t367) := by simpa using c38))
    clear c38
    exact absurd H (by rw [hrt.out]; cases k <;> simp [laws_FnBucketsCount.j0])
   rw [if_neg c38] at H
   have c38b0 : (t365 != t367) = false := by simpa using c38
   (try (have c38b1 : decide (t365 = t367) = true := by simpa using c38))
   (try (have c38b2 : (t365 == t367) = true := by simpa using c38))
   clear c38
   by_cases c39 : t340 = true
   ·subst c39
    have H1 : (laws_FnBucketsCount.j0 k l1 t335 t336 t339 true t347 t355 t359 (t356 != (decide (t336 > 0)))) = some r := by rw [if_pos rfl] at H; exact H
    clear H
    have H := H1
    clear H1
    have H' := Aside0.mk H
    clear H
    obtain ⟨Ao40, co40, eo40⟩ := Kd.R_slice HO342.out
    subst eo40
    obtain ⟨Ao41, co41, eo41⟩ := Kd.R_slice HO346.out
    subst eo41
    go_wp2_with (first | (go_at_call 29; (with_reducible refine (laws_eSame.calls k _ _ t339 _ _ t343 true _ ?side1 ?side2 ?side3 ?side4 A24.out).mono ?_); (case side1 => exact cr HO342); (case side2 => exact (Kd.R_reads' HO342.out).2.1); (case side3 => exact cr HO346); (case side4 => exact (Kd.R_reads' HO346.out).2.1); rintro e w' ⟨rfl, ⟨nd, rfl⟩⟩; (try first | exact ⟨rfl, _, World.drewN_drewN _ _ _⟩ | exact ⟨rfl, _, Eq.trans (World.drewN_drewN _ _ _) (congrArg (World.drewN _) (Nat.add_assoc _ _ _))⟩); obtain ⟨Ao42, co42, eo42⟩ := Kd.R_slice HO350.out; subst eo42; obtain ⟨Ao43, co43, eo43⟩ := Kd.R_slice HO354.out; subst eo43) | (go_at_call 29; (with_reducible refine (laws_eSame.calls k _ _ t347 _ _ t351 true _ ?side1 ?side2 ?side3 ?side4 A27.out).mono ?_); (case side1 => exact cr HO350); (case side2 => exact (Kd.R_reads' HO350.out).2.1); (case side3 => exact cr HO354); (case side4 => exact (Kd.R_reads' HO354.out).2.1); rintro e w' ⟨rfl, ⟨nd, rfl⟩⟩; (try first | exact ⟨rfl, _, World.drewN_drewN _ _ _⟩ | exact ⟨rfl, _, Eq.trans (World.drewN_drewN _ _ _) (congrArg (World.drewN _) (Nat.add_assoc _ _ _))⟩)) | (go_at_call 88; (with_reducible refine (impl_AreCaps.calls _ _ t335 t365 _ ?side1 ?side2 A34.out).mono ?_); (case side1 => exact cr HO338); (case side2 => exact (Kd.R_reads' HO338.out).2.1); rintro e w44 ⟨rfl, hb⟩; replace HO338 := rb HO338 hb; replace HO342 := rb HO342 hb; replace HO346 := rb HO346 hb; replace HO350 := rb HO350 hb; replace HO354 := rb HO354 hb; replace HB := bs HB hb; (try clear hb)) | (go_at_call 88; (with_reducible refine (impl_AreCaps.calls _ _ t335 t365 _ ?side1 ?side2 A36.out).mono ?_); (case side1 => exact cr HO338); (case side2 => exact (Kd.R_reads' HO338.out).2.1); rintro e w45 ⟨rfl, hb⟩; replace HO338 := rb HO338 hb; replace HO342 := rb HO342 hb; replace HO346 := rb HO346 hb; replace HO350 := rb HO350 hb; replace HO354 := rb HO354 hb; replace HB := bs HB hb; (try clear hb)) | (go_at_call 89; (with_reducible refine (spec_AreCaps.calls k _ _ t335 t367 _ ?side1 ?side2 A37.out).mono ?_); (case side1 => exact cr HO338); (case side2 => exact (Kd.R_reads' HO338.out).2.1); rintro e w' ⟨rfl, ⟨nd, rfl⟩⟩; (try first | exact ⟨rfl, _, World.drewN_drewN _ _ _⟩ | exact ⟨rfl, _, Eq.trans (World.drewN_drewN _ _ _) (congrArg (World.drewN _) (Nat.add_assoc _ _ _))⟩)))
    repeat (go_quiet (first | (go_at_call 29; (with_reducible refine (laws_eSame.calls k _ _ t339 _ _ t343 true _ ?side1 ?side2 ?side3 ?side4 A24.out).mono ?_); (case side1 => exact cr HO342); (case side2 => exact (Kd.R_reads' HO342.out).2.1); (case side3 => exact cr HO346); (case side4 => exact (Kd.R_reads' HO346.out).2.1); rintro e w' ⟨rfl, ⟨nd, rfl⟩⟩; (try first | exact ⟨rfl, _, World.drewN_drewN _ _ _⟩ | exact ⟨rfl, _, Eq.trans (World.drewN_drewN _ _ _) (congrArg (World.drewN _) (Nat.add_assoc _ _ _))⟩); obtain ⟨Ao42, co42, eo42⟩ := Kd.R_slice HO350.out; subst eo42; obtain ⟨Ao43, co43, eo43⟩ := Kd.R_slice HO354.out; subst eo43) | (go_at_call 29; (with_reducible refine (laws_eSame.calls k _ _ t347 _ _ t351 true _ ?side1 ?side2 ?side3 ?side4 A27.out).mono ?_); (case side1 => exact cr HO350); (case side2 => exact (Kd.R_reads' HO350.out).2.1); (case side3 => exact cr HO354); (case side4 => exact (Kd.R_reads' HO354.out).2.1); rintro e w' ⟨rfl, ⟨nd, rfl⟩⟩; (try first | exact ⟨rfl, _, World.drewN_drewN _ _ _⟩ | exact ⟨rfl, _, Eq.trans (World.drewN_drewN _ _ _) (congrArg (World.drewN _) (Nat.add_assoc _ _ _))⟩)) | (go_at_call 88; (with_reducible refine (impl_AreCaps.calls _ _ t335 t365 _ ?side1 ?side2 A34.out).mono ?_); (case side1 => exact cr HO338); (case side2 => exact (Kd.R_reads' HO338.out).2.1); rintro e w44 ⟨rfl, hb⟩; have n0_ := rb HO338 hb; have n1_ := rb HO342 hb; have n2_ := rb HO346 hb; have n3_ := rb HO350 hb; have n4_ := rb HO354 hb; have n5_ := bs HB hb; clear HO338; clear HO342; clear HO346; clear HO350; clear HO354; clear HB; have HO338 := n0_; have HO342 := n1_; have HO346 := n2_; have HO350 := n3_; have HO354 := n4_; have HB := n5_; clear n0_ n1_ n2_ n3_ n4_ n5_; (try clear hb); (try clear hb2); (try clear hk); (try clear hi)) | (go_at_call 88; (with_reducible refine (impl_AreCaps.calls _ _ t335 t365 _ ?side1 ?side2 A36.out).mono ?_); (case side1 => exact cr HO338); (case side2 => exact (Kd.R_reads' HO338.out).2.1); rintro e w45 ⟨rfl, hb⟩; have n0_ := rb HO338 hb; have n1_ := rb HO342 hb; have n2_ := rb HO346 hb; have n3_ := rb HO350 hb; have n4_ := rb HO354 hb; have n5_ := bs HB hb; clear HO338; clear HO342; clear HO346; clear HO350; clear HO354; clear HB; have HO338 := n0_; have HO342 := n1_; have HO346 := n2_; have HO350 := n3_; have HO354 := n4_; have HB := n5_; clear n0_ n1_ n2_ n3_ n4_ n5_; (try clear hb); (try clear hb2); (try clear hk); (try clear hi)) | (go_at_call 89; (with_reducible refine (spec_AreCaps.calls k _ _ t335 t367 _ ?side1 ?side2 A37.out).mono ?_); (case side1 => exact cr HO338); (case side2 => exact (Kd.R_reads' HO338.out).2.1); rintro e w' ⟨rfl, ⟨nd, rfl⟩⟩; (try first | exact ⟨rfl, _, World.drewN_drewN _ _ _⟩ | exact ⟨rfl, _, Eq.trans (World.drewN_drewN _ _ _) (congrArg (World.drewN _) (Nat.add_assoc _ _ _))⟩))); try go_wp2_with (first | (go_at_call 29; (with_reducible refine (laws_eSame.calls k _ _ t339 _ _ t343 true _ ?side1 ?side2 ?side3 ?side4 A24.out).mono ?_); (case side1 => exact cr HO342); (case side2 => exact (Kd.R_reads' HO342.out).2.1); (case side3 => exact cr HO346); (case side4 => exact (Kd.R_reads' HO346.out).2.1); rintro e w' ⟨rfl, ⟨nd, rfl⟩⟩; (try first | exact ⟨rfl, _, World.drewN_drewN _ _ _⟩ | exact ⟨rfl, _, Eq.trans (World.drewN_drewN _ _ _) (congrArg (World.drewN _) (Nat.add_assoc _ _ _))⟩); obtain ⟨Ao42, co42, eo42⟩ := Kd.R_slice HO350.out; subst eo42; obtain ⟨Ao43, co43, eo43⟩ := Kd.R_slice HO354.out; subst eo43) | (go_at_call 29; (with_reducible refine (laws_eSame.calls k _ _ t347 _ _ t351 true _ ?side1 ?side2 ?side3 ?side4 A27.out).mono ?_); (case side1 => exact cr HO350); (case side2 => exact (Kd.R_reads' HO350.out).2.1); (case side3 => exact cr HO354); (case side4 => exact (Kd.R_reads' HO354.out).2.1); rintro e w' ⟨rfl, ⟨nd, rfl⟩⟩; (try first | exact ⟨rfl, _, World.drewN_drewN _ _ _⟩ | exact ⟨rfl, _, Eq.trans (World.drewN_drewN _ _ _) (congrArg (World.drewN _) (Nat.add_assoc _ _ _))⟩)) | (go_at_call 88; (with_reducible refine (impl_AreCaps.calls _ _ t335 t365 _ ?side1 ?side2 A34.out).mono ?_); (case side1 => exact cr HO338); (case side2 => exact (Kd.R_reads' HO338.out).2.1); rintro e w44 ⟨rfl, hb⟩; have n0_ := rb HO338 hb; have n1_ := rb HO342 hb; have n2_ := rb HO346 hb; have n3_ := rb HO350 hb; have n4_ := rb HO354 hb; have n5_ := bs HB hb; clear HO338; clear HO342; clear HO346; clear HO350; clear HO354; clear HB; have HO338 := n0_; have HO342 := n1_; have HO346 := n2_; have HO350 := n3_; have HO354 := n4_; have HB := n5_; clear n0_ n1_ n2_ n3_ n4_ n5_; (try clear hb); (try clear hb2); (try clear hk); (try clear hi)) | (go_at_call 88; (with_reducible refine (impl_AreCaps.calls _ _ t335 t365 _ ?side1 ?side2 A36.out).mono ?_); (case side1 => exact cr HO338); (case side2 => exact (Kd.R_reads' HO338.out).2.1); rintro e w45 ⟨rfl, hb⟩; have n0_ := rb HO338 hb; have n1_ := rb HO342 hb; have n2_ := rb HO346 hb; have n3_ := rb HO350 hb; have n4_ := rb HO354 hb; have n5_ := bs HB hb; clear HO338; clear HO342; clear HO346; clear HO350; clear HO354; clear HB; have HO338 := n0_; have HO342 := n1_; have HO346 := n2_; have HO350 := n3_; have HO354 := n4_; have HB := n5_; clear n0_ n1_ n2_ n3_ n4_ n5_; (try clear hb); (try clear hb2); (try clear hk); (try clear hi)) | (go_at_call 89; (with_reducible refine (spec_AreCaps.calls k _ _ t335 t367 _ ?side1 ?side2 A37.out).mono ?_); (case side1 => exact cr HO338); (case side2 => exact (Kd.R_reads' HO338.out).2.1); rintro e w' ⟨rfl, ⟨nd, rfl⟩⟩; (try first | exact ⟨rfl, _, World.drewN_drewN _ _ _⟩ | exact ⟨rfl, _, Eq.trans (World.drewN_drewN _ _ _) (congrArg (World.drewN _) (Nat.add_assoc _ _ _))⟩))))
    (refine Met.intro ?_; go_step; refine Cut_mk (by kernel_rfl) ?rel2)
    case rel2 => exact ⟨_, ((t356 != (decide (t336 > 0)))), (by first | rfl | (simp; done) | (simp [*]; done)), H', ⟨by first | exact Nat.le_refl _ | (omega)⟩, ⟨by (with_reducible repeat (first | apply Kd.R_alloc | apply Kd.R_drewN | apply Kd.R_drew)); exact Kd.R_mono HO338.out (fun _ hk => ⟨hk.1.1.1.2, hk.1.2⟩)⟩, ⟨by (with_reducible repeat (first | apply Kd.R_alloc | apply Kd.R_drewN | apply Kd.R_drew)); exact Kd.R_mono HO342.out (fun _ hk => ⟨hk.1.1.1.2, hk.1.2⟩)⟩, ⟨by (with_reducible repeat (first | apply Kd.R_alloc | apply Kd.R_drewN | apply Kd.R_drew)); exact Kd.R_mono HO350.out (fun _ hk => ⟨hk.1.1.1.2, hk.1.1.2⟩)⟩, ⟨bw HB⟩⟩
   replace c39 := Bool.eq_false_iff.mpr c39
   subst c39
   have H1 : (laws_FnBucketsCount.j0 k l1 t335 t336 t339 false t347 t355 t359 (t356 != false)) = some r := by rw [if_neg (show ¬ (false = true) by decide)] at H; exact H
   clear H
   have H := H1
   clear H1
   have H' := Aside0.mk H
   clear H
   obtain ⟨Ao46, co46, eo46⟩ := Kd.R_slice HO342.out
   subst eo46
   obtain ⟨Ao47, co47, eo47⟩ := Kd.R_slice HO346.out
   subst eo47
   go_wp2_with (first | (go_at_call 29; (with_reducible refine (laws_eSame.calls k _ _ t339 _ _ t343 true _ ?side1 ?side2 ?side3 ?side4 A24.out).mono ?_); (case side1 => exact cr HO342); (case side2 => exact (Kd.R_reads' HO342.out).2.1); (case side3 => exact cr HO346); (case side4 => exact (Kd.R_reads' HO346.out).2.1); rintro e w' ⟨rfl, ⟨nd, rfl⟩⟩; (try first | exact ⟨rfl, _, World.drewN_drewN _ _ _⟩ | exact ⟨rfl, _, Eq.trans (World.drewN_drewN _ _ _) (congrArg (World.drewN _) (Nat.add_assoc _ _ _))⟩); obtain ⟨Ao48, co48, eo48⟩ := Kd.R_slice HO350.out; subst eo48; obtain ⟨Ao49, co49, eo49⟩ := Kd.R_slice HO354.out; subst eo49) | (go_at_call 29; (with_reducible refine (laws_eSame.calls k _ _ t347 _ _ t351 true _ ?side1 ?side2 ?side3 ?side4 A27.out).mono ?_); (case side1 => exact cr HO350); (case side2 => exact (Kd.R_reads' HO350.out).2.1); (case side3 => exact cr HO354); (case side4 => exact (Kd.R_reads' HO354.out).2.1); rintro e w' ⟨rfl, ⟨nd, rfl⟩⟩; (try first | exact ⟨rfl, _, World.drewN_drewN _ _ _⟩ | exact ⟨rfl, _, Eq.trans (World.drewN_drewN _ _ _) (congrArg (World.drewN _) (Nat.add_assoc _ _ _))⟩)) | (go_at_call 88; (with_reducible refine (impl_AreCaps.calls _ _ t335 t365 _ ?side1 ?side2 A34.out).mono ?_); (case side1 => exact cr HO338); (case side2 => exact (Kd.R_reads' HO338.out).2.1); rintro e w50 ⟨rfl, hb⟩; replace HO338 := rb HO338 hb; replace HO342 := rb HO342 hb; replace HO346 := rb HO346 hb; replace HO350 := rb HO350 hb; replace HO354 := rb HO354 hb; replace HB := bs HB hb; (try clear hb)) | (go_at_call 88; (with_reducible refine (impl_AreCaps.calls _ _ t335 t365 _ ?side1 ?side2 A36.out).mono ?_); (case side1 => exact cr HO338); (case side2 => exact (Kd.R_reads' HO338.out).2.1); rintro e w51 ⟨rfl, hb⟩; replace HO338 := rb HO338 hb; replace HO342 := rb HO342 hb; replace HO346 := rb HO346 hb; replace HO350 := rb HO350 hb; replace HO354 := rb HO354 hb; replace HB := bs HB hb; (try clear hb)) | (go_at_call 89; (with_reducible refine (spec_AreCaps.calls k _ _ t335 t367 _ ?side1 ?side2 A37.out).mono ?_); (case side1 => exact cr HO338); (case side2 => exact (Kd.R_reads' HO338.out).2.1); rintro e w' ⟨rfl, ⟨nd, rfl⟩⟩; (try first | exact ⟨rfl, _, World.drewN_drewN _ _ _⟩ | exact ⟨rfl, _, Eq.trans (World.drewN_drewN _ _ _) (congrArg (World.drewN _) (Nat.add_assoc _ _ _))⟩)))
   repeat (go_quiet (first | (go_at_call 29; (with_reducible refine (laws_eSame.calls k _ _ t339 _ _ t343 true _ ?side1 ?side2 ?side3 ?side4 A24.out).mono ?_); (case side1 => exact cr HO342); (case side2 => exact (Kd.R_reads' HO342.out).2.1); (case side3 => exact cr HO346); (case side4 => exact (Kd.R_reads' HO346.out).2.1); rintro e w' ⟨rfl, ⟨nd, rfl⟩⟩; (try first | exact ⟨rfl, _, World.drewN_drewN _ _ _⟩ | exact ⟨rfl, _, Eq.trans (World.drewN_drewN _ _ _) (congrArg (World.drewN _) (Nat.add_assoc _ _ _))⟩); obtain ⟨Ao48, co48, eo48⟩ := Kd.R_slice HO350.out; subst eo48; obtain ⟨Ao49, co49, eo49⟩ := Kd.R_slice HO354.out; subst eo49) | (go_at_call 29; (with_reducible refine (laws_eSame.calls k _ _ t347 _ _ t351 true _ ?side1 ?side2 ?side3 ?side4 A27.out).mono ?_); (case side1 => exact cr HO350); (case side2 => exact (Kd.R_reads' HO350.out).2.1); (case side3 => exact cr HO354); (case side4 => exact (Kd.R_reads' HO354.out).2.1); rintro e w' ⟨rfl, ⟨nd, rfl⟩⟩; (try first | exact ⟨rfl, _, World.drewN_drewN _ _ _⟩ | exact ⟨rfl, _, Eq.trans (World.drewN_drewN _ _ _) (congrArg (World.drewN _) (Nat.add_assoc _ _ _))⟩)) | (go_at_call 88; (with_reducible refine (impl_AreCaps.calls _ _ t335 t365 _ ?side1 ?side2 A34.out).mono ?_); (case side1 => exact cr HO338); (case side2 => exact (Kd.R_reads' HO338.out).2.1); rintro e w50 ⟨rfl, hb⟩; have n0_ := rb HO338 hb; have n1_ := rb HO342 hb; have n2_ := rb HO346 hb; have n3_ := rb HO350 hb; have n4_ := rb HO354 hb; have n5_ := bs HB hb; clear HO338; clear HO342; clear HO346; clear HO350; clear HO354; clear HB; have HO338 := n0_; have HO342 := n1_; have HO346 := n2_; have HO350 := n3_; have HO354 := n4_; have HB := n5_; clear n0_ n1_ n2_ n3_ n4_ n5_; (try clear hb); (try clear hb2); (try clear hk); (try clear hi)) | (go_at_call 88; (with_reducible refine (impl_AreCaps.calls _ _ t335 t365 _ ?side1 ?side2 A36.out).mono ?_); (case side1 => exact cr HO338); (case side2 => exact (Kd.R_reads' HO338.out).2.1); rintro e w51 ⟨rfl, hb⟩; have n0_ := rb HO338 hb; have n1_ := rb HO342 hb; have n2_ := rb HO346 hb; have n3_ := rb HO350 hb; have n4_ := rb HO354 hb; have n5_ := bs HB hb; clear HO338; clear HO342; clear HO346; clear HO350; clear HO354; clear HB; have HO338 := n0_; have HO342 := n1_; have HO346 := n2_; have HO350 := n3_; have HO354 := n4_; have HB := n5_; clear n0_ n1_ n2_ n3_ n4_ n5_; (try clear hb); (try clear hb2); (try clear hk); (try clear hi)) | (go_at_call 89; (with_reducible refine (spec_AreCaps.calls k _ _ t335 t367 _ ?side1 ?side2 A37.out).mono ?_); (case side1 => exact cr HO338); (case side2 => exact (Kd.R_reads' HO338.out).2.1); rintro e w' ⟨rfl, ⟨nd, rfl⟩⟩; (try first | exact ⟨rfl, _, World.drewN_drewN _ _ _⟩ | exact ⟨rfl, _, Eq.trans (World.drewN_drewN _ _ _) (congrArg (World.drewN _) (Nat.add_assoc _ _ _))⟩))); try go_wp2_with (first | (go_at_call 29; (with_reducible refine (laws_eSame.calls k _ _ t339 _ _ t343 true _ ?side1 ?side2 ?side3 ?side4 A24.out).mono ?_); (case side1 => exact cr HO342); (case side2 => exact (Kd.R_reads' HO342.out).2.1); (case side3 => exact cr HO346); (case side4 => exact (Kd.R_reads' HO346.out).2.1); rintro e w' ⟨rfl, ⟨nd, rfl⟩⟩; (try first | exact ⟨rfl, _, World.drewN_drewN _ _ _⟩ | exact ⟨rfl, _, Eq.trans (World.drewN_drewN _ _ _) (congrArg (World.drewN _) (Nat.add_assoc _ _ _))⟩); obtain ⟨Ao48, co48, eo48⟩ := Kd.R_slice HO350.out; subst eo48; obtain ⟨Ao49, co49, eo49⟩ := Kd.R_slice HO354.out; subst eo49) | (go_at_call 29; (with_reducible refine (laws_eSame.calls k _ _ t347 _ _ t351 true _ ?side1 ?side2 ?side3 ?side4 A27.out).mono ?_); (case side1 => exact cr HO350); (case side2 => exact (Kd.R_reads' HO350.out).2.1); (case side3 => exact cr HO354); (case side4 => exact (Kd.R_reads' HO354.out).2.1); rintro e w' ⟨rfl, ⟨nd, rfl⟩⟩; (try first | exact ⟨rfl, _, World.drewN_drewN _ _ _⟩ | exact ⟨rfl, _, Eq.trans (World.drewN_drewN _ _ _) (congrArg (World.drewN _) (Nat.add_assoc _ _ _))⟩)) | (go_at_call 88; (with_reducible refine (impl_AreCaps.calls _ _ t335 t365 _ ?side1 ?side2 A34.out).mono ?_); (case side1 => exact cr HO338); (case side2 => exact (Kd.R_reads' HO338.out).2.1); rintro e w50 ⟨rfl, hb⟩; have n0_ := rb HO338 hb; have n1_ := rb HO342 hb; have n2_ := rb HO346 hb; have n3_ := rb HO350 hb; have n4_ := rb HO354 hb; have n5_ := bs HB hb; clear HO338; clear HO342; clear HO346; clear HO350; clear HO354; clear HB; have HO338 := n0_; have HO342 := n1_; have HO346 := n2_; have HO350 := n3_; have HO354 := n4_; have HB := n5_; clear n0_ n1_ n2_ n3_ n4_ n5_; (try clear hb); (try clear hb2); (try clear hk); (try clear hi)) | (go_at_call 88; (with_reducible refine (impl_AreCaps.calls _ _ t335 t365 _ ?side1 ?side2 A36.out).mono ?_); (case side1 => exact cr HO338); (case side2 => exact (Kd.R_reads' HO338.out).2.1); rintro e w51 ⟨rfl, hb⟩; have n0_ := rb HO338 hb; have n1_ := rb HO342 hb; have n2_ := rb HO346 hb; have n3_ := rb HO350 hb; have n4_ := rb HO354 hb; have n5_ := bs HB hb; clear HO338; clear HO342; clear HO346; clear HO350; clear HO354; clear HB; have HO338 := n0_; have HO342 := n1_; have HO346 := n2_; have HO350 := n3_; have HO354 := n4_; have HB := n5_; clear n0_ n1_ n2_ n3_ n4_ n5_; (try clear hb); (try clear hb2); (try clear hk); (try clear hi)) | (go_at_call 89; (with_reducible refine (spec_AreCaps.calls k _ _ t335 t367 _ ?side1 ?side2 A37.out).mono ?_); (case side1 => exact cr HO338); (case side2 => exact (Kd.R_reads' HO338.out).2.1); rintro e w' ⟨rfl, ⟨nd, rfl⟩⟩; (try first | exact ⟨rfl, _, World.drewN_drewN _ _ _⟩ | exact ⟨rfl, _, Eq.trans (World.drewN_drewN _ _ _) (congrArg (World.drewN _) (Nat.add_assoc _ _ _))⟩))))
   (refine Met.intro ?_; go_step; refine Cut_mk (by kernel_rfl) ?rel3)
   case rel3 => exact ⟨_, ((t356 != false)), (by first | rfl | (simp; done) | (simp [*]; done)), H', ⟨by first | exact Nat.le_refl _ | (omega)⟩, ⟨by (with_reducible repeat (first | apply Kd.R_alloc | apply Kd.R_drewN | apply Kd.R_drew)); exact Kd.R_mono HO338.out (fun _ hk => ⟨hk.1.1.1.2, hk.1.2⟩)⟩, ⟨by (with_reducible repeat (first | apply Kd.R_alloc | apply Kd.R_drewN | apply Kd.R_drew)); exact Kd.R_mono HO342.out (fun _ hk => ⟨hk.1.1.1.2, hk.1.2⟩)⟩, ⟨by (with_reducible repeat (first | apply Kd.R_alloc | apply Kd.R_drewN | apply Kd.R_drew)); exact Kd.R_mono HO350.out (fun _ hk => ⟨hk.1.1.1.2, hk.1.1.2⟩)⟩, ⟨bw HB⟩⟩
 case rest1 =>
   intro u_ wc hcut l_ hl_; (simp only [rl, List.reduceReplicate, List.cons_append, List.nil_append, List.append_nil, Bool.not_true, Bool.not_false, fu, Nat.reduceAdd] at hl_); subst hl_; generalize u_ 178 = v178 at hcut ⊢
   clear HC14
   try clear c1
   try clear c4
   obtain ⟨kq, x178_13, rfl, HA, HJ13, HO_5, HO_7, HO_11, HB⟩ := hcut
   cases kq with
   | zero => exact absurd HA.out (by simp [laws_FnBucketsCount.j0])
   | succ kj13 =>
    have H := HA.out
    clear HA
    simp only [laws_FnBucketsCount.j0] at H
    by_cases c52 : x178_13 = true
    ·subst c52
     have H1 : (some false) = some r := by rw [if_pos rfl] at H; exact H
     clear H
     have H := H1
     clear H1
     exact absurd ((Option.some.inj H).trans hrt.out) (by decide)
    replace c52 := Bool.eq_false_iff.mpr c52
    subst c52
    have H1 : (if t340 = true then (laws_FnBucketsCount.l0 kj13 l1 t335 t336 t339 t347 t355 t359 t336 t335 (t335.length : Int) 0) else (laws_FnBucketsCount.j5 kj13 l1)) = some r := by rw [if_neg (show ¬ (false = true) by decide)] at H; exact H
    clear H
    have H := H1
    clear H1
    have HC53 := Aside0.mk H
    clear H
    go_upto_if 179 with (fail)
    repeat (go_quiet (fail); go_upto_if 179 with (fail))
    refine cutF (rl [4, 1, 18, 12, 23, 387] false) (fun u_ wc => ∃ (kq : Nat), Aside0 (laws_FnBucketsCount.j5 kq l1 = some r) ∧ Aside0 (kq ≤ kj13) ∧ Aside0 (Below w.heap.size w wc)) ?first4 ?rest4
    case first4 =>
     as_aux_lemma =>
      intro J_ K_ hJ_ hK_
      have H := HC53.out
      clear HC53
      by_cases c54 : t340 = true
      rotate_left
      ·replace c54 := Bool.eq_false_iff.mpr c54
       subst c54
       have H1 : (laws_FnBucketsCount.j5 kj13 l1) = some r := by rw [if_neg (show ¬ (false = true) by decide)] at H; exact H
       clear H
       have H := H1
       clear H1
       have H' := Aside0.mk H
       clear H
       go_wp2
       repeat (go_quiet (fail); try go_wp2)
       (refine Met.intro ?_; go_step; refine Cut_mk (by kernel_rfl) ?rel5)
       case rel5 => exact ⟨_, H', ⟨by first | exact Nat.le_refl _ | exact Nat.le_of_succ_le HJ13.out | (have := HJ13.out; omega)⟩, ⟨bw HB⟩⟩
      subst c54
      have H1 : (laws_FnBucketsCount.l0 kj13 l1 t335 t336 t339 t347 t355 t359 t336 t335 (t335.length : Int) 0) = some r := by rw [if_pos rfl] at H; exact H
      clear H
      have H := H1
      clear H1
      have H' := Aside0.mk H
      clear H
      go_wp2
      repeat (go_quiet (fail); try go_wp2)
      try simp only [Act.put, List.setIfInBounds_toArray, List.set_cons_zero, List.set_cons_succ]
      refine loopF (rl [4, 1, 18, 3, 157, 38, 224] false) kj13 (fun kq u_ w' => ∃ (x23_2 : Int) (x183_2 : Int), (u_ 23) = .int .i64 x23_2 ∧ (u_ 183) = .int .i64 x183_2 ∧ Aside0 (laws_FnBucketsCount.l0 kq l1 t335 t336 t339 t347 t355 t359 x23_2 t335 (t335.length : Int) x183_2 = some r) ∧ Aside0 (kq ≤ kj13) ∧ Aside0 (Kd.R (Kd.int .i64) 3 w' w.heap.size (fun k_ => some k_ ≠ (v341 : Value).ownBlock ∧ some k_ ≠ (v349 : Value).ownBlock) (.slice Ao16 t335.length co16) t335) ∧ Aside0 (Kd.R (Kd.int .i64) 3 w' w.heap.size (fun k_ => some k_ ≠ ((.slice Ao16 t335.length co16) : Value).ownBlock ∧ some k_ ≠ (v349 : Value).ownBlock ∧ some k_ ≠ ((.slice Ao16 t335.length co16) : Value).ownBlock) v341 t339) ∧ Aside0 (Kd.R (Kd.int .i64) 3 w' w.heap.size (fun k_ => some k_ ≠ ((.slice Ao16 t335.length co16) : Value).ownBlock ∧ some k_ ≠ (v341 : Value).ownBlock ∧ some k_ ≠ ((.slice Ao16 t335.length co16) : Value).ownBlock) v349 t347) ∧ Aside0 (Kd.R (Kd.int .i64) 3 w' w.heap.size (fun k_ => some k_ ≠ (v341 : Value).ownBlock ∧ some k_ ≠ (v349 : Value).ownBlock) (.slice Ao16 t335.length co16) t335) ∧ Aside0 (Below w.heap.size w w')) ?atStart6 ?round6
      case atStart6 => exact ⟨(t336), (0), (by first | rfl | (simp; done) | (simp [*]; done)), (by first | rfl | (simp; done) | (simp [*]; done)), H', ⟨Nat.le_refl _⟩, ⟨rk HO_5⟩, ⟨by (with_reducible repeat (first | apply Kd.R_alloc | apply Kd.R_drewN | apply Kd.R_drew)); exact Kd.R_mono HO_7.out (fun _ hk => ⟨hk.1, ⟨hk.2, hk.1⟩⟩)⟩, ⟨by (with_reducible repeat (first | apply Kd.R_alloc | apply Kd.R_drewN | apply Kd.R_drew)); exact Kd.R_mono HO_11.out (fun _ hk => ⟨hk.1, ⟨hk.2, hk.1⟩⟩)⟩, ⟨rk HO_5⟩, ⟨bw HB⟩⟩
      case round6 =>
       intro gk u_ wr hrel l_ hl_; (simp only [rl, List.reduceReplicate, List.cons_append, List.nil_append, List.append_nil, Bool.not_true, Bool.not_false, fu, Nat.reduceAdd] at hl_); subst hl_; generalize u_ 23 = v23 at hrel ⊢; generalize u_ 183 = v183 at hrel ⊢
       intro J_ K_ hJ_ hK_
       clear H'
       try clear c1
       try clear c4
       try clear c52
       try clear c54
       obtain ⟨x23_2, x183_2, rfl, rfl, HA, HK2, HO_5, HO_7, HO_11, HO_181, HB⟩ := hrel
       cases gk with
       | zero => exact absurd HA.out (by simp [laws_FnBucketsCount.l0])
       | succ k2 =>
        have H := HA.out
        clear HA
        simp only [laws_FnBucketsCount.l0] at H
        by_cases c55 : x183_2 < (t335.length : Int)
        ·rw [if_pos c55] at H
         have c55b0 : decide (x183_2 < (t335.length : Int)) = true := decide_eq_true c55
         clear c55
         (first | rw [c55b0] | (simp only [i64_w, i32_w]; rw [c55b0]) | skip)
         by_cases c56 : 0 ≤ x183_2
         rotate_left
         ·rw [if_neg c56] at H
          exact absurd H (by simp)
         rw [if_pos c56] at H
         have c56b0 : decide (0 ≤ x183_2) = true := decide_eq_true c56
         clear c56
         by_cases c57 : x183_2 < (t335.length : Int)
         rotate_left
         ·rw [if_neg c57] at H
          exact absurd H (by simp)
         rw [if_pos c57] at H
         have c57b0 : decide (x183_2 < (t335.length : Int)) = true := decide_eq_true c57
         clear c57
         by_cases c58 : x183_2 < (t339.length : Int)
         rotate_left
         ·rw [if_neg c58] at H
          exact absurd H (by simp)
         rw [if_pos c58] at H
         have c58b0 : decide (x183_2 < (t339.length : Int)) = true := decide_eq_true c58
         clear c58
         by_cases c59 : (rd t339 x183_2) < 0
         ·rw [if_pos c59] at H
          have c59b0 : decide ((rd t339 x183_2) < 0) = true := decide_eq_true c59
          clear c59
          exact absurd ((Option.some.inj H).trans hrt.out) (by decide)
         rw [if_neg c59] at H
         have c59b0 : decide ((rd t339 x183_2) < 0) = false := decide_eq_false c59
         clear c59
         by_cases c60 : (rd t339 x183_2) ≥ (rd t335 x183_2)
         ·rw [if_pos c60] at H
          have c60b0 : decide ((rd t335 x183_2) ≤ (rd t339 x183_2)) = true := decide_eq_true c60
          clear c60
          exact absurd ((Option.some.inj H).trans hrt.out) (by decide)
         rw [if_neg c60] at H
         have c60b0 : decide ((rd t335 x183_2) ≤ (rd t339 x183_2)) = false := decide_eq_false c60
         clear c60
         by_cases c61 : x183_2 < (t347.length : Int)
         rotate_left
         ·rw [if_neg c61] at H
          exact absurd H (by simp)
         rw [if_pos c61] at H
         have c61b0 : decide (x183_2 < (t347.length : Int)) = true := decide_eq_true c61
         clear c61
         by_cases c62 : (wrap64 ((wrap64 ((rd t347 x183_2) * (rd t335 x183_2))) + (rd t339 x183_2))) = x23_2
         rotate_left
         ·rw [if_neg c62] at H
          have c62b0 : ((wrap64 ((wrap64 ((rd t347 x183_2) * (rd t335 x183_2))) + (rd t339 x183_2))) == x23_2) = false := beq_eq_false_iff_ne.mpr c62
          have c62b1 : ((wrap64 ((wrap64 ((rd t347 x183_2) * (rd t335 x183_2))) + (rd t339 x183_2))) != x23_2) = true := bne_iff_ne.mpr c62
          exact absurd ((Option.some.inj H).trans hrt.out) (by decide)
         rw [if_pos c62] at H
         have c62b0 : ((wrap64 ((wrap64 ((rd t347 x183_2) * (rd t335 x183_2))) + (rd t339 x183_2))) == x23_2) = true := beq_iff_eq.mpr c62
         have c62b1 : ((wrap64 ((wrap64 ((rd t347 x183_2) * (rd t335 x183_2))) + (rd t339 x183_2))) != x23_2) = false := bne_eq_false_iff_eq.mpr c62
         clear c62
         have H' := Aside0.mk H
         clear H
         have p368 : 0 ≤ (x183_2 : Int) := of_decide_eq_true (by first | (with_reducible assumption) | assumption)
         have q368 : x183_2 < (t335.length : Int) := of_decide_eq_true (by first | (with_reducible assumption) | assumption)
         obtain ⟨ad368, e368, hx368_0⟩ := Kd.at_int (Kd.R_reads' HO_181.out).2.2 x183_2 p368 q368
         cases e368
         replace p368 := eq_true p368
         replace q368 := eq_true q368
         obtain ⟨Ao63, co63, eo63⟩ := Kd.R_slice HO_7.out
         subst eo63
         have p369 : 0 ≤ (x183_2 : Int) := of_decide_eq_true (by first | (with_reducible assumption) | assumption)
         have q369 : x183_2 < (t339.length : Int) := of_decide_eq_true (by first | (with_reducible assumption) | assumption)
         obtain ⟨ad369, e369, hx369_0⟩ := Kd.at_int (Kd.R_reads' HO_7.out).2.2 x183_2 p369 q369
         cases e369
         replace p369 := eq_true p369
         replace q369 := eq_true q369
         have p370 : 0 ≤ (x183_2 : Int) := of_decide_eq_true (by first | (with_reducible assumption) | assumption)
         have q370 : x183_2 < (t339.length : Int) := of_decide_eq_true (by first | (with_reducible assumption) | assumption)
         obtain ⟨ad370, e370, hx370_0⟩ := Kd.at_int (Kd.R_reads' HO_7.out).2.2 x183_2 p370 q370
         obtain rfl : ad369 = ad370 := (by injection e370)
         replace p370 := eq_true p370
         replace q370 := eq_true q370
         obtain ⟨Ao64, co64, eo64⟩ := Kd.R_slice HO_11.out
         subst eo64
         have p371 : 0 ≤ (x183_2 : Int) := of_decide_eq_true (by first | (with_reducible assumption) | assumption)
         have q371 : x183_2 < (t347.length : Int) := of_decide_eq_true (by first | (with_reducible assumption) | assumption)
         obtain ⟨ad371, e371, hx371_0⟩ := Kd.at_int (Kd.R_reads' HO_11.out).2.2 x183_2 p371 q371
         cases e371
         replace p371 := eq_true p371
         replace q371 := eq_true q371
         have p372 : 0 ≤ (x183_2 : Int) := of_decide_eq_true (by first | (with_reducible assumption) | assumption)
         have q372 : x183_2 < (t339.length : Int) := of_decide_eq_true (by first | (with_reducible assumption) | assumption)
         obtain ⟨ad372, e372, hx372_0⟩ := Kd.at_int (Kd.R_reads' HO_7.out).2.2 x183_2 p372 q372
         obtain rfl : ad369 = ad372 := (by injection e372)
         replace p372 := eq_true p372
         replace q372 := eq_true q372
         have p373 : 0 ≤ (x183_2 : Int) := of_decide_eq_true (by first | (with_reducible assumption) | assumption)
         have q373 : x183_2 < (t347.length : Int) := of_decide_eq_true (by first | (with_reducible assumption) | assumption)
         obtain ⟨ad373, e373, hx373_0⟩ := Kd.at_int (Kd.R_reads' HO_11.out).2.2 x183_2 p373 q373
         obtain rfl : ad371 = ad373 := (by injection e373)
         replace p373 := eq_true p373
         replace q373 := eq_true q373
         go_wp2
         repeat (go_quiet (fail); try go_wp2)
         (refine Handed.intro k2 ?measure7 ?_; rotate_left; go_step; refine LoopI_mk (by kernel_rfl) ?rel7)
         case measure7 => have := HJ13.out; have := HK2.out; omega
         case rel7 => exact ⟨(rd t347 x183_2), (wrap64 (x183_2 + 1)), (by first | rfl | (simp; done) | (simp [*]; done)), (by first | rfl | (simp; done) | (simp [*]; done)), H', ⟨by have := HJ13.out; have := HK2.out; omega⟩, ⟨rk HO_5⟩, ⟨rk HO_7⟩, ⟨rk HO_11⟩, ⟨rk HO_181⟩, ⟨bw HB⟩⟩
        rw [if_neg c55] at H
        have c55b0 : decide (x183_2 < (t335.length : Int)) = false := decide_eq_false c55
        clear c55
        (first | rw [c55b0] | (simp only [i64_w, i32_w]; rw [c55b0]) | skip)
        replace H := Option.bind_eq_some_iff.mp H
        obtain ⟨⟨t374, t375⟩, A650, H⟩ := H
        replace H : (if t375 = true then (if t359 = 0 then (none) else (laws_FnBucketsCount.j2 k2 l1 t335 t336 t339 t347 t355 (t374 != (Int.tmod t336 t359)))) else (laws_FnBucketsCount.j2 k2 l1 t335 t336 t339 t347 t355 true)) = some r := H
        have A65 := Aside0.mk A650
        clear A650
        have HC66 := Aside0.mk H
        clear H
        obtain ⟨Ao67, co67, eo67⟩ := Kd.R_slice HO_7.out
        subst eo67
        go_upto_region 24 with (first | (go_at_call 90; (with_reducible refine (impl_DropsFor.calls k2 _ _ t335 _ _ t339 t374 t375 _ ?side1 ?side2 ?side3 ?side4 A65.out).mono ?_); (case side1 => exact cr HO_5); (case side2 => exact (Kd.R_reads' HO_5.out).2.1); (case side3 => exact cr HO_7); (case side4 => exact (Kd.R_reads' HO_7.out).2.1); rintro e w68 ⟨rfl, hb⟩; replace HO_5 := rb HO_5 hb; replace HO_7 := rb HO_7 hb; replace HO_11 := rb HO_11 hb; replace HO_181 := rb HO_181 hb; replace HB := bs HB hb; (try clear hb)))
        repeat (go_quiet (first | (go_at_call 90; (with_reducible refine (impl_DropsFor.calls k2 _ _ t335 _ _ t339 t374 t375 _ ?side1 ?side2 ?side3 ?side4 A65.out).mono ?_); (case side1 => exact cr HO_5); (case side2 => exact (Kd.R_reads' HO_5.out).2.1); (case side3 => exact cr HO_7); (case side4 => exact (Kd.R_reads' HO_7.out).2.1); rintro e w68 ⟨rfl, hb⟩; have n0_ := rb HO_5 hb; have n1_ := rb HO_7 hb; have n2_ := rb HO_11 hb; have n3_ := rb HO_181 hb; have n4_ := bs HB hb; clear HO_5; clear HO_7; clear HO_11; clear HO_181; clear HB; have HO_5 := n0_; have HO_7 := n1_; have HO_11 := n2_; have HO_181 := n3_; have HB := n4_; clear n0_ n1_ n2_ n3_ n4_; (try clear hb); (try clear hb2); (try clear hk); (try clear hi))); go_upto_region 24 with (first | (go_at_call 90; (with_reducible refine (impl_DropsFor.calls k2 _ _ t335 _ _ t339 t374 t375 _ ?side1 ?side2 ?side3 ?side4 A65.out).mono ?_); (case side1 => exact cr HO_5); (case side2 => exact (Kd.R_reads' HO_5.out).2.1); (case side3 => exact cr HO_7); (case side4 => exact (Kd.R_reads' HO_7.out).2.1); rintro e w68 ⟨rfl, hb⟩; have n0_ := rb HO_5 hb; have n1_ := rb HO_7 hb; have n2_ := rb HO_11 hb; have n3_ := rb HO_181 hb; have n4_ := bs HB hb; clear HO_5; clear HO_7; clear HO_11; clear HO_181; clear HB; have HO_5 := n0_; have HO_7 := n1_; have HO_11 := n2_; have HO_181 := n3_; have HB := n4_; clear n0_ n1_ n2_ n3_ n4_; (try clear hb); (try clear hb2); (try clear hk); (try clear hi))))
        (try simp only [Act.put, List.setIfInBounds_toArray, List.set_cons_zero, List.set_cons_succ])
        refine cutF (rl [58, 123, 3, 91, 2, 168] false) (fun u_ wc => ∃ (kq : Nat) (x235_65 : Bool), (u_ 235) = .bool x235_65 ∧ Aside0 (laws_FnBucketsCount.j2 kq l1 t335 t336 t339 t347 t355 x235_65 = some r) ∧ Aside0 (kq ≤ k2) ∧ Aside0 (Kd.R (Kd.int .i64) 3 wc w.heap.size (fun k_ => some k_ ≠ ((.slice Ao67 t339.length co67) : Value).ownBlock ∧ some k_ ≠ (v349 : Value).ownBlock) (.slice Ao16 t335.length co16) t335) ∧ Aside0 (Kd.R (Kd.int .i64) 3 wc w.heap.size (fun k_ => some k_ ≠ ((.slice Ao16 t335.length co16) : Value).ownBlock ∧ some k_ ≠ (v349 : Value).ownBlock) (.slice Ao67 t339.length co67) t339) ∧ Aside0 (Kd.R (Kd.int .i64) 3 wc w.heap.size (fun k_ => some k_ ≠ ((.slice Ao16 t335.length co16) : Value).ownBlock ∧ some k_ ≠ ((.slice Ao67 t339.length co67) : Value).ownBlock) v349 t347) ∧ Aside0 (Below w.heap.size w wc)) ?first8 ?rest8
        case first8 =>
         as_aux_lemma =>
          intro J_ K_ hJ_ hK_
          have H := HC66.out
          clear HC66
          by_cases c69 : t375 = true
          rotate_left
          ·replace c69 := Bool.eq_false_iff.mpr c69
           subst c69
           have H1 : (laws_FnBucketsCount.j2 k2 l1 t335 t336 t339 t347 t355 true) = some r := by rw [if_neg (show ¬ (false = true) by decide)] at H; exact H
           clear H
           have H := H1
           clear H1
           exact absurd H (by rw [hrt.out]; cases k2 <;> simp [laws_FnBucketsCount.j2])
          subst c69
          have H1 : (if t359 = 0 then (none) else (laws_FnBucketsCount.j2 k2 l1 t335 t336 t339 t347 t355 (t374 != (Int.tmod t336 t359)))) = some r := by rw [if_pos rfl] at H; exact H
          clear H
          have H := H1
          clear H1
          by_cases c70 : t359 = 0
          ·rw [if_pos c70] at H
           exact absurd H (by simp)
          rw [if_neg c70] at H
          have c70b0 : (t359 == 0) = false := beq_eq_false_iff_ne.mpr c70
          have c70b1 : (t359 != 0) = true := bne_iff_ne.mpr c70
          (first | rw [c70b0] | (simp only [i64_w, i32_w]; rw [c70b0]) | skip)
          have H' := Aside0.mk H
          clear H
          go_wp2
          repeat (go_quiet (fail); try go_wp2)
          (refine Met.intro ?_; go_step; refine Cut_mk (by kernel_rfl) ?rel9)
          case rel9 => exact ⟨_, ((t374 != (Int.tmod t336 t359))), (by first | rfl | (simp; done) | (simp [*]; done)), H', ⟨by first | exact Nat.le_refl _ | exact Nat.le_of_succ_le HK2.out | exact Nat.le_of_succ_le (Nat.le_trans HK2.out (Nat.le_of_succ_le HJ13.out)) | exact Nat.le_of_succ_le HJ13.out | (have := HJ13.out; have := HK2.out; omega)⟩, ⟨rk HO_5⟩, ⟨by (with_reducible repeat (first | apply Kd.R_alloc | apply Kd.R_drewN | apply Kd.R_drew)); exact Kd.R_mono HO_7.out (fun _ hk => ⟨hk.1, hk.2.1⟩)⟩, ⟨by (with_reducible repeat (first | apply Kd.R_alloc | apply Kd.R_drewN | apply Kd.R_drew)); exact Kd.R_mono HO_11.out (fun _ hk => ⟨hk.1, hk.2.1⟩)⟩, ⟨bw HB⟩⟩
        case rest8 =>
          intro u_ wc hcut l_ hl_; (simp only [rl, List.reduceReplicate, List.cons_append, List.nil_append, List.append_nil, Bool.not_true, Bool.not_false, fu, Nat.reduceAdd] at hl_); subst hl_; generalize u_ 235 = v235 at hcut ⊢
          clear HC66
          try clear c1
          try clear c4
          try clear c52
          try clear c54
          try clear c55
          try clear c55b0
          obtain ⟨kq, x235_65, rfl, HA, HJ65, HO_5, HO_7, HO_11, HB⟩ := hcut
          cases kq with
          | zero => exact absurd HA.out (by simp [laws_FnBucketsCount.j2])
          | succ kj65 =>
           have H := HA.out
           clear HA
           simp only [laws_FnBucketsCount.j2] at H
           by_cases c71 : x235_65 = true
           ·subst c71
            have H1 : (some false) = some r := by rw [if_pos rfl] at H; exact H
            clear H
            have H := H1
            clear H1
            exact absurd ((Option.some.inj H).trans hrt.out) (by decide)
           replace c71 := Bool.eq_false_iff.mpr c71
           subst c71
           have H1 : (if t336 > 0 then ((impl_TipsAfter.f kj65 t335 (wrap64 (t336 - 1))).bind fun bt376 => ((impl_HeldAfter.f kj65 t335 (wrap64 (t336 - 1))).bind fun bt380 => ((impl_AddDrops.f kj65 t335 bt380.1 1).bind fun bt384 => (if bt376.2 = true then (if bt380.2 = true then (if bt384.2 = true then ((laws_eSame.f kj65 bt384.1 t339).bind fun t388 => (laws_FnBucketsCount.j3 kj65 l1 t347 t355 bt376.1 (!t388))) else (laws_FnBucketsCount.j3 kj65 l1 t347 t355 bt376.1 true)) else (laws_FnBucketsCount.j3 kj65 l1 t347 t355 bt376.1 true)) else (laws_FnBucketsCount.j3 kj65 l1 t347 t355 bt376.1 true))))) else (laws_FnBucketsCount.j5 kj65 l1)) = some r := by rw [if_neg (show ¬ (false = true) by decide)] at H; exact H
           clear H
           have H := H1
           clear H1
           by_cases c72 : t336 > 0
           rotate_left
           ·rw [if_neg c72] at H
            have c72b0 : decide (0 < t336) = false := decide_eq_false c72
            clear c72
            have H' := Aside0.mk H
            clear H
            go_wp2
            repeat (go_quiet (fail); try go_wp2)
            (refine Met.intro ?_; go_step; refine Cut_mk (by kernel_rfl) ?rel10)
            case rel10 => exact ⟨_, H', ⟨by first | exact Nat.le_refl _ | exact Nat.le_of_succ_le HJ65.out | exact Nat.le_of_succ_le (Nat.le_trans HJ65.out (Nat.le_of_succ_le HK2.out)) | exact Nat.le_of_succ_le (Nat.le_trans (Nat.le_trans HJ65.out (Nat.le_of_succ_le HK2.out)) (Nat.le_of_succ_le HJ13.out)) | exact Nat.le_of_succ_le HK2.out | exact Nat.le_of_succ_le (Nat.le_trans HK2.out (Nat.le_of_succ_le HJ13.out)) | exact Nat.le_of_succ_le HJ13.out | (have := HJ13.out; have := HK2.out; have := HJ65.out; omega)⟩, ⟨bw HB⟩⟩
           rw [if_pos c72] at H
           have c72b0 : decide (0 < t336) = true := decide_eq_true c72
           clear c72
           replace H := Option.bind_eq_some_iff.mp H
           obtain ⟨⟨t376, t377⟩, A730, H⟩ := H
           replace H : ((impl_HeldAfter.f kj65 t335 (wrap64 (t336 - 1))).bind fun bt380 => ((impl_AddDrops.f kj65 t335 bt380.1 1).bind fun bt384 => (if t377 = true then (if bt380.2 = true then (if bt384.2 = true then ((laws_eSame.f kj65 bt384.1 t339).bind fun t388 => (laws_FnBucketsCount.j3 kj65 l1 t347 t355 t376 (!t388))) else (laws_FnBucketsCount.j3 kj65 l1 t347 t355 t376 true)) else (laws_FnBucketsCount.j3 kj65 l1 t347 t355 t376 true)) else (laws_FnBucketsCount.j3 kj65 l1 t347 t355 t376 true)))) = some r := H
           have A73 := Aside0.mk A730
           clear A730
           replace H := Option.bind_eq_some_iff.mp H
           obtain ⟨⟨t380, t381⟩, A740, H⟩ := H
           replace H : ((impl_AddDrops.f kj65 t335 t380 1).bind fun bt384 => (if t377 = true then (if t381 = true then (if bt384.2 = true then ((laws_eSame.f kj65 bt384.1 t339).bind fun t388 => (laws_FnBucketsCount.j3 kj65 l1 t347 t355 t376 (!t388))) else (laws_FnBucketsCount.j3 kj65 l1 t347 t355 t376 true)) else (laws_FnBucketsCount.j3 kj65 l1 t347 t355 t376 true)) else (laws_FnBucketsCount.j3 kj65 l1 t347 t355 t376 true))) = some r := H
           have A74 := Aside0.mk A740
           clear A740
           replace H := Option.bind_eq_some_iff.mp H
           obtain ⟨⟨t384, t385⟩, A750, H⟩ := H
           replace H : (if t377 = true then (if t381 = true then (if t385 = true then ((laws_eSame.f kj65 t384 t339).bind fun t388 => (laws_FnBucketsCount.j3 kj65 l1 t347 t355 t376 (!t388))) else (laws_FnBucketsCount.j3 kj65 l1 t347 t355 t376 true)) else (laws_FnBucketsCount.j3 kj65 l1 t347 t355 t376 true)) else (laws_FnBucketsCount.j3 kj65 l1 t347 t355 t376 true)) = some r := H
           have A75 := Aside0.mk A750
           clear A750
           have HC76 := Aside0.mk H
           clear H
           go_upto_region 30 with (first | (go_at_call 82; (with_reducible refine (impl_TipsAfter.calls kj65 _ _ t335 (wrap64 (t336 - 1)) t376 t377 _ ?side1 ?side2 A73.out).mono ?_); (case side1 => exact cr HO_5); (case side2 => exact (Kd.R_reads' HO_5.out).2.1); rintro e w77 ⟨v378, rfl, ho0, hb⟩; have HO379 := Aside0.mk (Kd.R_lower (Kd.R_new' (Kd.R_new' (Kd.R_new' ho0 (Kd.R_lt (rk HO_5))) (Kd.R_lt (rk HO_7))) (Kd.R_lt (rk HO_11))) (below_size (bw HB))); replace HO_5 := Aside0.mk (Kd.R_elder' (rk HO_5) (Kd.R_base ho0) hb); replace HO_7 := Aside0.mk (Kd.R_elder' (rk HO_7) (Kd.R_base ho0) hb); replace HO_11 := Aside0.mk (Kd.R_elder' (rk HO_11) (Kd.R_base ho0) hb); replace HB := bs HB hb; (try clear hb); (try clear ho0)) | (go_at_call 80; (with_reducible refine (impl_HeldAfter.calls kj65 _ _ t335 (wrap64 (t336 - 1)) t380 t381 _ ?side1 ?side2 A74.out).mono ?_); (case side1 => exact cr HO_5); (case side2 => exact (Kd.R_reads' HO_5.out).2.1); rintro e w78 ⟨v382, rfl, ho0, hb⟩; have HO383 := Aside0.mk (Kd.R_lower (Kd.R_new' (Kd.R_new' (Kd.R_new' (Kd.R_new' ho0 (Kd.R_lt (rk HO_5))) (Kd.R_lt (rk HO_7))) (Kd.R_lt (rk HO_11))) (Kd.R_lt (rk HO379))) (below_size (bw HB))); replace HO_5 := Aside0.mk (Kd.R_elder' (rk HO_5) (Kd.R_base ho0) hb); replace HO_7 := Aside0.mk (Kd.R_elder' (rk HO_7) (Kd.R_base ho0) hb); replace HO_11 := Aside0.mk (Kd.R_elder' (rk HO_11) (Kd.R_base ho0) hb); replace HO379 := Aside0.mk (Kd.R_elder' (rk HO379) (Kd.R_base ho0) hb); replace HB := bs HB hb; (try clear hb); (try clear ho0); obtain ⟨Ao79, co79, eo79⟩ := Kd.R_slice HO383.out; subst eo79) | (go_at_call 91; (with_reducible refine (impl_AddDrops.calls kj65 _ _ t335 _ _ t380 1 t384 t385 _ ?side1 ?side2 ?side3 ?side4 A75.out).mono ?_); (case side1 => exact cr HO_5); (case side2 => exact (Kd.R_reads' HO_5.out).2.1); (case side3 => exact cr HO383); (case side4 => exact (Kd.R_reads' HO383.out).2.1); rintro e w80 ⟨v386, rfl, ho0, hb⟩; have HO387 := Aside0.mk (Kd.R_lower (Kd.R_new' (Kd.R_new' (Kd.R_new' (Kd.R_new' (Kd.R_new' ho0 (Kd.R_lt (rk HO_5))) (Kd.R_lt (rk HO_7))) (Kd.R_lt (rk HO_11))) (Kd.R_lt (rk HO379))) (Kd.R_lt (rk HO383))) (below_size (bw HB))); replace HO_5 := Aside0.mk (Kd.R_elder' (rk HO_5) (Kd.R_base ho0) hb); replace HO_7 := Aside0.mk (Kd.R_elder' (rk HO_7) (Kd.R_base ho0) hb); replace HO_11 := Aside0.mk (Kd.R_elder' (rk HO_11) (Kd.R_base ho0) hb); replace HO379 := Aside0.mk (Kd.R_elder' (rk HO379) (Kd.R_base ho0) hb); replace HO383 := Aside0.mk (Kd.R_elder' (rk HO383) (Kd.R_base ho0) hb); replace HB := bs HB hb; (try clear hb); (try clear ho0)))
           repeat (go_quiet (first | (go_at_call 82; (with_reducible refine (impl_TipsAfter.calls kj65 _ _ t335 (wrap64 (t336 - 1)) t376 t377 _ ?side1 ?side2 A73.out).mono ?_); (case side1 => exact cr HO_5); (case side2 => exact (Kd.R_reads' HO_5.out).2.1); rintro e w77 ⟨v378, rfl, ho0, hb⟩; have n0_ := Aside0.mk (Kd.R_elder' (rk HO_5) (Kd.R_base ho0) hb); have n1_ := Aside0.mk (Kd.R_elder' (rk HO_7) (Kd.R_base ho0) hb); have n2_ := Aside0.mk (Kd.R_elder' (rk HO_11) (Kd.R_base ho0) hb); have n3_ := Aside0.mk (Kd.R_lower (Kd.R_new' (Kd.R_new' (Kd.R_new' ho0 (Kd.R_lt (rk HO_5))) (Kd.R_lt (rk HO_7))) (Kd.R_lt (rk HO_11))) (below_size (bw HB))); have n4_ := bs HB hb; clear HO_5; clear HO_7; clear HO_11; clear HB; have HO_5 := n0_; have HO_7 := n1_; have HO_11 := n2_; have HO379 := n3_; have HB := n4_; clear n0_ n1_ n2_ n3_ n4_; (try clear hb); (try clear hb2); (try clear hk); (try clear hi); (try clear ho0)) | (go_at_call 80; (with_reducible refine (impl_HeldAfter.calls kj65 _ _ t335 (wrap64 (t336 - 1)) t380 t381 _ ?side1 ?side2 A74.out).mono ?_); (case side1 => exact cr HO_5); (case side2 => exact (Kd.R_reads' HO_5.out).2.1); rintro e w78 ⟨v382, rfl, ho0, hb⟩; have n0_ := Aside0.mk (Kd.R_elder' (rk HO_5) (Kd.R_base ho0) hb); have n1_ := Aside0.mk (Kd.R_elder' (rk HO_7) (Kd.R_base ho0) hb); have n2_ := Aside0.mk (Kd.R_elder' (rk HO_11) (Kd.R_base ho0) hb); have n3_ := Aside0.mk (Kd.R_elder' (rk HO379) (Kd.R_base ho0) hb); have n4_ := Aside0.mk (Kd.R_lower (Kd.R_new' (Kd.R_new' (Kd.R_new' (Kd.R_new' ho0 (Kd.R_lt (rk HO_5))) (Kd.R_lt (rk HO_7))) (Kd.R_lt (rk HO_11))) (Kd.R_lt (rk HO379))) (below_size (bw HB))); have n5_ := bs HB hb; clear HO_5; clear HO_7; clear HO_11; clear HO379; clear HB; have HO_5 := n0_; have HO_7 := n1_; have HO_11 := n2_; have HO379 := n3_; have HO383 := n4_; have HB := n5_; clear n0_ n1_ n2_ n3_ n4_ n5_; (try clear hb); (try clear hb2); (try clear hk); (try clear hi); (try clear ho0); obtain ⟨Ao79, co79, eo79⟩ := Kd.R_slice HO383.out; subst eo79) | (go_at_call 91; (with_reducible refine (impl_AddDrops.calls kj65 _ _ t335 _ _ t380 1 t384 t385 _ ?side1 ?side2 ?side3 ?side4 A75.out).mono ?_); (case side1 => exact cr HO_5); (case side2 => exact (Kd.R_reads' HO_5.out).2.1); (case side3 => exact cr HO383); (case side4 => exact (Kd.R_reads' HO383.out).2.1); rintro e w80 ⟨v386, rfl, ho0, hb⟩; have n0_ := Aside0.mk (Kd.R_elder' (rk HO_5) (Kd.R_base ho0) hb); have n1_ := Aside0.mk (Kd.R_elder' (rk HO_7) (Kd.R_base ho0) hb); have n2_ := Aside0.mk (Kd.R_elder' (rk HO_11) (Kd.R_base ho0) hb); have n3_ := Aside0.mk (Kd.R_elder' (rk HO379) (Kd.R_base ho0) hb); have n4_ := Aside0.mk (Kd.R_elder' (rk HO383) (Kd.R_base ho0) hb); have n5_ := Aside0.mk (Kd.R_lower (Kd.R_new' (Kd.R_new' (Kd.R_new' (Kd.R_new' (Kd.R_new' ho0 (Kd.R_lt (rk HO_5))) (Kd.R_lt (rk HO_7))) (Kd.R_lt (rk HO_11))) (Kd.R_lt (rk HO379))) (Kd.R_lt (rk HO383))) (below_size (bw HB))); have n6_ := bs HB hb; clear HO_5; clear HO_7; clear HO_11; clear HO379; clear HO383; clear HB; have HO_5 := n0_; have HO_7 := n1_; have HO_11 := n2_; have HO379 := n3_; have HO383 := n4_; have HO387 := n5_; have HB := n6_; clear n0_ n1_ n2_ n3_ n4_ n5_ n6_; (try clear hb); (try clear hb2); (try clear hk); (try clear hi); (try clear ho0))); go_upto_region 30 with (first | (go_at_call 82; (with_reducible refine (impl_TipsAfter.calls kj65 _ _ t335 (wrap64 (t336 - 1)) t376 t377 _ ?side1 ?side2 A73.out).mono ?_); (case side1 => exact cr HO_5); (case side2 => exact (Kd.R_reads' HO_5.out).2.1); rintro e w77 ⟨v378, rfl, ho0, hb⟩; have n0_ := Aside0.mk (Kd.R_elder' (rk HO_5) (Kd.R_base ho0) hb); have n1_ := Aside0.mk (Kd.R_elder' (rk HO_7) (Kd.R_base ho0) hb); have n2_ := Aside0.mk (Kd.R_elder' (rk HO_11) (Kd.R_base ho0) hb); have n3_ := Aside0.mk (Kd.R_lower (Kd.R_new' (Kd.R_new' (Kd.R_new' ho0 (Kd.R_lt (rk HO_5))) (Kd.R_lt (rk HO_7))) (Kd.R_lt (rk HO_11))) (below_size (bw HB))); have n4_ := bs HB hb; clear HO_5; clear HO_7; clear HO_11; clear HB; have HO_5 := n0_; have HO_7 := n1_; have HO_11 := n2_; have HO379 := n3_; have HB := n4_; clear n0_ n1_ n2_ n3_ n4_; (try clear hb); (try clear hb2); (try clear hk); (try clear hi); (try clear ho0)) | (go_at_call 80; (with_reducible refine (impl_HeldAfter.calls kj65 _ _ t335 (wrap64 (t336 - 1)) t380 t381 _ ?side1 ?side2 A74.out).mono ?_); (case side1 => exact cr HO_5); (case side2 => exact (Kd.R_reads' HO_5.out).2.1); rintro e w78 ⟨v382, rfl, ho0, hb⟩; have n0_ := Aside0.mk (Kd.R_elder' (rk HO_5) (Kd.R_base ho0) hb); have n1_ := Aside0.mk (Kd.R_elder' (rk HO_7) (Kd.R_base ho0) hb); have n2_ := Aside0.mk (Kd.R_elder' (rk HO_11) (Kd.R_base ho0) hb); have n3_ := Aside0.mk (Kd.R_elder' (rk HO379) (Kd.R_base ho0) hb); have n4_ := Aside0.mk (Kd.R_lower (Kd.R_new' (Kd.R_new' (Kd.R_new' (Kd.R_new' ho0 (Kd.R_lt (rk HO_5))) (Kd.R_lt (rk HO_7))) (Kd.R_lt (rk HO_11))) (Kd.R_lt (rk HO379))) (below_size (bw HB))); have n5_ := bs HB hb; clear HO_5; clear HO_7; clear HO_11; clear HO379; clear HB; have HO_5 := n0_; have HO_7 := n1_; have HO_11 := n2_; have HO379 := n3_; have HO383 := n4_; have HB := n5_; clear n0_ n1_ n2_ n3_ n4_ n5_; (try clear hb); (try clear hb2); (try clear hk); (try clear hi); (try clear ho0); obtain ⟨Ao79, co79, eo79⟩ := Kd.R_slice HO383.out; subst eo79) | (go_at_call 91; (with_reducible refine (impl_AddDrops.calls kj65 _ _ t335 _ _ t380 1 t384 t385 _ ?side1 ?side2 ?side3 ?side4 A75.out).mono ?_); (case side1 => exact cr HO_5); (case side2 => exact (Kd.R_reads' HO_5.out).2.1); (case side3 => exact cr HO383); (case side4 => exact (Kd.R_reads' HO383.out).2.1); rintro e w80 ⟨v386, rfl, ho0, hb⟩; have n0_ := Aside0.mk (Kd.R_elder' (rk HO_5) (Kd.R_base ho0) hb); have n1_ := Aside0.mk (Kd.R_elder' (rk HO_7) (Kd.R_base ho0) hb); have n2_ := Aside0.mk (Kd.R_elder' (rk HO_11) (Kd.R_base ho0) hb); have n3_ := Aside0.mk (Kd.R_elder' (rk HO379) (Kd.R_base ho0) hb); have n4_ := Aside0.mk (Kd.R_elder' (rk HO383) (Kd.R_base ho0) hb); have n5_ := Aside0.mk (Kd.R_lower (Kd.R_new' (Kd.R_new' (Kd.R_new' (Kd.R_new' (Kd.R_new' ho0 (Kd.R_lt (rk HO_5))) (Kd.R_lt (rk HO_7))) (Kd.R_lt (rk HO_11))) (Kd.R_lt (rk HO379))) (Kd.R_lt (rk HO383))) (below_size (bw HB))); have n6_ := bs HB hb; clear HO_5; clear HO_7; clear HO_11; clear HO379; clear HO383; clear HB; have HO_5 := n0_; have HO_7 := n1_; have HO_11 := n2_; have HO379 := n3_; have HO383 := n4_; have HO387 := n5_; have HB := n6_; clear n0_ n1_ n2_ n3_ n4_ n5_ n6_; (try clear hb); (try clear hb2); (try clear hk); (try clear hi); (try clear ho0))))
           (try simp only [Act.put, List.setIfInBounds_toArray, List.set_cons_zero, List.set_cons_succ])
           refine cutF (rl [58, 123, 3, 91, 2, 168] false) (fun u_ wc => ∃ (kq : Nat) (x273_75 : Bool), (u_ 273) = .bool x273_75 ∧ Aside0 (laws_FnBucketsCount.j3 kq l1 t347 t355 t376 x273_75 = some r) ∧ Aside0 (kq ≤ kj65) ∧ Aside0 (Kd.R (Kd.int .i64) 3 wc w.heap.size (fun k_ => some k_ ≠ (v378 : Value).ownBlock) v349 t347) ∧ Aside0 (Kd.R (Kd.int .i64) 3 wc w.heap.size (fun k_ => some k_ ≠ (v349 : Value).ownBlock) v378 t376) ∧ Aside0 (Below w.heap.size w wc)) ?first11 ?rest11
           case first11 =>
            as_aux_lemma =>
             intro J_ K_ hJ_ hK_
             have H := HC76.out
             clear HC76
             by_cases c81 : t377 = true
             rotate_left
             ·replace c81 := Bool.eq_false_iff.mpr c81
              subst c81
              have H1 : (laws_FnBucketsCount.j3 kj65 l1 t347 t355 t376 true) = some r := by rw [if_neg (show ¬ (false = true) by decide)] at H; exact H
              clear H
              have H := H1
              clear H1
              exact absurd H (by rw [hrt.out]; cases kj65 <;> simp [laws_FnBucketsCount.j3])
             subst c81
             have H1 : (if t381 = true then (if t385 = true then ((laws_eSame.f kj65 t384 t339).bind fun t388 => (laws_FnBucketsCount.j3 kj65 l1 t347 t355 t376 (!t388))) else (laws_FnBucketsCount.j3 kj65 l1 t347 t355 t376 true)) else (laws_FnBucketsCount.j3 kj65 l1 t347 t355 t376 true)) = some r := by rw [if_pos rfl] at H; exact H
             clear H
             have H := H1
             clear H1
             by_cases c82 : t381 = true
             rotate_left
             ·replace c82 := Bool.eq_false_iff.mpr c82
              subst c82
              have H1 : (laws_FnBucketsCount.j3 kj65 l1 t347 t355 t376 true) = some r := by rw [if_neg (show ¬ (false = true) by decide)] at H; exact H
              clear H
              have H := H1
              clear H1
              exact absurd H (by rw [hrt.out]; cases kj65 <;> simp [laws_FnBucketsCount.j3])
             subst c82
             have H1 : (if t385 = true then ((laws_eSame.f kj65 t384 t339).bind fun t388 => (laws_FnBucketsCount.j3 kj65 l1 t347 t355 t376 (!t388))) else (laws_FnBucketsCount.j3 kj65 l1 t347 t355 t376 true)) = some r := by rw [if_pos rfl] at H; exact H
             clear H
             have H := H1
             clear H1
             by_cases c83 : t385 = true
             rotate_left
             ·replace c83 := Bool.eq_false_iff.mpr c83
              subst c83
              have H1 : (laws_FnBucketsCount.j3 kj65 l1 t347 t355 t376 true) = some r := by rw [if_neg (show ¬ (false = true) by decide)] at H; exact H
              clear H
              have H := H1
              clear H1
              exact absurd H (by rw [hrt.out]; cases kj65 <;> simp [laws_FnBucketsCount.j3])
             subst c83
             have H1 : ((laws_eSame.f kj65 t384 t339).bind fun t388 => (laws_FnBucketsCount.j3 kj65 l1 t347 t355 t376 (!t388))) = some r := by rw [if_pos rfl] at H; exact H
             clear H
             have H := H1
             clear H1
             replace H := Option.bind_eq_some_iff.mp H
             obtain ⟨t388, A840, H⟩ := H
             replace H : (laws_FnBucketsCount.j3 kj65 l1 t347 t355 t376 (!t388)) = some r := H
             have A84 := Aside0.mk A840
             clear A840
             have H' := Aside0.mk H
             clear H
             obtain ⟨Ao85, co85, eo85⟩ := Kd.R_slice HO387.out
             subst eo85
             go_wp2_with (first | (go_at_call 29; (with_reducible refine (laws_eSame.calls kj65 _ _ t384 _ _ t339 t388 _ ?side1 ?side2 ?side3 ?side4 A84.out).mono ?_); (case side1 => exact cr HO387); (case side2 => exact (Kd.R_reads' HO387.out).2.1); (case side3 => exact cr HO_7); (case side4 => exact (Kd.R_reads' HO_7.out).2.1); rintro e w' ⟨rfl, ⟨nd, rfl⟩⟩; (try first | exact ⟨rfl, _, World.drewN_drewN _ _ _⟩ | exact ⟨rfl, _, Eq.trans (World.drewN_drewN _ _ _) (congrArg (World.drewN _) (Nat.add_assoc _ _ _))⟩)))
             repeat (go_quiet (first | (go_at_call 29; (with_reducible refine (laws_eSame.calls kj65 _ _ t384 _ _ t339 t388 _ ?side1 ?side2 ?side3 ?side4 A84.out).mono ?_); (case side1 => exact cr HO387); (case side2 => exact (Kd.R_reads' HO387.out).2.1); (case side3 => exact cr HO_7); (case side4 => exact (Kd.R_reads' HO_7.out).2.1); rintro e w' ⟨rfl, ⟨nd, rfl⟩⟩; (try first | exact ⟨rfl, _, World.drewN_drewN _ _ _⟩ | exact ⟨rfl, _, Eq.trans (World.drewN_drewN _ _ _) (congrArg (World.drewN _) (Nat.add_assoc _ _ _))⟩))); try go_wp2_with (first | (go_at_call 29; (with_reducible refine (laws_eSame.calls kj65 _ _ t384 _ _ t339 t388 _ ?side1 ?side2 ?side3 ?side4 A84.out).mono ?_); (case side1 => exact cr HO387); (case side2 => exact (Kd.R_reads' HO387.out).2.1); (case side3 => exact cr HO_7); (case side4 => exact (Kd.R_reads' HO_7.out).2.1); rintro e w' ⟨rfl, ⟨nd, rfl⟩⟩; (try first | exact ⟨rfl, _, World.drewN_drewN _ _ _⟩ | exact ⟨rfl, _, Eq.trans (World.drewN_drewN _ _ _) (congrArg (World.drewN _) (Nat.add_assoc _ _ _))⟩))))
             (refine Met.intro ?_; go_step; refine Cut_mk (by kernel_rfl) ?rel12)
             case rel12 => exact ⟨_, (!t388), (by first | rfl | (simp; done) | (simp [*]; done)), H', ⟨by first | exact Nat.le_refl _ | exact Nat.le_of_succ_le HJ65.out | exact Nat.le_of_succ_le (Nat.le_trans HJ65.out (Nat.le_of_succ_le HK2.out)) | exact Nat.le_of_succ_le (Nat.le_trans (Nat.le_trans HJ65.out (Nat.le_of_succ_le HK2.out)) (Nat.le_of_succ_le HJ13.out)) | exact Nat.le_of_succ_le HK2.out | exact Nat.le_of_succ_le (Nat.le_trans HK2.out (Nat.le_of_succ_le HJ13.out)) | exact Nat.le_of_succ_le HJ13.out | (have := HJ13.out; have := HK2.out; have := HJ65.out; omega)⟩, ⟨by (with_reducible repeat (first | apply Kd.R_alloc | apply Kd.R_drewN | apply Kd.R_drew)); exact Kd.R_mono HO_11.out (fun _ hk => hk.1.1.2)⟩, ⟨by (with_reducible repeat (first | apply Kd.R_alloc | apply Kd.R_drewN | apply Kd.R_drew)); exact Kd.R_mono HO379.out (fun _ hk => hk.1.1.2)⟩, ⟨bw HB⟩⟩
           case rest11 =>
             intro u_ wc hcut l_ hl_; (simp only [rl, List.reduceReplicate, List.cons_append, List.nil_append, List.append_nil, Bool.not_true, Bool.not_false, fu, Nat.reduceAdd] at hl_); subst hl_; generalize u_ 273 = v273 at hcut ⊢
             clear HC76
             try clear c1
             try clear c4
             try clear c52
             try clear c54
             try clear c55
             try clear c55b0
             try clear c71
             try clear c72
             try clear c72b0
             obtain ⟨kq, x273_75, rfl, HA, HJ75, HO_11, HO_28, HB⟩ := hcut
             cases kq with
             | zero => exact absurd HA.out (by simp [laws_FnBucketsCount.j3])
             | succ kj75 =>
              have H := HA.out
              clear HA
              simp only [laws_FnBucketsCount.j3] at H
              by_cases c86 : x273_75 = true
              ·subst c86
               have H1 : (some false) = some r := by rw [if_pos rfl] at H; exact H
               clear H
               have H := H1
               clear H1
               exact absurd ((Option.some.inj H).trans hrt.out) (by decide)
              replace c86 := Bool.eq_false_iff.mpr c86
              subst c86
              have H1 : (laws_FnBucketsCount.l1 kj75 l1 t347 t355 t376 (t347.length : Int) 0) = some r := by rw [if_neg (show ¬ (false = true) by decide)] at H; exact H
              clear H
              have H := H1
              clear H1
              have H' := Aside0.mk H
              clear H
              obtain ⟨Ao87, co87, eo87⟩ := Kd.R_slice HO_11.out
              subst eo87
              go_wp2
              repeat (go_quiet (fail); try go_wp2)
              try simp only [Act.put, List.setIfInBounds_toArray, List.set_cons_zero, List.set_cons_succ]
              refine loopF (rl [4, 1, 29, 1, 241, 35, 134] false) kj75 (fun kq u_ w' => ∃ (x276_5 : Int), (u_ 276) = .int .i64 x276_5 ∧ Aside0 (laws_FnBucketsCount.l1 kq l1 t347 t355 t376 (t347.length : Int) x276_5 = some r) ∧ Aside0 (kq ≤ kj75) ∧ Aside0 (Kd.R (Kd.int .i64) 3 w' w.heap.size (fun k_ => some k_ ≠ (v378 : Value).ownBlock) (.slice Ao87 t347.length co87) t347) ∧ Aside0 (Kd.R (Kd.int .i64) 3 w' w.heap.size (fun k_ => some k_ ≠ ((.slice Ao87 t347.length co87) : Value).ownBlock) v378 t376) ∧ Aside0 (Below w.heap.size w w')) ?atStart13 ?round13
              case atStart13 => exact ⟨(0), (by first | rfl | (simp; done) | (simp [*]; done)), H', ⟨Nat.le_refl _⟩, ⟨rk HO_11⟩, ⟨rk HO_28⟩, ⟨bw HB⟩⟩
              case round13 =>
               intro gk u_ wr hrel l_ hl_; (simp only [rl, List.reduceReplicate, List.cons_append, List.nil_append, List.append_nil, Bool.not_true, Bool.not_false, fu, Nat.reduceAdd] at hl_); subst hl_; generalize u_ 276 = v276 at hrel ⊢
               intro J_ K_ hJ_ hK_
               clear H'
               try clear c1
               try clear c4
               try clear c52
               try clear c54
               try clear c55
               try clear c55b0
               try clear c71
               try clear c72
               try clear c72b0
               try clear c86
               obtain ⟨x276_5, rfl, HA, HK5, HO_11, HO_28, HB⟩ := hrel
               cases gk with
               | zero => exact absurd HA.out (by simp [laws_FnBucketsCount.l1])
               | succ k5 =>
                have H := HA.out
                clear HA
                simp only [laws_FnBucketsCount.l1] at H
                by_cases c88 : x276_5 < (t347.length : Int)
                rotate_left
                ·rw [if_neg c88] at H
                 have c88b0 : decide (x276_5 < (t347.length : Int)) = false := decide_eq_false c88
                 clear c88
                 have H' := Aside0.mk H
                 clear H
                 go_wp2
                 repeat (go_quiet (fail); try go_wp2)
                 (refine Met.intro ?_; go_step; refine Cut_mk (by kernel_rfl) ?rel14)
                 case rel14 => exact ⟨_, H', ⟨by first | exact Nat.le_refl _ | exact Nat.le_of_succ_le HK5.out | exact Nat.le_of_succ_le (Nat.le_trans HK5.out (Nat.le_of_succ_le HJ75.out)) | exact Nat.le_of_succ_le (Nat.le_trans (Nat.le_trans HK5.out (Nat.le_of_succ_le HJ75.out)) (Nat.le_of_succ_le HJ65.out)) | exact Nat.le_of_succ_le (Nat.le_trans (Nat.le_trans (Nat.le_trans HK5.out (Nat.le_of_succ_le HJ75.out)) (Nat.le_of_succ_le HJ65.out)) (Nat.le_of_succ_le HK2.out)) | exact Nat.le_of_succ_le (Nat.le_trans (Nat.le_trans (Nat.le_trans (Nat.le_trans HK5.out (Nat.le_of_succ_le HJ75.out)) (Nat.le_of_succ_le HJ65.out)) (Nat.le_of_succ_le HK2.out)) (Nat.le_of_succ_le HJ13.out)) | exact Nat.le_of_succ_le HJ75.out | exact Nat.le_of_succ_le (Nat.le_trans HJ75.out (Nat.le_of_succ_le HJ65.out)) | (have := HJ13.out; have := HK2.out; have := HJ65.out; have := HJ75.out; have := HK5.out; omega)⟩, ⟨bw HB⟩⟩
                rw [if_pos c88] at H
                have c88b0 : decide (x276_5 < (t347.length : Int)) = true := decide_eq_true c88
                clear c88
                by_cases c89 : 0 ≤ x276_5
                rotate_left
                ·rw [if_neg c89] at H
                 exact absurd H (by simp)
                rw [if_pos c89] at H
                have c89b0 : decide (0 ≤ x276_5) = true := decide_eq_true c89
                clear c89
                by_cases c90 : x276_5 < (t347.length : Int)
                rotate_left
                ·rw [if_neg c90] at H
                 exact absurd H (by simp)
                rw [if_pos c90] at H
                have c90b0 : decide (x276_5 < (t347.length : Int)) = true := decide_eq_true c90
                clear c90
                by_cases c91 : x276_5 < (t376.length : Int)
                rotate_left
                ·rw [if_neg c91] at H
                 exact absurd H (by simp)
                rw [if_pos c91] at H
                have c91b0 : decide (x276_5 < (t376.length : Int)) = true := decide_eq_true c91
                clear c91
                by_cases c92 : (wrap64 ((rd t347 x276_5) - (rd t376 x276_5))) = 1
                ·rw [if_pos c92] at H
                 have c92b0 : ((wrap64 ((rd t347 x276_5) - (rd t376 x276_5))) == 1) = true := beq_iff_eq.mpr c92
                 have c92b1 : ((wrap64 ((rd t347 x276_5) - (rd t376 x276_5))) != 1) = false := bne_eq_false_iff_eq.mpr c92
                 clear c92
                 by_cases c93 : (rd t347 x276_5) = (rd t376 x276_5)
                 ·rw [if_pos c93] at H
                  have c93b0 : ((rd t347 x276_5) == (rd t376 x276_5)) = true := beq_iff_eq.mpr c93
                  have c93b1 : ((rd t347 x276_5) != (rd t376 x276_5)) = false := bne_eq_false_iff_eq.mpr c93
                  clear c93
                  have H' := Aside0.mk H
                  clear H
                  have p389 : 0 ≤ (x276_5 : Int) := of_decide_eq_true (by first | (with_reducible assumption) | assumption)
                  have q389 : x276_5 < (t347.length : Int) := of_decide_eq_true (by first | (with_reducible assumption) | assumption)
                  obtain ⟨ad389, e389, hx389_0⟩ := Kd.at_int (Kd.R_reads' HO_11.out).2.2 x276_5 p389 q389
                  cases e389
                  replace p389 := eq_true p389
                  replace q389 := eq_true q389
                  obtain ⟨Ao94, co94, eo94⟩ := Kd.R_slice HO_28.out
                  subst eo94
                  have p390 : 0 ≤ (x276_5 : Int) := of_decide_eq_true (by first | (with_reducible assumption) | assumption)
                  have q390 : x276_5 < (t376.length : Int) := of_decide_eq_true (by first | (with_reducible assumption) | assumption)
                  obtain ⟨ad390, e390, hx390_0⟩ := Kd.at_int (Kd.R_reads' HO_28.out).2.2 x276_5 p390 q390
                  cases e390
                  replace p390 := eq_true p390
                  replace q390 := eq_true q390
                  have p391 : 0 ≤ (x276_5 : Int) := of_decide_eq_true (by first | (with_reducible assumption) | assumption)
                  have q391 : x276_5 < (t347.length : Int) := of_decide_eq_true (by first | (with_reducible assumption) | assumption)
                  obtain ⟨ad391, e391, hx391_0⟩ := Kd.at_int (Kd.R_reads' HO_11.out).2.2 x276_5 p391 q391
                  obtain rfl : ad389 = ad391 := (by injection e391)
                  replace p391 := eq_true p391
                  replace q391 := eq_true q391
                  have p392 : 0 ≤ (x276_5 : Int) := of_decide_eq_true (by first | (with_reducible assumption) | assumption)
                  have q392 : x276_5 < (t376.length : Int) := of_decide_eq_true (by first | (with_reducible assumption) | assumption)
                  obtain ⟨ad392, e392, hx392_0⟩ := Kd.at_int (Kd.R_reads' HO_28.out).2.2 x276_5 p392 q392
                  obtain rfl : ad390 = ad392 := (by injection e392)
                  replace p392 := eq_true p392
                  replace q392 := eq_true q392
                  go_wp2
                  repeat (go_quiet (fail); try go_wp2)
                  (refine Handed.intro k5 ?measure15 ?_; rotate_left; go_step; refine LoopI_mk (by kernel_rfl) ?rel15)
                  case measure15 => have := HJ13.out; have := HK2.out; have := HJ65.out; have := HJ75.out; have := HK5.out; omega
                  case rel15 => exact ⟨(wrap64 (x276_5 + 1)), (by first | rfl | (simp; done) | (simp [*]; done)), H', ⟨by have := HJ13.out; have := HK2.out; have := HJ65.out; have := HJ75.out; have := HK5.out; omega⟩, ⟨rk HO_11⟩, ⟨rk HO_28⟩, ⟨bw HB⟩⟩
                 rw [if_neg c93] at H
                 have c93b0 : ((rd t347 x276_5) == (rd t376 x276_5)) = false := beq_eq_false_iff_ne.mpr c93
                 have c93b1 : ((rd t347 x276_5) != (rd t376 x276_5)) = true := bne_iff_ne.mpr c93
                 by_cases c95 : x276_5 ≥ t355
                 ·rw [if_pos c95] at H
                  have c95b0 : decide (t355 ≤ x276_5) = true := decide_eq_true c95
                  clear c95
                  exact absurd ((Option.some.inj H).trans hrt.out) (by decide)
                 rw [if_neg c95] at H
                 have c95b0 : decide (t355 ≤ x276_5) = false := decide_eq_false c95
                 clear c95
                 have H' := Aside0.mk H
                 clear H
                 have p389 : 0 ≤ (x276_5 : Int) := of_decide_eq_true (by first | (with_reducible assumption) | assumption)
                 have q389 : x276_5 < (t347.length : Int) := of_decide_eq_true (by first | (with_reducible assumption) | assumption)
                 obtain ⟨ad389, e389, hx389_0⟩ := Kd.at_int (Kd.R_reads' HO_11.out).2.2 x276_5 p389 q389
                 cases e389
                 replace p389 := eq_true p389
                 replace q389 := eq_true q389
                 obtain ⟨Ao96, co96, eo96⟩ := Kd.R_slice HO_28.out
                 subst eo96
                 have p390 : 0 ≤ (x276_5 : Int) := of_decide_eq_true (by first | (with_reducible assumption) | assumption)
                 have q390 : x276_5 < (t376.length : Int) := of_decide_eq_true (by first | (with_reducible assumption) | assumption)
                 obtain ⟨ad390, e390, hx390_0⟩ := Kd.at_int (Kd.R_reads' HO_28.out).2.2 x276_5 p390 q390
                 cases e390
                 replace p390 := eq_true p390
                 replace q390 := eq_true q390
                 have p391 : 0 ≤ (x276_5 : Int) := of_decide_eq_true (by first | (with_reducible assumption) | assumption)
                 have q391 : x276_5 < (t347.length : Int) := of_decide_eq_true (by first | (with_reducible assumption) | assumption)
                 obtain ⟨ad391, e391, hx391_0⟩ := Kd.at_int (Kd.R_reads' HO_11.out).2.2 x276_5 p391 q391
                 obtain rfl : ad389 = ad391 := (by injection e391)
                 replace p391 := eq_true p391
                 replace q391 := eq_true q391
                 have p392 : 0 ≤ (x276_5 : Int) := of_decide_eq_true (by first | (with_reducible assumption) | assumption)
                 have q392 : x276_5 < (t376.length : Int) := of_decide_eq_true (by first | (with_reducible assumption) | assumption)
                 obtain ⟨ad392, e392, hx392_0⟩ := Kd.at_int (Kd.R_reads' HO_28.out).2.2 x276_5 p392 q392
                 obtain rfl : ad390 = ad392 := (by injection e392)
                 replace p392 := eq_true p392
                 replace q392 := eq_true q392
                 go_wp2
                 repeat (go_quiet (fail); try go_wp2)
                 (refine Handed.intro k5 ?measure16 ?_; rotate_left; go_step; refine LoopI_mk (by kernel_rfl) ?rel16)
                 case measure16 => have := HJ13.out; have := HK2.out; have := HJ65.out; have := HJ75.out; have := HK5.out; omega
                 case rel16 => exact ⟨(wrap64 (x276_5 + 1)), (by first | rfl | (simp; done) | (simp [*]; done)), H', ⟨by have := HJ13.out; have := HK2.out; have := HJ65.out; have := HJ75.out; have := HK5.out; omega⟩, ⟨rk HO_11⟩, ⟨rk HO_28⟩, ⟨bw HB⟩⟩
                rw [if_neg c92] at H
                have c92b0 : ((wrap64 ((rd t347 x276_5) - (rd t376 x276_5))) == 1) = false := beq_eq_false_iff_ne.mpr c92
                have c92b1 : ((wrap64 ((rd t347 x276_5) - (rd t376 x276_5))) != 1) = true := bne_iff_ne.mpr c92
                by_cases c97 : x276_5 < t355
                ·rw [if_pos c97] at H
                 have c97b0 : decide (x276_5 < t355) = true := decide_eq_true c97
                 clear c97
                 exact absurd ((Option.some.inj H).trans hrt.out) (by decide)
                rw [if_neg c97] at H
                have c97b0 : decide (x276_5 < t355) = false := decide_eq_false c97
                clear c97
                by_cases c98 : (rd t347 x276_5) = (rd t376 x276_5)
                ·rw [if_pos c98] at H
                 have c98b0 : ((rd t347 x276_5) == (rd t376 x276_5)) = true := beq_iff_eq.mpr c98
                 have c98b1 : ((rd t347 x276_5) != (rd t376 x276_5)) = false := bne_eq_false_iff_eq.mpr c98
                 clear c98
                 have H' := Aside0.mk H
                 clear H
                 have p389 : 0 ≤ (x276_5 : Int) := of_decide_eq_true (by first | (with_reducible assumption) | assumption)
                 have q389 : x276_5 < (t347.length : Int) := of_decide_eq_true (by first | (with_reducible assumption) | assumption)
                 obtain ⟨ad389, e389, hx389_0⟩ := Kd.at_int (Kd.R_reads' HO_11.out).2.2 x276_5 p389 q389
                 cases e389
                 replace p389 := eq_true p389
                 replace q389 := eq_true q389
                 obtain ⟨Ao99, co99, eo99⟩ := Kd.R_slice HO_28.out
                 subst eo99
                 have p390 : 0 ≤ (x276_5 : Int) := of_decide_eq_true (by first | (with_reducible assumption) | assumption)
                 have q390 : x276_5 < (t376.length : Int) := of_decide_eq_true (by first | (with_reducible assumption) | assumption)
                 obtain ⟨ad390, e390, hx390_0⟩ := Kd.at_int (Kd.R_reads' HO_28.out).2.2 x276_5 p390 q390
                 cases e390
                 replace p390 := eq_true p390
                 replace q390 := eq_true q390
                 have p393 : 0 ≤ (x276_5 : Int) := of_decide_eq_true (by first | (with_reducible assumption) | assumption)
                 have q393 : x276_5 < (t347.length : Int) := of_decide_eq_true (by first | (with_reducible assumption) | assumption)
                 obtain ⟨ad393, e393, hx393_0⟩ := Kd.at_int (Kd.R_reads' HO_11.out).2.2 x276_5 p393 q393
                 obtain rfl : ad389 = ad393 := (by injection e393)
                 replace p393 := eq_true p393
                 replace q393 := eq_true q393
                 have p394 : 0 ≤ (x276_5 : Int) := of_decide_eq_true (by first | (with_reducible assumption) | assumption)
                 have q394 : x276_5 < (t376.length : Int) := of_decide_eq_true (by first | (with_reducible assumption) | assumption)
                 obtain ⟨ad394, e394, hx394_0⟩ := Kd.at_int (Kd.R_reads' HO_28.out).2.2 x276_5 p394 q394
                 obtain rfl : ad390 = ad394 := (by injection e394)
                 replace p394 := eq_true p394
                 replace q394 := eq_true q394
                 go_wp2
                 repeat (go_quiet (fail); try go_wp2)
                 (refine Handed.intro k5 ?measure17 ?_; rotate_left; go_step; refine LoopI_mk (by kernel_rfl) ?rel17)
                 case measure17 => have := HJ13.out; have := HK2.out; have := HJ65.out; have := HJ75.out; have := HK5.out; omega
                 case rel17 => exact ⟨(wrap64 (x276_5 + 1)), (by first | rfl | (simp; done) | (simp [*]; done)), H', ⟨by have := HJ13.out; have := HK2.out; have := HJ65.out; have := HJ75.out; have := HK5.out; omega⟩, ⟨rk HO_11⟩, ⟨rk HO_28⟩, ⟨bw HB⟩⟩
                rw [if_neg c98] at H
                have c98b0 : ((rd t347 x276_5) == (rd t376 x276_5)) = false := beq_eq_false_iff_ne.mpr c98
                have c98b1 : ((rd t347 x276_5) != (rd t376 x276_5)) = true := bne_iff_ne.mpr c98
                by_cases c100 : x276_5 ≥ t355
                ·rw [if_pos c100] at H
                 have c100b0 : decide (t355 ≤ x276_5) = true := decide_eq_true c100
                 clear c100
                 exact absurd ((Option.some.inj H).trans hrt.out) (by decide)
                rw [if_neg c100] at H
                have c100b0 : decide (t355 ≤ x276_5) = false := decide_eq_false c100
                clear c100
                have H' := Aside0.mk H
                clear H
                have p389 : 0 ≤ (x276_5 : Int) := of_decide_eq_true (by first | (with_reducible assumption) | assumption)
                have q389 : x276_5 < (t347.length : Int) := of_decide_eq_true (by first | (with_reducible assumption) | assumption)
                obtain ⟨ad389, e389, hx389_0⟩ := Kd.at_int (Kd.R_reads' HO_11.out).2.2 x276_5 p389 q389
                cases e389
                replace p389 := eq_true p389
                replace q389 := eq_true q389
                obtain ⟨Ao101, co101, eo101⟩ := Kd.R_slice HO_28.out
                subst eo101
                have p390 : 0 ≤ (x276_5 : Int) := of_decide_eq_true (by first | (with_reducible assumption) | assumption)
                have q390 : x276_5 < (t376.length : Int) := of_decide_eq_true (by first | (with_reducible assumption) | assumption)
                obtain ⟨ad390, e390, hx390_0⟩ := Kd.at_int (Kd.R_reads' HO_28.out).2.2 x276_5 p390 q390
                cases e390
                replace p390 := eq_true p390
                replace q390 := eq_true q390
                have p393 : 0 ≤ (x276_5 : Int) := of_decide_eq_true (by first | (with_reducible assumption) | assumption)
                have q393 : x276_5 < (t347.length : Int) := of_decide_eq_true (by first | (with_reducible assumption) | assumption)
                obtain ⟨ad393, e393, hx393_0⟩ := Kd.at_int (Kd.R_reads' HO_11.out).2.2 x276_5 p393 q393
                obtain rfl : ad389 = ad393 := (by injection e393)
                replace p393 := eq_true p393
                replace q393 := eq_true q393
                have p394 : 0 ≤ (x276_5 : Int) := of_decide_eq_true (by first | (with_reducible assumption) | assumption)
                have q394 : x276_5 < (t376.length : Int) := of_decide_eq_true (by first | (with_reducible assumption) | assumption)
                obtain ⟨ad394, e394, hx394_0⟩ := Kd.at_int (Kd.R_reads' HO_28.out).2.2 x276_5 p394 q394
                obtain rfl : ad390 = ad394 := (by injection e394)
                replace p394 := eq_true p394
                replace q394 := eq_true q394
                go_wp2
                repeat (go_quiet (fail); try go_wp2)
                (refine Handed.intro k5 ?measure18 ?_; rotate_left; go_step; refine LoopI_mk (by kernel_rfl) ?rel18)
                case measure18 => have := HJ13.out; have := HK2.out; have := HJ65.out; have := HJ75.out; have := HK5.out; omega
                case rel18 => exact ⟨(wrap64 (x276_5 + 1)), (by first | rfl | (simp; done) | (simp [*]; done)), H', ⟨by have := HJ13.out; have := HK2.out; have := HJ65.out; have := HJ75.out; have := HK5.out; omega⟩, ⟨rk HO_11⟩, ⟨rk HO_28⟩, ⟨bw HB⟩⟩
    case rest4 =>
      intro u_ wc hcut l_ hl_; (simp only [rl, List.reduceReplicate, List.cons_append, List.nil_append, List.append_nil, Bool.not_true, Bool.not_false, fu, Nat.reduceAdd] at hl_); subst hl_
      clear HC53
      try clear c1
      try clear c4
      try clear c52
      obtain ⟨kq, HA, HJ52, HB⟩ := hcut
      cases kq with
      | zero => exact absurd HA.out (by simp [laws_FnBucketsCount.j5])
      | succ kj52 =>
       have H := HA.out
       clear HA
       simp only [laws_FnBucketsCount.j5] at H
       replace H := Option.bind_eq_some_iff.mp H
       obtain ⟨⟨t395, t396⟩, A1020, H⟩ := H
       replace H : ((impl_DropsFor.f kj52 t395 t396).bind fun bt401 => ((spec_DropsFor.f kj52 t395 t396).bind fun bt403 => ((spec_DrawAddDrops.f kj52 l1).bind fun bt405 => ((impl_AddDrops.f kj52 bt405.1 bt405.2.1 bt405.2.2).bind fun bt412 => ((spec_AddDrops.f kj52 bt405.1 bt405.2.1 bt405.2.2).bind fun bt416 => ((impl_BackDrops.f kj52 bt405.1 bt405.2.1 bt405.2.2).bind fun bt420 => ((spec_BackDrops.f kj52 bt405.1 bt405.2.1 bt405.2.2).bind fun bt424 => (if (bt401.2 != bt403.2) = true then (laws_FnBucketsCount.j6 kj52 t395 t396 bt401.1 bt401.2 bt405.1 bt405.2.1 bt405.2.2 bt412.1 bt412.2 bt420.1 true) else (if bt401.1 = bt403.1 then (if (bt412.2 != bt416.2) = true then (laws_FnBucketsCount.j6 kj52 t395 t396 bt401.1 bt401.2 bt405.1 bt405.2.1 bt405.2.2 bt412.1 bt412.2 bt420.1 true) else ((laws_eSame.f kj52 bt412.1 bt416.1).bind fun t428 => (if t428 = true then (if (bt420.2 != bt424.2) = true then (laws_FnBucketsCount.j6 kj52 t395 t396 bt401.1 bt401.2 bt405.1 bt405.2.1 bt405.2.2 bt412.1 bt412.2 bt420.1 true) else ((laws_eSame.f kj52 bt420.1 bt424.1).bind fun t429 => (if t429 = true then (laws_FnBucketsCount.j6 kj52 t395 t396 bt401.1 bt401.2 bt405.1 bt405.2.1 bt405.2.2 bt412.1 bt412.2 bt420.1 (bt420.2 != bt412.2)) else (laws_FnBucketsCount.j6 kj52 t395 t396 bt401.1 bt401.2 bt405.1 bt405.2.1 bt405.2.2 bt412.1 bt412.2 bt420.1 true)))) else (laws_FnBucketsCount.j6 kj52 t395 t396 bt401.1 bt401.2 bt405.1 bt405.2.1 bt405.2.2 bt412.1 bt412.2 bt420.1 true)))) else (laws_FnBucketsCount.j6 kj52 t395 t396 bt401.1 bt401.2 bt405.1 bt405.2.1 bt405.2.2 bt412.1 bt412.2 bt420.1 true)))))))))) = some r := H
       have A102 := Aside0.mk A1020
       clear A1020
       replace H := Option.bind_eq_some_iff.mp H
       obtain ⟨⟨t401, t402⟩, A1030, H⟩ := H
       replace H : ((spec_DropsFor.f kj52 t395 t396).bind fun bt403 => ((spec_DrawAddDrops.f kj52 l1).bind fun bt405 => ((impl_AddDrops.f kj52 bt405.1 bt405.2.1 bt405.2.2).bind fun bt412 => ((spec_AddDrops.f kj52 bt405.1 bt405.2.1 bt405.2.2).bind fun bt416 => ((impl_BackDrops.f kj52 bt405.1 bt405.2.1 bt405.2.2).bind fun bt420 => ((spec_BackDrops.f kj52 bt405.1 bt405.2.1 bt405.2.2).bind fun bt424 => (if (t402 != bt403.2) = true then (laws_FnBucketsCount.j6 kj52 t395 t396 t401 t402 bt405.1 bt405.2.1 bt405.2.2 bt412.1 bt412.2 bt420.1 true) else (if t401 = bt403.1 then (if (bt412.2 != bt416.2) = true then (laws_FnBucketsCount.j6 kj52 t395 t396 t401 t402 bt405.1 bt405.2.1 bt405.2.2 bt412.1 bt412.2 bt420.1 true) else ((laws_eSame.f kj52 bt412.1 bt416.1).bind fun t428 => (if t428 = true then (if (bt420.2 != bt424.2) = true then (laws_FnBucketsCount.j6 kj52 t395 t396 t401 t402 bt405.1 bt405.2.1 bt405.2.2 bt412.1 bt412.2 bt420.1 true) else ((laws_eSame.f kj52 bt420.1 bt424.1).bind fun t429 => (if t429 = true then (laws_FnBucketsCount.j6 kj52 t395 t396 t401 t402 bt405.1 bt405.2.1 bt405.2.2 bt412.1 bt412.2 bt420.1 (bt420.2 != bt412.2)) else (laws_FnBucketsCount.j6 kj52 t395 t396 t401 t402 bt405.1 bt405.2.1 bt405.2.2 bt412.1 bt412.2 bt420.1 true)))) else (laws_FnBucketsCount.j6 kj52 t395 t396 t401 t402 bt405.1 bt405.2.1 bt405.2.2 bt412.1 bt412.2 bt420.1 true)))) else (laws_FnBucketsCount.j6 kj52 t395 t396 t401 t402 bt405.1 bt405.2.1 bt405.2.2 bt412.1 bt412.2 bt420.1 true))))))))) = some r := H
       have A103 := Aside0.mk A1030
       clear A1030
       replace H := Option.bind_eq_some_iff.mp H
       obtain ⟨⟨t403, t404⟩, A1040, H⟩ := H
       replace H : ((spec_DrawAddDrops.f kj52 l1).bind fun bt405 => ((impl_AddDrops.f kj52 bt405.1 bt405.2.1 bt405.2.2).bind fun bt412 => ((spec_AddDrops.f kj52 bt405.1 bt405.2.1 bt405.2.2).bind fun bt416 => ((impl_BackDrops.f kj52 bt405.1 bt405.2.1 bt405.2.2).bind fun bt420 => ((spec_BackDrops.f kj52 bt405.1 bt405.2.1 bt405.2.2).bind fun bt424 => (if (t402 != t404) = true then (laws_FnBucketsCount.j6 kj52 t395 t396 t401 t402 bt405.1 bt405.2.1 bt405.2.2 bt412.1 bt412.2 bt420.1 true) else (if t401 = t403 then (if (bt412.2 != bt416.2) = true then (laws_FnBucketsCount.j6 kj52 t395 t396 t401 t402 bt405.1 bt405.2.1 bt405.2.2 bt412.1 bt412.2 bt420.1 true) else ((laws_eSame.f kj52 bt412.1 bt416.1).bind fun t428 => (if t428 = true then (if (bt420.2 != bt424.2) = true then (laws_FnBucketsCount.j6 kj52 t395 t396 t401 t402 bt405.1 bt405.2.1 bt405.2.2 bt412.1 bt412.2 bt420.1 true) else ((laws_eSame.f kj52 bt420.1 bt424.1).bind fun t429 => (if t429 = true then (laws_FnBucketsCount.j6 kj52 t395 t396 t401 t402 bt405.1 bt405.2.1 bt405.2.2 bt412.1 bt412.2 bt420.1 (bt420.2 != bt412.2)) else (laws_FnBucketsCount.j6 kj52 t395 t396 t401 t402 bt405.1 bt405.2.1 bt405.2.2 bt412.1 bt412.2 bt420.1 true)))) else (laws_FnBucketsCount.j6 kj52 t395 t396 t401 t402 bt405.1 bt405.2.1 bt405.2.2 bt412.1 bt412.2 bt420.1 true)))) else (laws_FnBucketsCount.j6 kj52 t395 t396 t401 t402 bt405.1 bt405.2.1 bt405.2.2 bt412.1 bt412.2 bt420.1 true)))))))) = some r := H
       have A104 := Aside0.mk A1040
       clear A1040
       replace H := Option.bind_eq_some_iff.mp H
       obtain ⟨⟨t405, t406, t407⟩, A1050, H⟩ := H
       replace H : ((impl_AddDrops.f kj52 t405 t406 t407).bind fun bt412 => ((spec_AddDrops.f kj52 t405 t406 t407).bind fun bt416 => ((impl_BackDrops.f kj52 t405 t406 t407).bind fun bt420 => ((spec_BackDrops.f kj52 t405 t406 t407).bind fun bt424 => (if (t402 != t404) = true then (laws_FnBucketsCount.j6 kj52 t395 t396 t401 t402 t405 t406 t407 bt412.1 bt412.2 bt420.1 true) else (if t401 = t403 then (if (bt412.2 != bt416.2) = true then (laws_FnBucketsCount.j6 kj52 t395 t396 t401 t402 t405 t406 t407 bt412.1 bt412.2 bt420.1 true) else ((laws_eSame.f kj52 bt412.1 bt416.1).bind fun t428 => (if t428 = true then (if (bt420.2 != bt424.2) = true then (laws_FnBucketsCount.j6 kj52 t395 t396 t401 t402 t405 t406 t407 bt412.1 bt412.2 bt420.1 true) else ((laws_eSame.f kj52 bt420.1 bt424.1).bind fun t429 => (if t429 = true then (laws_FnBucketsCount.j6 kj52 t395 t396 t401 t402 t405 t406 t407 bt412.1 bt412.2 bt420.1 (bt420.2 != bt412.2)) else (laws_FnBucketsCount.j6 kj52 t395 t396 t401 t402 t405 t406 t407 bt412.1 bt412.2 bt420.1 true)))) else (laws_FnBucketsCount.j6 kj52 t395 t396 t401 t402 t405 t406 t407 bt412.1 bt412.2 bt420.1 true)))) else (laws_FnBucketsCount.j6 kj52 t395 t396 t401 t402 t405 t406 t407 bt412.1 bt412.2 bt420.1 true))))))) = some r := H
       have A105 := Aside0.mk A1050
       clear A1050
       replace H := Option.bind_eq_some_iff.mp H
       obtain ⟨⟨t412, t413⟩, A1060, H⟩ := H
       replace H : ((spec_AddDrops.f kj52 t405 t406 t407).bind fun bt416 => ((impl_BackDrops.f kj52 t405 t406 t407).bind fun bt420 => ((spec_BackDrops.f kj52 t405 t406 t407).bind fun bt424 => (if (t402 != t404) = true then (laws_FnBucketsCount.j6 kj52 t395 t396 t401 t402 t405 t406 t407 t412 t413 bt420.1 true) else (if t401 = t403 then (if (t413 != bt416.2) = true then (laws_FnBucketsCount.j6 kj52 t395 t396 t401 t402 t405 t406 t407 t412 t413 bt420.1 true) else ((laws_eSame.f kj52 t412 bt416.1).bind fun t428 => (if t428 = true then (if (bt420.2 != bt424.2) = true then (laws_FnBucketsCount.j6 kj52 t395 t396 t401 t402 t405 t406 t407 t412 t413 bt420.1 true) else ((laws_eSame.f kj52 bt420.1 bt424.1).bind fun t429 => (if t429 = true then (laws_FnBucketsCount.j6 kj52 t395 t396 t401 t402 t405 t406 t407 t412 t413 bt420.1 (bt420.2 != t413)) else (laws_FnBucketsCount.j6 kj52 t395 t396 t401 t402 t405 t406 t407 t412 t413 bt420.1 true)))) else (laws_FnBucketsCount.j6 kj52 t395 t396 t401 t402 t405 t406 t407 t412 t413 bt420.1 true)))) else (laws_FnBucketsCount.j6 kj52 t395 t396 t401 t402 t405 t406 t407 t412 t413 bt420.1 true)))))) = some r := H
       have A106 := Aside0.mk A1060
       clear A1060
       replace H := Option.bind_eq_some_iff.mp H
       obtain ⟨⟨t416, t417⟩, A1070, H⟩ := H
       replace H : ((impl_BackDrops.f kj52 t405 t406 t407).bind fun bt420 => ((spec_BackDrops.f kj52 t405 t406 t407).bind fun bt424 => (if (t402 != t404) = true then (laws_FnBucketsCount.j6 kj52 t395 t396 t401 t402 t405 t406 t407 t412 t413 bt420.1 true) else (if t401 = t403 then (if (t413 != t417) = true then (laws_FnBucketsCount.j6 kj52 t395 t396 t401 t402 t405 t406 t407 t412 t413 bt420.1 true) else ((laws_eSame.f kj52 t412 t416).bind fun t428 => (if t428 = true then (if (bt420.2 != bt424.2) = true then (laws_FnBucketsCount.j6 kj52 t395 t396 t401 t402 t405 t406 t407 t412 t413 bt420.1 true) else ((laws_eSame.f kj52 bt420.1 bt424.1).bind fun t429 => (if t429 = true then (laws_FnBucketsCount.j6 kj52 t395 t396 t401 t402 t405 t406 t407 t412 t413 bt420.1 (bt420.2 != t413)) else (laws_FnBucketsCount.j6 kj52 t395 t396 t401 t402 t405 t406 t407 t412 t413 bt420.1 true)))) else (laws_FnBucketsCount.j6 kj52 t395 t396 t401 t402 t405 t406 t407 t412 t413 bt420.1 true)))) else (laws_FnBucketsCount.j6 kj52 t395 t396 t401 t402 t405 t406 t407 t412 t413 bt420.1 true))))) = some r := H
       have A107 := Aside0.mk A1070
       clear A1070
       replace H := Option.bind_eq_some_iff.mp H
       obtain ⟨⟨t420, t421⟩, A1080, H⟩ := H
       replace H : ((spec_BackDrops.f kj52 t405 t406 t407).bind fun bt424 => (if (t402 != t404) = true then (laws_FnBucketsCount.j6 kj52 t395 t396 t401 t402 t405 t406 t407 t412 t413 t420 true) else (if t401 = t403 then (if (t413 != t417) = true then (laws_FnBucketsCount.j6 kj52 t395 t396 t401 t402 t405 t406 t407 t412 t413 t420 true) else ((laws_eSame.f kj52 t412 t416).bind fun t428 => (if t428 = true then (if (t421 != bt424.2) = true then (laws_FnBucketsCount.j6 kj52 t395 t396 t401 t402 t405 t406 t407 t412 t413 t420 true) else ((laws_eSame.f kj52 t420 bt424.1).bind fun t429 => (if t429 = true then (laws_FnBucketsCount.j6 kj52 t395 t396 t401 t402 t405 t406 t407 t412 t413 t420 (t421 != t413)) else (laws_FnBucketsCount.j6 kj52 t395 t396 t401 t402 t405 t406 t407 t412 t413 t420 true)))) else (laws_FnBucketsCount.j6 kj52 t395 t396 t401 t402 t405 t406 t407 t412 t413 t420 true)))) else (laws_FnBucketsCount.j6 kj52 t395 t396 t401 t402 t405 t406 t407 t412 t413 t420 true)))) = some r := H
       have A108 := Aside0.mk A1080
       clear A1080
       replace H := Option.bind_eq_some_iff.mp H
       obtain ⟨⟨t424, t425⟩, A1090, H⟩ := H
       replace H : (if (t402 != t404) = true then (laws_FnBucketsCount.j6 kj52 t395 t396 t401 t402 t405 t406 t407 t412 t413 t420 true) else (if t401 = t403 then (if (t413 != t417) = true then (laws_FnBucketsCount.j6 kj52 t395 t396 t401 t402 t405 t406 t407 t412 t413 t420 true) else ((laws_eSame.f kj52 t412 t416).bind fun t428 => (if t428 = true then (if (t421 != t425) = true then (laws_FnBucketsCount.j6 kj52 t395 t396 t401 t402 t405 t406 t407 t412 t413 t420 true) else ((laws_eSame.f kj52 t420 t424).bind fun t429 => (if t429 = true then (laws_FnBucketsCount.j6 kj52 t395 t396 t401 t402 t405 t406 t407 t412 t413 t420 (t421 != t413)) else (laws_FnBucketsCount.j6 kj52 t395 t396 t401 t402 t405 t406 t407 t412 t413 t420 true)))) else (laws_FnBucketsCount.j6 kj52 t395 t396 t401 t402 t405 t406 t407 t412 t413 t420 true)))) else (laws_FnBucketsCount.j6 kj52 t395 t396 t401 t402 t405 t406 t407 t412 t413 t420 true))) = some r := H
       have A109 := Aside0.mk A1090
       clear A1090
       have HC110 := Aside0.mk H
       clear H
       go_upto_region 46 with (first | (go_at_call 92; (with_reducible refine (spec_DrawDropsFor.calls kj52 _ _ l1 t395 t396 _ ?side1 ?side2 A102.out).mono ?_); (case side1 => exact ck HR1 HB); (case side2 => exact HC1.out); rintro e w111 ⟨v397, v399, rfl, ho0, ho1, hb⟩; have HO398 := lo ho0 HB; have HO400 := lo ho1 HB; replace HB := bs HB hb; (try clear hb); (try clear ho0); (try clear ho1); obtain ⟨Ao112, co112, eo112⟩ := Kd.R_slice HO398.out; subst eo112; obtain ⟨Ao113, co113, eo113⟩ := Kd.R_slice HO400.out; subst eo113) | (go_at_call 90; (with_reducible refine (impl_DropsFor.calls kj52 _ _ t395 _ _ t396 t401 t402 _ ?side1 ?side2 ?side3 ?side4 A103.out).mono ?_); (case side1 => exact cr HO398); (case side2 => exact (Kd.R_reads' HO398.out).2.1); (case side3 => exact cr HO400); (case side4 => exact (Kd.R_reads' HO400.out).2.1); rintro e w114 ⟨rfl, hb⟩; replace HO398 := rb HO398 hb; replace HO400 := rb HO400 hb; replace HB := bs HB hb; (try clear hb)) | (go_at_call 93; (with_reducible refine (spec_DropsFor.calls kj52 _ _ t395 _ _ t396 t403 t404 _ ?side1 ?side2 ?side3 ?side4 A104.out).mono ?_); (case side1 => exact cr HO398); (case side2 => exact (Kd.R_reads' HO398.out).2.1); (case side3 => exact cr HO400); (case side4 => exact (Kd.R_reads' HO400.out).2.1); rintro e w' ⟨rfl, ⟨nd, rfl⟩⟩; (try first | exact ⟨rfl, _, World.drewN_drewN _ _ _⟩ | exact ⟨rfl, _, Eq.trans (World.drewN_drewN _ _ _) (congrArg (World.drewN _) (Nat.add_assoc _ _ _))⟩)) | (go_at_call 94; (with_reducible refine (spec_DrawAddDrops.calls kj52 _ _ l1 t405 t406 t407 _ ?side1 ?side2 A105.out).mono ?_); (case side1 => repeat (first | exact (Kd.C_below HR1.out (bw HB)) | (with_reducible refine Kd.C_alloc ?_ _) | (with_reducible refine Kd.C_drewN ?_ _) | (with_reducible refine Kd.C_drew ?_))); (case side2 => exact HC1.out); rintro e w115 ⟨v408, v410, rfl, ho0, ho1, hb⟩; have HO409 := Aside0.mk (Kd.R_lower (Kd.R_new' (Kd.R_new' ho0 (Kd.R_lt (rk HO398))) (Kd.R_lt (rk HO400))) (below_size (bw HB))); have HO411 := Aside0.mk (Kd.R_lower (Kd.R_new' (Kd.R_new' ho1 (Kd.R_lt (rk HO398))) (Kd.R_lt (rk HO400))) (below_size (bw HB))); replace HO398 := Aside0.mk (Kd.R_mono (Kd.R_told (Kd.R_told (Kd.R_old (rk HO398) hb) (Kd.R_base ho0)) (Kd.R_base ho1)) (fun _ h_ => h_.1)); replace HO400 := Aside0.mk (Kd.R_mono (Kd.R_told (Kd.R_told (Kd.R_old (rk HO400) hb) (Kd.R_base ho0)) (Kd.R_base ho1)) (fun _ h_ => h_.1)); replace HB := bs HB hb; (try clear hb); (try clear ho0); (try clear ho1); obtain ⟨Ao116, co116, eo116⟩ := Kd.R_slice HO409.out; subst eo116; obtain ⟨Ao117, co117, eo117⟩ := Kd.R_slice HO411.out; subst eo117) | (go_at_call 91; (with_reducible refine (impl_AddDrops.calls kj52 _ _ t405 _ _ t406 t407 t412 t413 _ ?side1 ?side2 ?side3 ?side4 A106.out).mono ?_); (case side1 => exact cr HO409); (case side2 => exact (Kd.R_reads' HO409.out).2.1); (case side3 => exact cr HO411); (case side4 => exact (Kd.R_reads' HO411.out).2.1); rintro e w118 ⟨v414, rfl, ho0, hb⟩; have HO415 := Aside0.mk (Kd.R_lower (Kd.R_new' (Kd.R_new' (Kd.R_new' (Kd.R_new' ho0 (Kd.R_lt (rk HO398))) (Kd.R_lt (rk HO400))) (Kd.R_lt (rk HO409))) (Kd.R_lt (rk HO411))) (below_size (bw HB))); replace HO398 := Aside0.mk (Kd.R_elder' (rk HO398) (Kd.R_base ho0) hb); replace HO400 := Aside0.mk (Kd.R_elder' (rk HO400) (Kd.R_base ho0) hb); replace HO409 := Aside0.mk (Kd.R_elder' (rk HO409) (Kd.R_base ho0) hb); replace HO411 := Aside0.mk (Kd.R_elder' (rk HO411) (Kd.R_base ho0) hb); replace HB := bs HB hb; (try clear hb); (try clear ho0)) | (go_at_call 95; (with_reducible refine (spec_AddDrops.calls kj52 _ _ t405 _ _ t406 t407 t416 t417 _ ?side1 ?side2 ?side3 ?side4 A107.out).mono ?_); (case side1 => exact cr HO409); (case side2 => exact (Kd.R_reads' HO409.out).2.1); (case side3 => exact cr HO411); (case side4 => exact (Kd.R_reads' HO411.out).2.1); rintro e w119 ⟨v418, rfl, ho0, hb⟩; have HO419 := Aside0.mk (Kd.R_lower (Kd.R_new' (Kd.R_new' (Kd.R_new' (Kd.R_new' (Kd.R_new' ho0 (Kd.R_lt (rk HO398))) (Kd.R_lt (rk HO400))) (Kd.R_lt (rk HO409))) (Kd.R_lt (rk HO411))) (Kd.R_lt (rk HO415))) (below_size (bw HB))); replace HO398 := Aside0.mk (Kd.R_elder' (rk HO398) (Kd.R_base ho0) hb); replace HO400 := Aside0.mk (Kd.R_elder' (rk HO400) (Kd.R_base ho0) hb); replace HO409 := Aside0.mk (Kd.R_elder' (rk HO409) (Kd.R_base ho0) hb); replace HO411 := Aside0.mk (Kd.R_elder' (rk HO411) (Kd.R_base ho0) hb); replace HO415 := Aside0.mk (Kd.R_elder' (rk HO415) (Kd.R_base ho0) hb); replace HB := bs HB hb; (try clear hb); (try clear ho0)) | (go_at_call 96; (with_reducible refine (impl_BackDrops.calls kj52 _ _ t405 _ _ t406 t407 t420 t421 _ ?side1 ?side2 ?side3 ?side4 A108.out).mono ?_); (case side1 => exact cr HO409); (case side2 => exact (Kd.R_reads' HO409.out).2.1); (case side3 => exact cr HO411); (case side4 => exact (Kd.R_reads' HO411.out).2.1); rintro e w120 ⟨v422, rfl, ho0, hb⟩; have HO423 := Aside0.mk (Kd.R_lower (Kd.R_new' (Kd.R_new' (Kd.R_new' (Kd.R_new' (Kd.R_new' (Kd.R_new' ho0 (Kd.R_lt (rk HO398))) (Kd.R_lt (rk HO400))) (Kd.R_lt (rk HO409))) (Kd.R_lt (rk HO411))) (Kd.R_lt (rk HO415))) (Kd.R_lt (rk HO419))) (below_size (bw HB))); replace HO398 := Aside0.mk (Kd.R_elder' (rk HO398) (Kd.R_base ho0) hb); replace HO400 := Aside0.mk (Kd.R_elder' (rk HO400) (Kd.R_base ho0) hb); replace HO409 := Aside0.mk (Kd.R_elder' (rk HO409) (Kd.R_base ho0) hb); replace HO411 := Aside0.mk (Kd.R_elder' (rk HO411) (Kd.R_base ho0) hb); replace HO415 := Aside0.mk (Kd.R_elder' (rk HO415) (Kd.R_base ho0) hb); replace HO419 := Aside0.mk (Kd.R_elder' (rk HO419) (Kd.R_base ho0) hb); replace HB := bs HB hb; (try clear hb); (try clear ho0)) | (go_at_call 97; (with_reducible refine (spec_BackDrops.calls kj52 _ _ t405 _ _ t406 t407 t424 t425 _ ?side1 ?side2 ?side3 ?side4 A109.out).mono ?_); (case side1 => exact cr HO409); (case side2 => exact (Kd.R_reads' HO409.out).2.1); (case side3 => exact cr HO411); (case side4 => exact (Kd.R_reads' HO411.out).2.1); rintro e w121 ⟨v426, rfl, ho0, hb⟩; have HO427 := Aside0.mk (Kd.R_lower (Kd.R_new' (Kd.R_new' (Kd.R_new' (Kd.R_new' (Kd.R_new' (Kd.R_new' (Kd.R_new' ho0 (Kd.R_lt (rk HO398))) (Kd.R_lt (rk HO400))) (Kd.R_lt (rk HO409))) (Kd.R_lt (rk HO411))) (Kd.R_lt (rk HO415))) (Kd.R_lt (rk HO419))) (Kd.R_lt (rk HO423))) (below_size (bw HB))); replace HO398 := Aside0.mk (Kd.R_elder' (rk HO398) (Kd.R_base ho0) hb); replace HO400 := Aside0.mk (Kd.R_elder' (rk HO400) (Kd.R_base ho0) hb); replace HO409 := Aside0.mk (Kd.R_elder' (rk HO409) (Kd.R_base ho0) hb); replace HO411 := Aside0.mk (Kd.R_elder' (rk HO411) (Kd.R_base ho0) hb); replace HO415 := Aside0.mk (Kd.R_elder' (rk HO415) (Kd.R_base ho0) hb); replace HO419 := Aside0.mk (Kd.R_elder' (rk HO419) (Kd.R_base ho0) hb); replace HO423 := Aside0.mk (Kd.R_elder' (rk HO423) (Kd.R_base ho0) hb); replace HB := bs HB hb; (try clear hb); (try clear ho0)))
       repeat (go_quiet (first | (go_at_call 92; (with_reducible refine (spec_DrawDropsFor.calls kj52 _ _ l1 t395 t396 _ ?side1 ?side2 A102.out).mono ?_); (case side1 => exact ck HR1 HB); (case side2 => exact HC1.out); rintro e w111 ⟨v397, v399, rfl, ho0, ho1, hb⟩; have n0_ := lo ho0 HB; have n1_ := lo ho1 HB; have n2_ := bs HB hb; clear HB; have HO398 := n0_; have HO400 := n1_; have HB := n2_; clear n0_ n1_ n2_; (try clear hb); (try clear hb2); (try clear hk); (try clear hi); (try clear ho0); (try clear ho1); obtain ⟨Ao112, co112, eo112⟩ := Kd.R_slice HO398.out; subst eo112; obtain ⟨Ao113, co113, eo113⟩ := Kd.R_slice HO400.out; subst eo113) | (go_at_call 90; (with_reducible refine (impl_DropsFor.calls kj52 _ _ t395 _ _ t396 t401 t402 _ ?side1 ?side2 ?side3 ?side4 A103.out).mono ?_); (case side1 => exact cr HO398); (case side2 => exact (Kd.R_reads' HO398.out).2.1); (case side3 => exact cr HO400); (case side4 => exact (Kd.R_reads' HO400.out).2.1); rintro e w114 ⟨rfl, hb⟩; have n0_ := rb HO398 hb; have n1_ := rb HO400 hb; have n2_ := bs HB hb; clear HO398; clear HO400; clear HB; have HO398 := n0_; have HO400 := n1_; have HB := n2_; clear n0_ n1_ n2_; (try clear hb); (try clear hb2); (try clear hk); (try clear hi)) | (go_at_call 93; (with_reducible refine (spec_DropsFor.calls kj52 _ _ t395 _ _ t396 t403 t404 _ ?side1 ?side2 ?side3 ?side4 A104.out).mono ?_); (case side1 => exact cr HO398); (case side2 => exact (Kd.R_reads' HO398.out).2.1); (case side3 => exact cr HO400); (case side4 => exact (Kd.R_reads' HO400.out).2.1); rintro e w' ⟨rfl, ⟨nd, rfl⟩⟩; (try first | exact ⟨rfl, _, World.drewN_drewN _ _ _⟩ | exact ⟨rfl, _, Eq.trans (World.drewN_drewN _ _ _) (congrArg (World.drewN _) (Nat.add_assoc _ _ _))⟩)) | (go_at_call 94; (with_reducible refine (spec_DrawAddDrops.calls kj52 _ _ l1 t405 t406 t407 _ ?side1 ?side2 A105.out).mono ?_); (case side1 => repeat (first | exact (Kd.C_below HR1.out (bw HB)) | (with_reducible refine Kd.C_alloc ?_ _) | (with_reducible refine Kd.C_drewN ?_ _) | (with_reducible refine Kd.C_drew ?_))); (case side2 => exact HC1.out); rintro e w115 ⟨v408, v410, rfl, ho0, ho1, hb⟩; have n0_ := Aside0.mk (Kd.R_mono (Kd.R_told (Kd.R_told (Kd.R_old (rk HO398) hb) (Kd.R_base ho0)) (Kd.R_base ho1)) (fun _ h_ => h_.1)); have n1_ := Aside0.mk (Kd.R_mono (Kd.R_told (Kd.R_told (Kd.R_old (rk HO400) hb) (Kd.R_base ho0)) (Kd.R_base ho1)) (fun _ h_ => h_.1)); have n2_ := Aside0.mk (Kd.R_lower (Kd.R_new' (Kd.R_new' ho0 (Kd.R_lt (rk HO398))) (Kd.R_lt (rk HO400))) (below_size (bw HB))); have n3_ := Aside0.mk (Kd.R_lower (Kd.R_new' (Kd.R_new' ho1 (Kd.R_lt (rk HO398))) (Kd.R_lt (rk HO400))) (below_size (bw HB))); have n4_ := bs HB hb; clear HO398; clear HO400; clear HB; have HO398 := n0_; have HO400 := n1_; have HO409 := n2_; have HO411 := n3_; have HB := n4_; clear n0_ n1_ n2_ n3_ n4_; (try clear hb); (try clear hb2); (try clear hk); (try clear hi); (try clear ho0); (try clear ho1); obtain ⟨Ao116, co116, eo116⟩ := Kd.R_slice HO409.out; subst eo116; obtain ⟨Ao117, co117, eo117⟩ := Kd.R_slice HO411.out; subst eo117) | (go_at_call 91; (with_reducible refine (impl_AddDrops.calls kj52 _ _ t405 _ _ t406 t407 t412 t413 _ ?side1 ?side2 ?side3 ?side4 A106.out).mono ?_); (case side1 => exact cr HO409); (case side2 => exact (Kd.R_reads' HO409.out).2.1); (case side3 => exact cr HO411); (case side4 => exact (Kd.R_reads' HO411.out).2.1); rintro e w118 ⟨v414, rfl, ho0, hb⟩; have n0_ := Aside0.mk (Kd.R_elder' (rk HO398) (Kd.R_base ho0) hb); have n1_ := Aside0.mk (Kd.R_elder' (rk HO400) (Kd.R_base ho0) hb); have n2_ := Aside0.mk (Kd.R_elder' (rk HO409) (Kd.R_base ho0) hb); have n3_ := Aside0.mk (Kd.R_elder' (rk HO411) (Kd.R_base ho0) hb); have n4_ := Aside0.mk (Kd.R_lower (Kd.R_new' (Kd.R_new' (Kd.R_new' (Kd.R_new' ho0 (Kd.R_lt (rk HO398))) (Kd.R_lt (rk HO400))) (Kd.R_lt (rk HO409))) (Kd.R_lt (rk HO411))) (below_size (bw HB))); have n5_ := bs HB hb; clear HO398; clear HO400; clear HO409; clear HO411; clear HB; have HO398 := n0_; have HO400 := n1_; have HO409 := n2_; have HO411 := n3_; have HO415 := n4_; have HB := n5_; clear n0_ n1_ n2_ n3_ n4_ n5_; (try clear hb); (try clear hb2); (try clear hk); (try clear hi); (try clear ho0)) | (go_at_call 95; (with_reducible refine (spec_AddDrops.calls kj52 _ _ t405 _ _ t406 t407 t416 t417 _ ?side1 ?side2 ?side3 ?side4 A107.out).mono ?_); (case side1 => exact cr HO409); (case side2 => exact (Kd.R_reads' HO409.out).2.1); (case side3 => exact cr HO411); (case side4 => exact (Kd.R_reads' HO411.out).2.1); rintro e w119 ⟨v418, rfl, ho0, hb⟩; have n0_ := Aside0.mk (Kd.R_elder' (rk HO398) (Kd.R_base ho0) hb); have n1_ := Aside0.mk (Kd.R_elder' (rk HO400) (Kd.R_base ho0) hb); have n2_ := Aside0.mk (Kd.R_elder' (rk HO409) (Kd.R_base ho0) hb); have n3_ := Aside0.mk (Kd.R_elder' (rk HO411) (Kd.R_base ho0) hb); have n4_ := Aside0.mk (Kd.R_elder' (rk HO415) (Kd.R_base ho0) hb); have n5_ := Aside0.mk (Kd.R_lower (Kd.R_new' (Kd.R_new' (Kd.R_new' (Kd.R_new' (Kd.R_new' ho0 (Kd.R_lt (rk HO398))) (Kd.R_lt (rk HO400))) (Kd.R_lt (rk HO409))) (Kd.R_lt (rk HO411))) (Kd.R_lt (rk HO415))) (below_size (bw HB))); have n6_ := bs HB hb; clear HO398; clear HO400; clear HO409; clear HO411; clear HO415; clear HB; have HO398 := n0_; have HO400 := n1_; have HO409 := n2_; have HO411 := n3_; have HO415 := n4_; have HO419 := n5_; have HB := n6_; clear n0_ n1_ n2_ n3_ n4_ n5_ n6_; (try clear hb); (try clear hb2); (try clear hk); (try clear hi); (try clear ho0)) | (go_at_call 96; (with_reducible refine (impl_BackDrops.calls kj52 _ _ t405 _ _ t406 t407 t420 t421 _ ?side1 ?side2 ?side3 ?side4 A108.out).mono ?_); (case side1 => exact cr HO409); (case side2 => exact (Kd.R_reads' HO409.out).2.1); (case side3 => exact cr HO411); (case side4 => exact (Kd.R_reads' HO411.out).2.1); rintro e w120 ⟨v422, rfl, ho0, hb⟩; have n0_ := Aside0.mk (Kd.R_elder' (rk HO398) (Kd.R_base ho0) hb); have n1_ := Aside0.mk (Kd.R_elder' (rk HO400) (Kd.R_base ho0) hb); have n2_ := Aside0.mk (Kd.R_elder' (rk HO409) (Kd.R_base ho0) hb); have n3_ := Aside0.mk (Kd.R_elder' (rk HO411) (Kd.R_base ho0) hb); have n4_ := Aside0.mk (Kd.R_elder' (rk HO415) (Kd.R_base ho0) hb); have n5_ := Aside0.mk (Kd.R_elder' (rk HO419) (Kd.R_base ho0) hb); have n6_ := Aside0.mk (Kd.R_lower (Kd.R_new' (Kd.R_new' (Kd.R_new' (Kd.R_new' (Kd.R_new' (Kd.R_new' ho0 (Kd.R_lt (rk HO398))) (Kd.R_lt (rk HO400))) (Kd.R_lt (rk HO409))) (Kd.R_lt (rk HO411))) (Kd.R_lt (rk HO415))) (Kd.R_lt (rk HO419))) (below_size (bw HB))); have n7_ := bs HB hb; clear HO398; clear HO400; clear HO409; clear HO411; clear HO415; clear HO419; clear HB; have HO398 := n0_; have HO400 := n1_; have HO409 := n2_; have HO411 := n3_; have HO415 := n4_; have HO419 := n5_; have HO423 := n6_; have HB := n7_; clear n0_ n1_ n2_ n3_ n4_ n5_ n6_ n7_; (try clear hb); (try clear hb2); (try clear hk); (try clear hi); (try clear ho0)) | (go_at_call 97; (with_reducible refine (spec_BackDrops.calls kj52 _ _ t405 _ _ t406 t407 t424 t425 _ ?side1 ?side2 ?side3 ?side4 A109.out).mono ?_); (case side1 => exact cr HO409); (case side2 => exact (Kd.R_reads' HO409.out).2.1); (case side3 => exact cr HO411); (case side4 => exact (Kd.R_reads' HO411.out).2.1); rintro e w121 ⟨v426, rfl, ho0, hb⟩; have n0_ := Aside0.mk (Kd.R_elder' (rk HO398) (Kd.R_base ho0) hb); have n1_ := Aside0.mk (Kd.R_elder' (rk HO400) (Kd.R_base ho0) hb); have n2_ := Aside0.mk (Kd.R_elder' (rk HO409) (Kd.R_base ho0) hb); have n3_ := Aside0.mk (Kd.R_elder' (rk HO411) (Kd.R_base ho0) hb); have n4_ := Aside0.mk (Kd.R_elder' (rk HO415) (Kd.R_base ho0) hb); have n5_ := Aside0.mk (Kd.R_elder' (rk HO419) (Kd.R_base ho0) hb); have n6_ := Aside0.mk (Kd.R_elder' (rk HO423) (Kd.R_base ho0) hb); have n7_ := Aside0.mk (Kd.R_lower (Kd.R_new' (Kd.R_new' (Kd.R_new' (Kd.R_new' (Kd.R_new' (Kd.R_new' (Kd.R_new' ho0 (Kd.R_lt (rk HO398))) (Kd.R_lt (rk HO400))) (Kd.R_lt (rk HO409))) (Kd.R_lt (rk HO411))) (Kd.R_lt (rk HO415))) (Kd.R_lt (rk HO419))) (Kd.R_lt (rk HO423))) (below_size (bw HB))); have n8_ := bs HB hb; clear HO398; clear HO400; clear HO409; clear HO411; clear HO415; clear HO419; clear HO423; clear HB; have HO398 := n0_; have HO400 := n1_; have HO409 := n2_; have HO411 := n3_; have HO415 := n4_; have HO419 := n5_; have HO423 := n6_; have HO427 := n7_; have HB := n8_; clear n0_ n1_ n2_ n3_ n4_ n5_ n6_ n7_ n8_; (try clear hb); (try clear hb2); (try clear hk); (try clear hi); (try clear ho0))); go_upto_region 46 with (first | (go_at_call 92; (with_reducible refine (spec_DrawDropsFor.calls kj52 _ _ l1 t395 t396 _ ?side1 ?side2 A102.out).mono ?_); (case side1 => exact ck HR1 HB); (case side2 => exact HC1.out); rintro e w111 ⟨v397, v399, rfl, ho0, ho1, hb⟩; have n0_ := lo ho0 HB; have n1_ := lo ho1 HB; have n2_ := bs HB hb; clear HB; have HO398 := n0_; have HO400 := n1_; have HB := n2_; clear n0_ n1_ n2_; (try clear hb); (try clear hb2); (try clear hk); (try clear hi); (try clear ho0); (try clear ho1); obtain ⟨Ao112, co112, eo112⟩ := Kd.R_slice HO398.out; subst eo112; obtain ⟨Ao113, co113, eo113⟩ := Kd.R_slice HO400.out; subst eo113) | (go_at_call 90; (with_reducible refine (impl_DropsFor.calls kj52 _ _ t395 _ _ t396 t401 t402 _ ?side1 ?side2 ?side3 ?side4 A103.out).mono ?_); (case side1 => exact cr HO398); (case side2 => exact (Kd.R_reads' HO398.out).2.1); (case side3 => exact cr HO400); (case side4 => exact (Kd.R_reads' HO400.out).2.1); rintro e w114 ⟨rfl, hb⟩; have n0_ := rb HO398 hb; have n1_ := rb HO400 hb; have n2_ := bs HB hb; clear HO398; clear HO400; clear HB; have HO398 := n0_; have HO400 := n1_; have HB := n2_; clear n0_ n1_ n2_; (try clear hb); (try clear hb2); (try clear hk); (try clear hi)) | (go_at_call 93; (with_reducible refine (spec_DropsFor.calls kj52 _ _ t395 _ _ t396 t403 t404 _ ?side1 ?side2 ?side3 ?side4 A104.out).mono ?_); (case side1 => exact cr HO398); (case side2 => exact (Kd.R_reads' HO398.out).2.1); (case side3 => exact cr HO400); (case side4 => exact (Kd.R_reads' HO400.out).2.1); rintro e w' ⟨rfl, ⟨nd, rfl⟩⟩; (try first | exact ⟨rfl, _, World.drewN_drewN _ _ _⟩ | exact ⟨rfl, _, Eq.trans (World.drewN_drewN _ _ _) (congrArg (World.drewN _) (Nat.add_assoc _ _ _))⟩)) | (go_at_call 94; (with_reducible refine (spec_DrawAddDrops.calls kj52 _ _ l1 t405 t406 t407 _ ?side1 ?side2 A105.out).mono ?_); (case side1 => repeat (first | exact (Kd.C_below HR1.out (bw HB)) | (with_reducible refine Kd.C_alloc ?_ _) | (with_reducible refine Kd.C_drewN ?_ _) | (with_reducible refine Kd.C_drew ?_))); (case side2 => exact HC1.out); rintro e w115 ⟨v408, v410, rfl, ho0, ho1, hb⟩; have n0_ := Aside0.mk (Kd.R_mono (Kd.R_told (Kd.R_told (Kd.R_old (rk HO398) hb) (Kd.R_base ho0)) (Kd.R_base ho1)) (fun _ h_ => h_.1)); have n1_ := Aside0.mk (Kd.R_mono (Kd.R_told (Kd.R_told (Kd.R_old (rk HO400) hb) (Kd.R_base ho0)) (Kd.R_base ho1)) (fun _ h_ => h_.1)); have n2_ := Aside0.mk (Kd.R_lower (Kd.R_new' (Kd.R_new' ho0 (Kd.R_lt (rk HO398))) (Kd.R_lt (rk HO400))) (below_size (bw HB))); have n3_ := Aside0.mk (Kd.R_lower (Kd.R_new' (Kd.R_new' ho1 (Kd.R_lt (rk HO398))) (Kd.R_lt (rk HO400))) (below_size (bw HB))); have n4_ := bs HB hb; clear HO398; clear HO400; clear HB; have HO398 := n0_; have HO400 := n1_; have HO409 := n2_; have HO411 := n3_; have HB := n4_; clear n0_ n1_ n2_ n3_ n4_; (try clear hb); (try clear hb2); (try clear hk); (try clear hi); (try clear ho0); (try clear ho1); obtain ⟨Ao116, co116, eo116⟩ := Kd.R_slice HO409.out; subst eo116; obtain ⟨Ao117, co117, eo117⟩ := Kd.R_slice HO411.out; subst eo117) | (go_at_call 91; (with_reducible refine (impl_AddDrops.calls kj52 _ _ t405 _ _ t406 t407 t412 t413 _ ?side1 ?side2 ?side3 ?side4 A106.out).mono ?_); (case side1 => exact cr HO409); (case side2 => exact (Kd.R_reads' HO409.out).2.1); (case side3 => exact cr HO411); (case side4 => exact (Kd.R_reads' HO411.out).2.1); rintro e w118 ⟨v414, rfl, ho0, hb⟩; have n0_ := Aside0.mk (Kd.R_elder' (rk HO398) (Kd.R_base ho0) hb); have n1_ := Aside0.mk (Kd.R_elder' (rk HO400) (Kd.R_base ho0) hb); have n2_ := Aside0.mk (Kd.R_elder' (rk HO409) (Kd.R_base ho0) hb); have n3_ := Aside0.mk (Kd.R_elder' (rk HO411) (Kd.R_base ho0) hb); have n4_ := Aside0.mk (Kd.R_lower (Kd.R_new' (Kd.R_new' (Kd.R_new' (Kd.R_new' ho0 (Kd.R_lt (rk HO398))) (Kd.R_lt (rk HO400))) (Kd.R_lt (rk HO409))) (Kd.R_lt (rk HO411))) (below_size (bw HB))); have n5_ := bs HB hb; clear HO398; clear HO400; clear HO409; clear HO411; clear HB; have HO398 := n0_; have HO400 := n1_; have HO409 := n2_; have HO411 := n3_; have HO415 := n4_; have HB := n5_; clear n0_ n1_ n2_ n3_ n4_ n5_; (try clear hb); (try clear hb2); (try clear hk); (try clear hi); (try clear ho0)) | (go_at_call 95; (with_reducible refine (spec_AddDrops.calls kj52 _ _ t405 _ _ t406 t407 t416 t417 _ ?side1 ?side2 ?side3 ?side4 A107.out).mono ?_); (case side1 => exact cr HO409); (case side2 => exact (Kd.R_reads' HO409.out).2.1); (case side3 => exact cr HO411); (case side4 => exact (Kd.R_reads' HO411.out).2.1); rintro e w119 ⟨v418, rfl, ho0, hb⟩; have n0_ := Aside0.mk (Kd.R_elder' (rk HO398) (Kd.R_base ho0) hb); have n1_ := Aside0.mk (Kd.R_elder' (rk HO400) (Kd.R_base ho0) hb); have n2_ := Aside0.mk (Kd.R_elder' (rk HO409) (Kd.R_base ho0) hb); have n3_ := Aside0.mk (Kd.R_elder' (rk HO411) (Kd.R_base ho0) hb); have n4_ := Aside0.mk (Kd.R_elder' (rk HO415) (Kd.R_base ho0) hb); have n5_ := Aside0.mk (Kd.R_lower (Kd.R_new' (Kd.R_new' (Kd.R_new' (Kd.R_new' (Kd.R_new' ho0 (Kd.R_lt (rk HO398))) (Kd.R_lt (rk HO400))) (Kd.R_lt (rk HO409))) (Kd.R_lt (rk HO411))) (Kd.R_lt (rk HO415))) (below_size (bw HB))); have n6_ := bs HB hb; clear HO398; clear HO400; clear HO409; clear HO411; clear HO415; clear HB; have HO398 := n0_; have HO400 := n1_; have HO409 := n2_; have HO411 := n3_; have HO415 := n4_; have HO419 := n5_; have HB := n6_; clear n0_ n1_ n2_ n3_ n4_ n5_ n6_; (try clear hb); (try clear hb2); (try clear hk); (try clear hi); (try clear ho0)) | (go_at_call 96; (with_reducible refine (impl_BackDrops.calls kj52 _ _ t405 _ _ t406 t407 t420 t421 _ ?side1 ?side2 ?side3 ?side4 A108.out).mono ?_); (case side1 => exact cr HO409); (case side2 => exact (Kd.R_reads' HO409.out).2.1); (case side3 => exact cr HO411); (case side4 => exact (Kd.R_reads' HO411.out).2.1); rintro e w120 ⟨v422, rfl, ho0, hb⟩; have n0_ := Aside0.mk (Kd.R_elder' (rk HO398) (Kd.R_base ho0) hb); have n1_ := Aside0.mk (Kd.R_elder' (rk HO400) (Kd.R_base ho0) hb); have n2_ := Aside0.mk (Kd.R_elder' (rk HO409) (Kd.R_base ho0) hb); have n3_ := Aside0.mk (Kd.R_elder' (rk HO411) (Kd.R_base ho0) hb); have n4_ := Aside0.mk (Kd.R_elder' (rk HO415) (Kd.R_base ho0) hb); have n5_ := Aside0.mk (Kd.R_elder' (rk HO419) (Kd.R_base ho0) hb); have n6_ := Aside0.mk (Kd.R_lower (Kd.R_new' (Kd.R_new' (Kd.R_new' (Kd.R_new' (Kd.R_new' (Kd.R_new' ho0 (Kd.R_lt (rk HO398))) (Kd.R_lt (rk HO400))) (Kd.R_lt (rk HO409))) (Kd.R_lt (rk HO411))) (Kd.R_lt (rk HO415))) (Kd.R_lt (rk HO419))) (below_size (bw HB))); have n7_ := bs HB hb; clear HO398; clear HO400; clear HO409; clear HO411; clear HO415; clear HO419; clear HB; have HO398 := n0_; have HO400 := n1_; have HO409 := n2_; have HO411 := n3_; have HO415 := n4_; have HO419 := n5_; have HO423 := n6_; have HB := n7_; clear n0_ n1_ n2_ n3_ n4_ n5_ n6_ n7_; (try clear hb); (try clear hb2); (try clear hk); (try clear hi); (try clear ho0)) | (go_at_call 97; (with_reducible refine (spec_BackDrops.calls kj52 _ _ t405 _ _ t406 t407 t424 t425 _ ?side1 ?side2 ?side3 ?side4 A109.out).mono ?_); (case side1 => exact cr HO409); (case side2 => exact (Kd.R_reads' HO409.out).2.1); (case side3 => exact cr HO411); (case side4 => exact (Kd.R_reads' HO411.out).2.1); rintro e w121 ⟨v426, rfl, ho0, hb⟩; have n0_ := Aside0.mk (Kd.R_elder' (rk HO398) (Kd.R_base ho0) hb); have n1_ := Aside0.mk (Kd.R_elder' (rk HO400) (Kd.R_base ho0) hb); have n2_ := Aside0.mk (Kd.R_elder' (rk HO409) (Kd.R_base ho0) hb); have n3_ := Aside0.mk (Kd.R_elder' (rk HO411) (Kd.R_base ho0) hb); have n4_ := Aside0.mk (Kd.R_elder' (rk HO415) (Kd.R_base ho0) hb); have n5_ := Aside0.mk (Kd.R_elder' (rk HO419) (Kd.R_base ho0) hb); have n6_ := Aside0.mk (Kd.R_elder' (rk HO423) (Kd.R_base ho0) hb); have n7_ := Aside0.mk (Kd.R_lower (Kd.R_new' (Kd.R_new' (Kd.R_new' (Kd.R_new' (Kd.R_new' (Kd.R_new' (Kd.R_new' ho0 (Kd.R_lt (rk HO398))) (Kd.R_lt (rk HO400))) (Kd.R_lt (rk HO409))) (Kd.R_lt (rk HO411))) (Kd.R_lt (rk HO415))) (Kd.R_lt (rk HO419))) (Kd.R_lt (rk HO423))) (below_size (bw HB))); have n8_ := bs HB hb; clear HO398; clear HO400; clear HO409; clear HO411; clear HO415; clear HO419; clear HO423; clear HB; have HO398 := n0_; have HO400 := n1_; have HO409 := n2_; have HO411 := n3_; have HO415 := n4_; have HO419 := n5_; have HO423 := n6_; have HO427 := n7_; have HB := n8_; clear n0_ n1_ n2_ n3_ n4_ n5_ n6_ n7_ n8_; (try clear hb); (try clear hb2); (try clear hk); (try clear hi); (try clear ho0))))
       (try simp only [Act.put, List.setIfInBounds_toArray, List.set_cons_zero, List.set_cons_succ])
       refine cutF (rl [58, 123, 3, 91, 2, 168] false) (fun u_ wc => ∃ (kq : Nat) (x396_109 : Bool), (u_ 396) = .bool x396_109 ∧ Aside0 (laws_FnBucketsCount.j6 kq t395 t396 t401 t402 t405 t406 t407 t412 t413 t420 x396_109 = some r) ∧ Aside0 (kq ≤ kj52) ∧ Aside0 (Kd.R (Kd.int .i64) 3 wc w.heap.size (fun k_ => some k_ ≠ ((.slice Ao113 t396.length co113) : Value).ownBlock ∧ some k_ ≠ ((.slice Ao116 t405.length co116) : Value).ownBlock ∧ some k_ ≠ ((.slice Ao117 t406.length co117) : Value).ownBlock ∧ some k_ ≠ (v414 : Value).ownBlock ∧ some k_ ≠ (v422 : Value).ownBlock) (.slice Ao112 t395.length co112) t395) ∧ Aside0 (Kd.R (Kd.int .i64) 3 wc w.heap.size (fun k_ => some k_ ≠ ((.slice Ao112 t395.length co112) : Value).ownBlock ∧ some k_ ≠ ((.slice Ao116 t405.length co116) : Value).ownBlock ∧ some k_ ≠ ((.slice Ao117 t406.length co117) : Value).ownBlock ∧ some k_ ≠ (v414 : Value).ownBlock ∧ some k_ ≠ (v422 : Value).ownBlock) (.slice Ao113 t396.length co113) t396) ∧ Aside0 (Kd.R (Kd.int .i64) 3 wc w.heap.size (fun k_ => some k_ ≠ ((.slice Ao112 t395.length co112) : Value).ownBlock ∧ some k_ ≠ ((.slice Ao113 t396.length co113) : Value).ownBlock ∧ some k_ ≠ ((.slice Ao117 t406.length co117) : Value).ownBlock ∧ some k_ ≠ (v414 : Value).ownBlock ∧ some k_ ≠ (v422 : Value).ownBlock) (.slice Ao116 t405.length co116) t405) ∧ Aside0 (Kd.R (Kd.int .i64) 3 wc w.heap.size (fun k_ => some k_ ≠ ((.slice Ao112 t395.length co112) : Value).ownBlock ∧ some k_ ≠ ((.slice Ao113 t396.length co113) : Value).ownBlock ∧ some k_ ≠ ((.slice Ao116 t405.length co116) : Value).ownBlock ∧ some k_ ≠ (v414 : Value).ownBlock ∧ some k_ ≠ (v422 : Value).ownBlock) (.slice Ao117 t406.length co117) t406) ∧ Aside0 (Kd.R (Kd.int .i64) 3 wc w.heap.size (fun k_ => some k_ ≠ ((.slice Ao112 t395.length co112) : Value).ownBlock ∧ some k_ ≠ ((.slice Ao113 t396.length co113) : Value).ownBlock ∧ some k_ ≠ ((.slice Ao116 t405.length co116) : Value).ownBlock ∧ some k_ ≠ ((.slice Ao117 t406.length co117) : Value).ownBlock ∧ some k_ ≠ (v422 : Value).ownBlock) v414 t412) ∧ Aside0 (Kd.R (Kd.int .i64) 3 wc w.heap.size (fun k_ => some k_ ≠ ((.slice Ao112 t395.length co112) : Value).ownBlock ∧ some k_ ≠ ((.slice Ao113 t396.length co113) : Value).ownBlock ∧ some k_ ≠ ((.slice Ao116 t405.length co116) : Value).ownBlock ∧ some k_ ≠ ((.slice Ao117 t406.length co117) : Value).ownBlock ∧ some k_ ≠ (v414 : Value).ownBlock) v422 t420) ∧ Aside0 (Below w.heap.size w wc)) ?first19 ?rest19
       case first19 =>
        as_aux_lemma =>
         intro J_ K_ hJ_ hK_
         have H := HC110.out
         clear HC110
         by_cases c122 : (t402 != t404) = true
         ·rw [if_pos c122] at H
          have c122b0 : (t402 != t404) = true := c122
          (try (have c122b1 : decide (t402 = t404) = false := by simpa using c122))
          (try (have c122b2 : (t402 == t404) = false := by simpa using c122))
          (try (have c122b3 : ¬ (t402 = t404) := by simpa using c122))
          clear c122
          (first | rw [c122b0] | (simp only [i64_w, i32_w]; rw [c122b0]) | skip)
          exact absurd H (by rw [hrt.out]; cases kj52 <;> simp [laws_FnBucketsCount.j6])
         rw [if_neg c122] at H
         have c122b0 : (t402 != t404) = false := by simpa using c122
         (try (have c122b1 : decide (t402 = t404) = true := by simpa using c122))
         (try (have c122b2 : (t402 == t404) = true := by simpa using c122))
         clear c122
         (first | rw [c122b0] | (simp only [i64_w, i32_w]; rw [c122b0]) | skip)
         by_cases c123 : t401 = t403
         rotate_left
         ·rw [if_neg c123] at H
          have c123b0 : (t401 == t403) = false := beq_eq_false_iff_ne.mpr c123
          have c123b1 : (t401 != t403) = true := bne_iff_ne.mpr c123
          exact absurd H (by rw [hrt.out]; cases kj52 <;> simp [laws_FnBucketsCount.j6])
         rw [if_pos c123] at H
         have c123b0 : (t401 == t403) = true := beq_iff_eq.mpr c123
         have c123b1 : (t401 != t403) = false := bne_eq_false_iff_eq.mpr c123
         clear c123
         by_cases c124 : (t413 != t417) = true
         ·rw [if_pos c124] at H
          have c124b0 : (t413 != t417) = true := c124
          (try (have c124b1 : decide (t413 = t417) = false := by simpa using c124))
          (try (have c124b2 : (t413 == t417) = false := by simpa using c124))
          (try (have c124b3 : ¬ (t413 = t417) := by simpa using c124))
          clear c124
          exact absurd H (by rw [hrt.out]; cases kj52 <;> simp [laws_FnBucketsCount.j6])
         rw [if_neg c124] at H
         have c124b0 : (t413 != t417) = false := by simpa using c124
         (try (have c124b1 : decide (t413 = t417) = true := by simpa using c124))
         (try (have c124b2 : (t413 == t417) = true := by simpa using c124))
         clear c124
         replace H := Option.bind_eq_some_iff.mp H
         obtain ⟨t428, A1250, H⟩ := H
         replace H : (if t428 = true then (if (t421 != t425) = true then (laws_FnBucketsCount.j6 kj52 t395 t396 t401 t402 t405 t406 t407 t412 t413 t420 true) else ((laws_eSame.f kj52 t420 t424).bind fun t429 => (if t429 = true then (laws_FnBucketsCount.j6 kj52 t395 t396 t401 t402 t405 t406 t407 t412 t413 t420 (t421 != t413)) else (laws_FnBucketsCount.j6 kj52 t395 t396 t401 t402 t405 t406 t407 t412 t413 t420 true)))) else (laws_FnBucketsCount.j6 kj52 t395 t396 t401 t402 t405 t406 t407 t412 t413 t420 true)) = some r := H
         have A125 := Aside0.mk A1250
         clear A1250
         by_cases c126 : t428 = true
         rotate_left
         ·replace c126 := Bool.eq_false_iff.mpr c126
          subst c126
          have H1 : (laws_FnBucketsCount.j6 kj52 t395 t396 t401 t402 t405 t406 t407 t412 t413 t420 true) = some r := by rw [if_neg (show ¬ (false = true) by decide)] at H; exact H
          clear H
          have H := H1
          clear H1
          exact absurd H (by rw [hrt.out]; cases kj52 <;> simp [laws_FnBucketsCount.j6])
         subst c126
         have H1 : (if (t421 != t425) = true then (laws_FnBucketsCount.j6 kj52 t395 t396 t401 t402 t405 t406 t407 t412 t413 t420 true) else ((laws_eSame.f kj52 t420 t424).bind fun t429 => (if t429 = true then (laws_FnBucketsCount.j6 kj52 t395 t396 t401 t402 t405 t406 t407 t412 t413 t420 (t421 != t413)) else (laws_FnBucketsCount.j6 kj52 t395 t396 t401 t402 t405 t406 t407 t412 t413 t420 true)))) = some r := by rw [if_pos rfl] at H; exact H
         clear H
         have H := H1
         clear H1
         by_cases c127 : (t421 != t425) = true
         ·rw [if_pos c127] at H
          have c127b0 : (t421 != t425) = true := c127
          (try (have c127b1 : decide (t421 = t425) = false := by simpa using c127))
          (try (have c127b2 : (t421 == t425) = false := by simpa using c127))
          (try (have c127b3 : ¬ (t421 = t425) := by simpa using c127))
          clear c127
          exact absurd H (by rw [hrt.out]; cases kj52 <;> simp [laws_FnBucketsCount.j6])
         rw [if_neg c127] at H
         have c127b0 : (t421 != t425) = false := by simpa using c127
         (try (have c127b1 : decide (t421 = t425) = true := by simpa using c127))
         (try (have c127b2 : (t421 == t425) = true := by simpa using c127))
         clear c127
         replace H := Option.bind_eq_some_iff.mp H
         obtain ⟨t429, A1280, H⟩ := H
         replace H : (if t429 = true then (laws_FnBucketsCount.j6 kj52 t395 t396 t401 t402 t405 t406 t407 t412 t413 t420 (t421 != t413)) else (laws_FnBucketsCount.j6 kj52 t395 t396 t401 t402 t405 t406 t407 t412 t413 t420 true)) = some r := H
         have A128 := Aside0.mk A1280
         clear A1280
         by_cases c129 : t429 = true
         rotate_left
         ·replace c129 := Bool.eq_false_iff.mpr c129
          subst c129
          have H1 : (laws_FnBucketsCount.j6 kj52 t395 t396 t401 t402 t405 t406 t407 t412 t413 t420 true) = some r := by rw [if_neg (show ¬ (false = true) by decide)] at H; exact H
          clear H
          have H := H1
          clear H1
          exact absurd H (by rw [hrt.out]; cases kj52 <;> simp [laws_FnBucketsCount.j6])
         subst c129
         have H1 : (laws_FnBucketsCount.j6 kj52 t395 t396 t401 t402 t405 t406 t407 t412 t413 t420 (t421 != t413)) = some r := by rw [if_pos rfl] at H; exact H
         clear H
         have H := H1
         clear H1
         have H' := Aside0.mk H
         clear H
         obtain ⟨Ao130, co130, eo130⟩ := Kd.R_slice HO415.out
         subst eo130
         obtain ⟨Ao131, co131, eo131⟩ := Kd.R_slice HO419.out
         subst eo131
         go_wp2_with (first | (go_at_call 29; (with_reducible refine (laws_eSame.calls kj52 _ _ t412 _ _ t416 true _ ?side1 ?side2 ?side3 ?side4 A125.out).mono ?_); (case side1 => exact cr HO415); (case side2 => exact (Kd.R_reads' HO415.out).2.1); (case side3 => exact cr HO419); (case side4 => exact (Kd.R_reads' HO419.out).2.1); rintro e w' ⟨rfl, ⟨nd, rfl⟩⟩; (try first | exact ⟨rfl, _, World.drewN_drewN _ _ _⟩ | exact ⟨rfl, _, Eq.trans (World.drewN_drewN _ _ _) (congrArg (World.drewN _) (Nat.add_assoc _ _ _))⟩); obtain ⟨Ao132, co132, eo132⟩ := Kd.R_slice HO423.out; subst eo132; obtain ⟨Ao133, co133, eo133⟩ := Kd.R_slice HO427.out; subst eo133) | (go_at_call 29; (with_reducible refine (laws_eSame.calls kj52 _ _ t420 _ _ t424 true _ ?side1 ?side2 ?side3 ?side4 A128.out).mono ?_); (case side1 => exact cr HO423); (case side2 => exact (Kd.R_reads' HO423.out).2.1); (case side3 => exact cr HO427); (case side4 => exact (Kd.R_reads' HO427.out).2.1); rintro e w' ⟨rfl, ⟨nd, rfl⟩⟩; (try first | exact ⟨rfl, _, World.drewN_drewN _ _ _⟩ | exact ⟨rfl, _, Eq.trans (World.drewN_drewN _ _ _) (congrArg (World.drewN _) (Nat.add_assoc _ _ _))⟩)))
         repeat (go_quiet (first | (go_at_call 29; (with_reducible refine (laws_eSame.calls kj52 _ _ t412 _ _ t416 true _ ?side1 ?side2 ?side3 ?side4 A125.out).mono ?_); (case side1 => exact cr HO415); (case side2 => exact (Kd.R_reads' HO415.out).2.1); (case side3 => exact cr HO419); (case side4 => exact (Kd.R_reads' HO419.out).2.1); rintro e w' ⟨rfl, ⟨nd, rfl⟩⟩; (try first | exact ⟨rfl, _, World.drewN_drewN _ _ _⟩ | exact ⟨rfl, _, Eq.trans (World.drewN_drewN _ _ _) (congrArg (World.drewN _) (Nat.add_assoc _ _ _))⟩); obtain ⟨Ao132, co132, eo132⟩ := Kd.R_slice HO423.out; subst eo132; obtain ⟨Ao133, co133, eo133⟩ := Kd.R_slice HO427.out; subst eo133) | (go_at_call 29; (with_reducible refine (laws_eSame.calls kj52 _ _ t420 _ _ t424 true _ ?side1 ?side2 ?side3 ?side4 A128.out).mono ?_); (case side1 => exact cr HO423); (case side2 => exact (Kd.R_reads' HO423.out).2.1); (case side3 => exact cr HO427); (case side4 => exact (Kd.R_reads' HO427.out).2.1); rintro e w' ⟨rfl, ⟨nd, rfl⟩⟩; (try first | exact ⟨rfl, _, World.drewN_drewN _ _ _⟩ | exact ⟨rfl, _, Eq.trans (World.drewN_drewN _ _ _) (congrArg (World.drewN _) (Nat.add_assoc _ _ _))⟩))); try go_wp2_with (first | (go_at_call 29; (with_reducible refine (laws_eSame.calls kj52 _ _ t412 _ _ t416 true _ ?side1 ?side2 ?side3 ?side4 A125.out).mono ?_); (case side1 => exact cr HO415); (case side2 => exact (Kd.R_reads' HO415.out).2.1); (case side3 => exact cr HO419); (case side4 => exact (Kd.R_reads' HO419.out).2.1); rintro e w' ⟨rfl, ⟨nd, rfl⟩⟩; (try first | exact ⟨rfl, _, World.drewN_drewN _ _ _⟩ | exact ⟨rfl, _, Eq.trans (World.drewN_drewN _ _ _) (congrArg (World.drewN _) (Nat.add_assoc _ _ _))⟩); obtain ⟨Ao132, co132, eo132⟩ := Kd.R_slice HO423.out; subst eo132; obtain ⟨Ao133, co133, eo133⟩ := Kd.R_slice HO427.out; subst eo133) | (go_at_call 29; (with_reducible refine (laws_eSame.calls kj52 _ _ t420 _ _ t424 true _ ?side1 ?side2 ?side3 ?side4 A128.out).mono ?_); (case side1 => exact cr HO423); (case side2 => exact (Kd.R_reads' HO423.out).2.1); (case side3 => exact cr HO427); (case side4 => exact (Kd.R_reads' HO427.out).2.1); rintro e w' ⟨rfl, ⟨nd, rfl⟩⟩; (try first | exact ⟨rfl, _, World.drewN_drewN _ _ _⟩ | exact ⟨rfl, _, Eq.trans (World.drewN_drewN _ _ _) (congrArg (World.drewN _) (Nat.add_assoc _ _ _))⟩))))
         (refine Met.intro ?_; go_step; refine Cut_mk (by kernel_rfl) ?rel20)
         case rel20 => exact ⟨_, ((t421 != t413)), (by first | rfl | (simp; done) | (simp [*]; done)), H', ⟨by first | exact Nat.le_refl _ | exact Nat.le_of_succ_le HJ52.out | exact Nat.le_of_succ_le (Nat.le_trans HJ52.out (Nat.le_of_succ_le HJ13.out)) | exact Nat.le_of_succ_le HJ13.out | (have := HJ13.out; have := HJ52.out; omega)⟩, ⟨by (with_reducible repeat (first | apply Kd.R_alloc | apply Kd.R_drewN | apply Kd.R_drew)); exact Kd.R_mono HO398.out (fun _ hk => ⟨hk.1.1.1.1.1.1, ⟨hk.1.1.1.1.1.2, ⟨hk.1.1.1.1.2, ⟨hk.1.1.1.2, hk.1.2⟩⟩⟩⟩)⟩, ⟨by (with_reducible repeat (first | apply Kd.R_alloc | apply Kd.R_drewN | apply Kd.R_drew)); exact Kd.R_mono HO400.out (fun _ hk => ⟨hk.1.1.1.1.1.1, ⟨hk.1.1.1.1.1.2, ⟨hk.1.1.1.1.2, ⟨hk.1.1.1.2, hk.1.2⟩⟩⟩⟩)⟩, ⟨by (with_reducible repeat (first | apply Kd.R_alloc | apply Kd.R_drewN | apply Kd.R_drew)); exact Kd.R_mono HO409.out (fun _ hk => ⟨hk.1.1.1.1.1.2, ⟨hk.1.1.1.1.2, ⟨hk.1.1.1.1.1.1, ⟨hk.1.1.1.2, hk.1.2⟩⟩⟩⟩)⟩, ⟨by (with_reducible repeat (first | apply Kd.R_alloc | apply Kd.R_drewN | apply Kd.R_drew)); exact Kd.R_mono HO411.out (fun _ hk => ⟨hk.1.1.1.1.1.2, ⟨hk.1.1.1.1.2, ⟨hk.1.1.1.1.1.1, ⟨hk.1.1.1.2, hk.1.2⟩⟩⟩⟩)⟩, ⟨by (with_reducible repeat (first | apply Kd.R_alloc | apply Kd.R_drewN | apply Kd.R_drew)); exact Kd.R_mono HO415.out (fun _ hk => ⟨hk.1.1.1.1.1.1.2, ⟨hk.1.1.1.1.1.2, ⟨hk.1.1.1.1.2, ⟨hk.1.1.1.2, hk.1.2⟩⟩⟩⟩)⟩, ⟨by (with_reducible repeat (first | apply Kd.R_alloc | apply Kd.R_drewN | apply Kd.R_drew)); exact Kd.R_mono HO423.out (fun _ hk => ⟨hk.1.1.1.1.1.1.2, ⟨hk.1.1.1.1.1.2, ⟨hk.1.1.1.1.2, ⟨hk.1.1.1.2, hk.1.1.2⟩⟩⟩⟩)⟩, ⟨bw HB⟩⟩
       case rest19 =>
         intro u_ wc hcut l_ hl_; (simp only [rl, List.reduceReplicate, List.cons_append, List.nil_append, List.append_nil, Bool.not_true, Bool.not_false, fu, Nat.reduceAdd] at hl_); subst hl_; generalize u_ 396 = v396 at hcut ⊢
         clear HC110
         try clear c1
         try clear c4
         try clear c52
         obtain ⟨kq, x396_109, rfl, HA, HJ109, HO_35, HO_36, HO_41, HO_42, HO_44, HO_48, HB⟩ := hcut
         cases kq with
         | zero => exact absurd HA.out (by simp [laws_FnBucketsCount.j6])
         | succ kj109 =>
          have H := HA.out
          clear HA
          simp only [laws_FnBucketsCount.j6] at H
          by_cases c134 : x396_109 = true
          ·subst c134
           have H1 : (some false) = some r := by rw [if_pos rfl] at H; exact H
           clear H
           have H := H1
           clear H1
           exact absurd ((Option.some.inj H).trans hrt.out) (by decide)
          replace c134 := Bool.eq_false_iff.mpr c134
          subst c134
          have H1 : (if t402 = true then (laws_FnBucketsCount.j7 kj109 t395 t396 t401 t405 t406 t407 t412 t413 t420 (decide (t401 ≤ 1000000))) else (laws_FnBucketsCount.j7 kj109 t395 t396 t401 t405 t406 t407 t412 t413 t420 false)) = some r := by rw [if_neg (show ¬ (false = true) by decide)] at H; exact H
          clear H
          have H := H1
          clear H1
          have HC135 := Aside0.mk H
          clear H
          go_upto_region 48 with (fail)
          repeat (go_quiet (fail); go_upto_region 48 with (fail))
          refine cutF (rl [58, 123, 3, 91, 2, 168] false) (fun u_ wc => ∃ (kq : Nat) (x401_134 : Bool), (u_ 401) = .bool x401_134 ∧ Aside0 (laws_FnBucketsCount.j7 kq t395 t396 t401 t405 t406 t407 t412 t413 t420 x401_134 = some r) ∧ Aside0 (kq ≤ kj109) ∧ Aside0 (Kd.R (Kd.int .i64) 3 wc w.heap.size (fun k_ => some k_ ≠ ((.slice Ao113 t396.length co113) : Value).ownBlock ∧ some k_ ≠ ((.slice Ao116 t405.length co116) : Value).ownBlock ∧ some k_ ≠ ((.slice Ao117 t406.length co117) : Value).ownBlock ∧ some k_ ≠ (v414 : Value).ownBlock ∧ some k_ ≠ (v422 : Value).ownBlock) (.slice Ao112 t395.length co112) t395) ∧ Aside0 (Kd.R (Kd.int .i64) 3 wc w.heap.size (fun k_ => some k_ ≠ ((.slice Ao112 t395.length co112) : Value).ownBlock ∧ some k_ ≠ ((.slice Ao116 t405.length co116) : Value).ownBlock ∧ some k_ ≠ ((.slice Ao117 t406.length co117) : Value).ownBlock ∧ some k_ ≠ (v414 : Value).ownBlock ∧ some k_ ≠ (v422 : Value).ownBlock) (.slice Ao113 t396.length co113) t396) ∧ Aside0 (Kd.R (Kd.int .i64) 3 wc w.heap.size (fun k_ => some k_ ≠ ((.slice Ao112 t395.length co112) : Value).ownBlock ∧ some k_ ≠ ((.slice Ao113 t396.length co113) : Value).ownBlock ∧ some k_ ≠ ((.slice Ao117 t406.length co117) : Value).ownBlock ∧ some k_ ≠ (v414 : Value).ownBlock ∧ some k_ ≠ (v422 : Value).ownBlock) (.slice Ao116 t405.length co116) t405) ∧ Aside0 (Kd.R (Kd.int .i64) 3 wc w.heap.size (fun k_ => some k_ ≠ ((.slice Ao112 t395.length co112) : Value).ownBlock ∧ some k_ ≠ ((.slice Ao113 t396.length co113) : Value).ownBlock ∧ some k_ ≠ ((.slice Ao116 t405.length co116) : Value).ownBlock ∧ some k_ ≠ (v414 : Value).ownBlock ∧ some k_ ≠ (v422 : Value).ownBlock) (.slice Ao117 t406.length co117) t406) ∧ Aside0 (Kd.R (Kd.int .i64) 3 wc w.heap.size (fun k_ => some k_ ≠ ((.slice Ao112 t395.length co112) : Value).ownBlock ∧ some k_ ≠ ((.slice Ao113 t396.length co113) : Value).ownBlock ∧ some k_ ≠ ((.slice Ao116 t405.length co116) : Value).ownBlock ∧ some k_ ≠ ((.slice Ao117 t406.length co117) : Value).ownBlock ∧ some k_ ≠ (v422 : Value).ownBlock) v414 t412) ∧ Aside0 (Kd.R (Kd.int .i64) 3 wc w.heap.size (fun k_ => some k_ ≠ ((.slice Ao112 t395.length co112) : Value).ownBlock ∧ some k_ ≠ ((.slice Ao113 t396.length co113) : Value).ownBlock ∧ some k_ ≠ ((.slice Ao116 t405.length co116) : Value).ownBlock ∧ some k_ ≠ ((.slice Ao117 t406.length co117) : Value).ownBlock ∧ some k_ ≠ (v414 : Value).ownBlock) v422 t420) ∧ Aside0 (Below w.heap.size w wc)) ?first21 ?rest21
          case first21 =>
           as_aux_lemma =>
            intro J_ K_ hJ_ hK_
            have H := HC135.out
            clear HC135
            by_cases c136 : t402 = true
            ·subst c136
             have H1 : (laws_FnBucketsCount.j7 kj109 t395 t396 t401 t405 t406 t407 t412 t413 t420 (decide (t401 ≤ 1000000))) = some r := by rw [if_pos rfl] at H; exact H
             clear H
             have H := H1
             clear H1
             have H' := Aside0.mk H
             clear H
             go_wp2
             repeat (go_quiet (fail); try go_wp2)
             (refine Met.intro ?_; go_step; refine Cut_mk (by kernel_rfl) ?rel22)
             case rel22 => exact ⟨_, (decide (t401 ≤ 1000000)), (by first | rfl | (simp; done) | (simp [*]; done)), H', ⟨by first | exact Nat.le_refl _ | exact Nat.le_of_succ_le HJ109.out | exact Nat.le_of_succ_le (Nat.le_trans HJ109.out (Nat.le_of_succ_le HJ52.out)) | exact Nat.le_of_succ_le (Nat.le_trans (Nat.le_trans HJ109.out (Nat.le_of_succ_le HJ52.out)) (Nat.le_of_succ_le HJ13.out)) | exact Nat.le_of_succ_le HJ52.out | exact Nat.le_of_succ_le (Nat.le_trans HJ52.out (Nat.le_of_succ_le HJ13.out)) | exact Nat.le_of_succ_le HJ13.out | (have := HJ13.out; have := HJ52.out; have := HJ109.out; omega)⟩, ⟨rk HO_35⟩, ⟨rk HO_36⟩, ⟨rk HO_41⟩, ⟨rk HO_42⟩, ⟨rk HO_44⟩, ⟨rk HO_48⟩, ⟨bw HB⟩⟩
            replace c136 := Bool.eq_false_iff.mpr c136
            subst c136
            have H1 : (laws_FnBucketsCount.j7 kj109 t395 t396 t401 t405 t406 t407 t412 t413 t420 false) = some r := by rw [if_neg (show ¬ (false = true) by decide)] at H; exact H
            clear H
            have H := H1
            clear H1
            have H' := Aside0.mk H
            clear H
            go_wp2
            repeat (go_quiet (fail); try go_wp2)
            (refine Met.intro ?_; go_step; refine Cut_mk (by kernel_rfl) ?rel23)
            case rel23 => exact ⟨_, (false), (by first | rfl | (simp; done) | (simp [*]; done)), H', ⟨by first | exact Nat.le_refl _ | exact Nat.le_of_succ_le HJ109.out | exact Nat.le_of_succ_le (Nat.le_trans HJ109.out (Nat.le_of_succ_le HJ52.out)) | exact Nat.le_of_succ_le (Nat.le_trans (Nat.le_trans HJ109.out (Nat.le_of_succ_le HJ52.out)) (Nat.le_of_succ_le HJ13.out)) | exact Nat.le_of_succ_le HJ52.out | exact Nat.le_of_succ_le (Nat.le_trans HJ52.out (Nat.le_of_succ_le HJ13.out)) | exact Nat.le_of_succ_le HJ13.out | (have := HJ13.out; have := HJ52.out; have := HJ109.out; omega)⟩, ⟨rk HO_35⟩, ⟨rk HO_36⟩, ⟨rk HO_41⟩, ⟨rk HO_42⟩, ⟨rk HO_44⟩, ⟨rk HO_48⟩, ⟨bw HB⟩⟩
          case rest21 =>
            intro u_ wc hcut l_ hl_; (simp only [rl, List.reduceReplicate, List.cons_append, List.nil_append, List.append_nil, Bool.not_true, Bool.not_false, fu, Nat.reduceAdd] at hl_); subst hl_; generalize u_ 401 = v401 at hcut ⊢
            clear HC135
            try clear c1
            try clear c4
            try clear c52
            try clear c134
            obtain ⟨kq, x401_134, rfl, HA, HJ134, HO_35, HO_36, HO_41, HO_42, HO_44, HO_48, HB⟩ := hcut
            cases kq with
            | zero => exact absurd HA.out (by simp [laws_FnBucketsCount.j7])
            | succ kj134 =>
             have H := HA.out
             clear HA
             simp only [laws_FnBucketsCount.j7] at H
             have HC137 := Aside0.mk H
             clear H
             go_upto_if 401 with (fail)
             repeat (go_quiet (fail); go_upto_if 401 with (fail))
             refine cutF (rl [4, 1, 47, 2, 4, 123, 3, 91, 2, 168] false) (fun u_ wc => ∃ (kq : Nat), Aside0 (laws_FnBucketsCount.j8 kq t405 t406 t407 t412 t413 t420 = some r) ∧ Aside0 (kq ≤ kj134) ∧ Aside0 (Kd.R (Kd.int .i64) 3 wc w.heap.size (fun k_ => some k_ ≠ ((.slice Ao117 t406.length co117) : Value).ownBlock ∧ some k_ ≠ (v414 : Value).ownBlock ∧ some k_ ≠ (v422 : Value).ownBlock) (.slice Ao116 t405.length co116) t405) ∧ Aside0 (Kd.R (Kd.int .i64) 3 wc w.heap.size (fun k_ => some k_ ≠ ((.slice Ao116 t405.length co116) : Value).ownBlock ∧ some k_ ≠ (v414 : Value).ownBlock ∧ some k_ ≠ (v422 : Value).ownBlock) (.slice Ao117 t406.length co117) t406) ∧ Aside0 (Kd.R (Kd.int .i64) 3 wc w.heap.size (fun k_ => some k_ ≠ ((.slice Ao116 t405.length co116) : Value).ownBlock ∧ some k_ ≠ ((.slice Ao117 t406.length co117) : Value).ownBlock ∧ some k_ ≠ (v422 : Value).ownBlock) v414 t412) ∧ Aside0 (Kd.R (Kd.int .i64) 3 wc w.heap.size (fun k_ => some k_ ≠ ((.slice Ao116 t405.length co116) : Value).ownBlock ∧ some k_ ≠ ((.slice Ao117 t406.length co117) : Value).ownBlock ∧ some k_ ≠ (v414 : Value).ownBlock) v422 t420) ∧ Aside0 (Below w.heap.size w wc)) ?first24 ?rest24
             case first24 =>
              as_aux_lemma =>
               intro J_ K_ hJ_ hK_
               have H := HC137.out
               clear HC137
               by_cases c138 : x401_134 = true
               rotate_left
               ·replace c138 := Bool.eq_false_iff.mpr c138
                subst c138
                have H1 : (laws_FnBucketsCount.j8 kj134 t405 t406 t407 t412 t413 t420) = some r := by rw [if_neg (show ¬ (false = true) by decide)] at H; exact H
                clear H
                have H := H1
                clear H1
                have H' := Aside0.mk H
                clear H
                go_wp2
                repeat (go_quiet (fail); try go_wp2)
                (refine Met.intro ?_; go_step; refine Cut_mk (by kernel_rfl) ?rel25)
                case rel25 => exact ⟨_, H', ⟨by first | exact Nat.le_refl _ | exact Nat.le_of_succ_le HJ134.out | exact Nat.le_of_succ_le (Nat.le_trans HJ134.out (Nat.le_of_succ_le HJ109.out)) | exact Nat.le_of_succ_le (Nat.le_trans (Nat.le_trans HJ134.out (Nat.le_of_succ_le HJ109.out)) (Nat.le_of_succ_le HJ52.out)) | exact Nat.le_of_succ_le (Nat.le_trans (Nat.le_trans (Nat.le_trans HJ134.out (Nat.le_of_succ_le HJ109.out)) (Nat.le_of_succ_le HJ52.out)) (Nat.le_of_succ_le HJ13.out)) | exact Nat.le_of_succ_le HJ109.out | exact Nat.le_of_succ_le (Nat.le_trans HJ109.out (Nat.le_of_succ_le HJ52.out)) | exact Nat.le_of_succ_le (Nat.le_trans (Nat.le_trans HJ109.out (Nat.le_of_succ_le HJ52.out)) (Nat.le_of_succ_le HJ13.out)) | (have := HJ13.out; have := HJ52.out; have := HJ109.out; have := HJ134.out; omega)⟩, ⟨by (with_reducible repeat (first | apply Kd.R_alloc | apply Kd.R_drewN | apply Kd.R_drew)); exact Kd.R_mono HO_41.out (fun _ hk => ⟨hk.2.2.1, ⟨hk.2.2.2.1, hk.2.2.2.2⟩⟩)⟩, ⟨by (with_reducible repeat (first | apply Kd.R_alloc | apply Kd.R_drewN | apply Kd.R_drew)); exact Kd.R_mono HO_42.out (fun _ hk => ⟨hk.2.2.1, ⟨hk.2.2.2.1, hk.2.2.2.2⟩⟩)⟩, ⟨by (with_reducible repeat (first | apply Kd.R_alloc | apply Kd.R_drewN | apply Kd.R_drew)); exact Kd.R_mono HO_44.out (fun _ hk => ⟨hk.2.2.1, ⟨hk.2.2.2.1, hk.2.2.2.2⟩⟩)⟩, ⟨by (with_reducible repeat (first | apply Kd.R_alloc | apply Kd.R_drewN | apply Kd.R_drew)); exact Kd.R_mono HO_48.out (fun _ hk => ⟨hk.2.2.1, ⟨hk.2.2.2.1, hk.2.2.2.2⟩⟩)⟩, ⟨bw HB⟩⟩
               subst c138
               have H1 : ((impl_HeldAfter.f kj134 t395 t401).bind fun bt430 => (if bt430.2 = true then ((laws_eSame.f kj134 bt430.1 t396).bind fun t434 => (if t434 = true then (laws_FnBucketsCount.j8 kj134 t405 t406 t407 t412 t413 t420) else (some false))) else (some false))) = some r := by rw [if_pos rfl] at H; exact H
               clear H
               have H := H1
               clear H1
               replace H := Option.bind_eq_some_iff.mp H
               obtain ⟨⟨t430, t431⟩, A1390, H⟩ := H
               replace H : (if t431 = true then ((laws_eSame.f kj134 t430 t396).bind fun t434 => (if t434 = true then (laws_FnBucketsCount.j8 kj134 t405 t406 t407 t412 t413 t420) else (some false))) else (some false)) = some r := H
               have A139 := Aside0.mk A1390
               clear A1390
               by_cases c140 : t431 = true
               rotate_left
               ·replace c140 := Bool.eq_false_iff.mpr c140
                subst c140
                have H1 : (some false) = some r := by rw [if_neg (show ¬ (false = true) by decide)] at H; exact H
                clear H
                have H := H1
                clear H1
                exact absurd ((Option.some.inj H).trans hrt.out) (by decide)
               subst c140
               have H1 : ((laws_eSame.f kj134 t430 t396).bind fun t434 => (if t434 = true then (laws_FnBucketsCount.j8 kj134 t405 t406 t407 t412 t413 t420) else (some false))) = some r := by rw [if_pos rfl] at H; exact H
               clear H
               have H := H1
               clear H1
               replace H := Option.bind_eq_some_iff.mp H
               obtain ⟨t434, A1410, H⟩ := H
               replace H : (if t434 = true then (laws_FnBucketsCount.j8 kj134 t405 t406 t407 t412 t413 t420) else (some false)) = some r := H
               have A141 := Aside0.mk A1410
               clear A1410
               by_cases c142 : t434 = true
               rotate_left
               ·replace c142 := Bool.eq_false_iff.mpr c142
                subst c142
                have H1 : (some false) = some r := by rw [if_neg (show ¬ (false = true) by decide)] at H; exact H
                clear H
                have H := H1
                clear H1
                exact absurd ((Option.some.inj H).trans hrt.out) (by decide)
               subst c142
               have H1 : (laws_FnBucketsCount.j8 kj134 t405 t406 t407 t412 t413 t420) = some r := by rw [if_pos rfl] at H; exact H
               clear H
               have H := H1
               clear H1
               have H' := Aside0.mk H
               clear H
               go_wp2_with (first | (go_at_call 80; (with_reducible refine (impl_HeldAfter.calls kj134 _ _ t395 t401 t430 true _ ?side1 ?side2 A139.out).mono ?_); (case side1 => exact cr HO_35); (case side2 => exact (Kd.R_reads' HO_35.out).2.1); rintro e w143 ⟨v432, rfl, ho0, hb⟩; have HO433 := Aside0.mk (Kd.R_lower (Kd.R_new' (Kd.R_new' (Kd.R_new' (Kd.R_new' (Kd.R_new' (Kd.R_new' ho0 (Kd.R_lt (rk HO_35))) (Kd.R_lt (rk HO_36))) (Kd.R_lt (rk HO_41))) (Kd.R_lt (rk HO_42))) (Kd.R_lt (rk HO_44))) (Kd.R_lt (rk HO_48))) (below_size (bw HB))); replace HO_35 := Aside0.mk (Kd.R_elder' (rk HO_35) (Kd.R_base ho0) hb); replace HO_36 := Aside0.mk (Kd.R_elder' (rk HO_36) (Kd.R_base ho0) hb); replace HO_41 := Aside0.mk (Kd.R_elder' (rk HO_41) (Kd.R_base ho0) hb); replace HO_42 := Aside0.mk (Kd.R_elder' (rk HO_42) (Kd.R_base ho0) hb); replace HO_44 := Aside0.mk (Kd.R_elder' (rk HO_44) (Kd.R_base ho0) hb); replace HO_48 := Aside0.mk (Kd.R_elder' (rk HO_48) (Kd.R_base ho0) hb); replace HB := bs HB hb; (try clear hb); (try clear ho0); obtain ⟨Ao144, co144, eo144⟩ := Kd.R_slice HO433.out; subst eo144) | (go_at_call 29; (with_reducible refine (laws_eSame.calls kj134 _ _ t430 _ _ t396 true _ ?side1 ?side2 ?side3 ?side4 A141.out).mono ?_); (case side1 => exact cr HO433); (case side2 => exact (Kd.R_reads' HO433.out).2.1); (case side3 => exact cr HO_36); (case side4 => exact (Kd.R_reads' HO_36.out).2.1); rintro e w' ⟨rfl, ⟨nd, rfl⟩⟩; (try first | exact ⟨rfl, _, World.drewN_drewN _ _ _⟩ | exact ⟨rfl, _, Eq.trans (World.drewN_drewN _ _ _) (congrArg (World.drewN _) (Nat.add_assoc _ _ _))⟩)))
               repeat (go_quiet (first | (go_at_call 80; (with_reducible refine (impl_HeldAfter.calls kj134 _ _ t395 t401 t430 true _ ?side1 ?side2 A139.out).mono ?_); (case side1 => exact cr HO_35); (case side2 => exact (Kd.R_reads' HO_35.out).2.1); rintro e w143 ⟨v432, rfl, ho0, hb⟩; have n0_ := Aside0.mk (Kd.R_elder' (rk HO_35) (Kd.R_base ho0) hb); have n1_ := Aside0.mk (Kd.R_elder' (rk HO_36) (Kd.R_base ho0) hb); have n2_ := Aside0.mk (Kd.R_elder' (rk HO_41) (Kd.R_base ho0) hb); have n3_ := Aside0.mk (Kd.R_elder' (rk HO_42) (Kd.R_base ho0) hb); have n4_ := Aside0.mk (Kd.R_elder' (rk HO_44) (Kd.R_base ho0) hb); have n5_ := Aside0.mk (Kd.R_elder' (rk HO_48) (Kd.R_base ho0) hb); have n6_ := Aside0.mk (Kd.R_lower (Kd.R_new' (Kd.R_new' (Kd.R_new' (Kd.R_new' (Kd.R_new' (Kd.R_new' ho0 (Kd.R_lt (rk HO_35))) (Kd.R_lt (rk HO_36))) (Kd.R_lt (rk HO_41))) (Kd.R_lt (rk HO_42))) (Kd.R_lt (rk HO_44))) (Kd.R_lt (rk HO_48))) (below_size (bw HB))); have n7_ := bs HB hb; clear HO_35; clear HO_36; clear HO_41; clear HO_42; clear HO_44; clear HO_48; clear HB; have HO_35 := n0_; have HO_36 := n1_; have HO_41 := n2_; have HO_42 := n3_; have HO_44 := n4_; have HO_48 := n5_; have HO433 := n6_; have HB := n7_; clear n0_ n1_ n2_ n3_ n4_ n5_ n6_ n7_; (try clear hb); (try clear hb2); (try clear hk); (try clear hi); (try clear ho0); obtain ⟨Ao144, co144, eo144⟩ := Kd.R_slice HO433.out; subst eo144) | (go_at_call 29; (with_reducible refine (laws_eSame.calls kj134 _ _ t430 _ _ t396 true _ ?side1 ?side2 ?side3 ?side4 A141.out).mono ?_); (case side1 => exact cr HO433); (case side2 => exact (Kd.R_reads' HO433.out).2.1); (case side3 => exact cr HO_36); (case side4 => exact (Kd.R_reads' HO_36.out).2.1); rintro e w' ⟨rfl, ⟨nd, rfl⟩⟩; (try first | exact ⟨rfl, _, World.drewN_drewN _ _ _⟩ | exact ⟨rfl, _, Eq.trans (World.drewN_drewN _ _ _) (congrArg (World.drewN _) (Nat.add_assoc _ _ _))⟩))); try go_wp2_with (first | (go_at_call 80; (with_reducible refine (impl_HeldAfter.calls kj134 _ _ t395 t401 t430 true _ ?side1 ?side2 A139.out).mono ?_); (case side1 => exact cr HO_35); (case side2 => exact (Kd.R_reads' HO_35.out).2.1); rintro e w143 ⟨v432, rfl, ho0, hb⟩; have n0_ := Aside0.mk (Kd.R_elder' (rk HO_35) (Kd.R_base ho0) hb); have n1_ := Aside0.mk (Kd.R_elder' (rk HO_36) (Kd.R_base ho0) hb); have n2_ := Aside0.mk (Kd.R_elder' (rk HO_41) (Kd.R_base ho0) hb); have n3_ := Aside0.mk (Kd.R_elder' (rk HO_42) (Kd.R_base ho0) hb); have n4_ := Aside0.mk (Kd.R_elder' (rk HO_44) (Kd.R_base ho0) hb); have n5_ := Aside0.mk (Kd.R_elder' (rk HO_48) (Kd.R_base ho0) hb); have n6_ := Aside0.mk (Kd.R_lower (Kd.R_new' (Kd.R_new' (Kd.R_new' (Kd.R_new' (Kd.R_new' (Kd.R_new' ho0 (Kd.R_lt (rk HO_35))) (Kd.R_lt (rk HO_36))) (Kd.R_lt (rk HO_41))) (Kd.R_lt (rk HO_42))) (Kd.R_lt (rk HO_44))) (Kd.R_lt (rk HO_48))) (below_size (bw HB))); have n7_ := bs HB hb; clear HO_35; clear HO_36; clear HO_41; clear HO_42; clear HO_44; clear HO_48; clear HB; have HO_35 := n0_; have HO_36 := n1_; have HO_41 := n2_; have HO_42 := n3_; have HO_44 := n4_; have HO_48 := n5_; have HO433 := n6_; have HB := n7_; clear n0_ n1_ n2_ n3_ n4_ n5_ n6_ n7_; (try clear hb); (try clear hb2); (try clear hk); (try clear hi); (try clear ho0); obtain ⟨Ao144, co144, eo144⟩ := Kd.R_slice HO433.out; subst eo144) | (go_at_call 29; (with_reducible refine (laws_eSame.calls kj134 _ _ t430 _ _ t396 true _ ?side1 ?side2 ?side3 ?side4 A141.out).mono ?_); (case side1 => exact cr HO433); (case side2 => exact (Kd.R_reads' HO433.out).2.1); (case side3 => exact cr HO_36); (case side4 => exact (Kd.R_reads' HO_36.out).2.1); rintro e w' ⟨rfl, ⟨nd, rfl⟩⟩; (try first | exact ⟨rfl, _, World.drewN_drewN _ _ _⟩ | exact ⟨rfl, _, Eq.trans (World.drewN_drewN _ _ _) (congrArg (World.drewN _) (Nat.add_assoc _ _ _))⟩))))
               (refine Met.intro ?_; go_step; refine Cut_mk (by kernel_rfl) ?rel26)
               case rel26 => exact ⟨_, H', ⟨by first | exact Nat.le_refl _ | exact Nat.le_of_succ_le HJ134.out | exact Nat.le_of_succ_le (Nat.le_trans HJ134.out (Nat.le_of_succ_le HJ109.out)) | exact Nat.le_of_succ_le (Nat.le_trans (Nat.le_trans HJ134.out (Nat.le_of_succ_le HJ109.out)) (Nat.le_of_succ_le HJ52.out)) | exact Nat.le_of_succ_le (Nat.le_trans (Nat.le_trans (Nat.le_trans HJ134.out (Nat.le_of_succ_le HJ109.out)) (Nat.le_of_succ_le HJ52.out)) (Nat.le_of_succ_le HJ13.out)) | exact Nat.le_of_succ_le HJ109.out | exact Nat.le_of_succ_le (Nat.le_trans HJ109.out (Nat.le_of_succ_le HJ52.out)) | exact Nat.le_of_succ_le (Nat.le_trans (Nat.le_trans HJ109.out (Nat.le_of_succ_le HJ52.out)) (Nat.le_of_succ_le HJ13.out)) | (have := HJ13.out; have := HJ52.out; have := HJ109.out; have := HJ134.out; omega)⟩, ⟨by (with_reducible repeat (first | apply Kd.R_alloc | apply Kd.R_drewN | apply Kd.R_drew)); exact Kd.R_mono HO_41.out (fun _ hk => ⟨hk.1.2.2.1, ⟨hk.1.2.2.2.1, hk.1.2.2.2.2⟩⟩)⟩, ⟨by (with_reducible repeat (first | apply Kd.R_alloc | apply Kd.R_drewN | apply Kd.R_drew)); exact Kd.R_mono HO_42.out (fun _ hk => ⟨hk.1.2.2.1, ⟨hk.1.2.2.2.1, hk.1.2.2.2.2⟩⟩)⟩, ⟨by (with_reducible repeat (first | apply Kd.R_alloc | apply Kd.R_drewN | apply Kd.R_drew)); exact Kd.R_mono HO_44.out (fun _ hk => ⟨hk.1.2.2.1, ⟨hk.1.2.2.2.1, hk.1.2.2.2.2⟩⟩)⟩, ⟨by (with_reducible repeat (first | apply Kd.R_alloc | apply Kd.R_drewN | apply Kd.R_drew)); exact Kd.R_mono HO_48.out (fun _ hk => ⟨hk.1.2.2.1, ⟨hk.1.2.2.2.1, hk.1.2.2.2.2⟩⟩)⟩, ⟨bw HB⟩⟩
             case rest24 =>
               intro u_ wc hcut l_ hl_; (simp only [rl, List.reduceReplicate, List.cons_append, List.nil_append, List.append_nil, Bool.not_true, Bool.not_false, fu, Nat.reduceAdd] at hl_); subst hl_
               clear HC137
               try clear c1
               try clear c4
               try clear c52
               try clear c134
               obtain ⟨kq, HA, HJ136, HO_41, HO_42, HO_44, HO_48, HB⟩ := hcut
               cases kq with
               | zero => exact absurd HA.out (by simp [laws_FnBucketsCount.j8])
               | succ kj136 =>
                have H := HA.out
                clear HA
                simp only [laws_FnBucketsCount.j8] at H
                by_cases c145 : t413 = true
                rotate_left
                ·replace c145 := Bool.eq_false_iff.mpr c145
                 subst c145
                 have H1 : (some true) = some r := by rw [if_neg (show ¬ (false = true) by decide)] at H; exact H
                 clear H
                 have H := H1
                 clear H1
                 obtain rfl := Option.some.inj H
                 go_wp2
                 repeat (go_quiet (fail); try go_wp2)
                 go_ret
                 exact ⟨by first | rfl | (simp [errW_none, errW_some] <;> rfl) | (simp [*, errW_none, errW_some] <;> rfl), bw HB⟩
                subst c145
                have H1 : ((impl_BackDrops.f kj136 t405 t412 t407).bind fun bt435 => ((impl_AddDrops.f kj136 t405 t420 t407).bind fun bt439 => (if bt435.2 = true then ((laws_eSame.f kj136 bt435.1 t406).bind fun t443 => (if t443 = true then (if bt439.2 = true then ((laws_eSame.f kj136 bt439.1 t406).bind fun t444 => (some t444)) else (some false)) else (some false))) else (some false)))) = some r := by rw [if_pos rfl] at H; exact H
                clear H
                have H := H1
                clear H1
                replace H := Option.bind_eq_some_iff.mp H
                obtain ⟨⟨t435, t436⟩, A1460, H⟩ := H
                replace H : ((impl_AddDrops.f kj136 t405 t420 t407).bind fun bt439 => (if t436 = true then ((laws_eSame.f kj136 t435 t406).bind fun t443 => (if t443 = true then (if bt439.2 = true then ((laws_eSame.f kj136 bt439.1 t406).bind fun t444 => (some t444)) else (some false)) else (some false))) else (some false))) = some r := H
                have A146 := Aside0.mk A1460
                clear A1460
                replace H := Option.bind_eq_some_iff.mp H
                obtain ⟨⟨t439, t440⟩, A1470, H⟩ := H
                replace H : (if t436 = true then ((laws_eSame.f kj136 t435 t406).bind fun t443 => (if t443 = true then (if t440 = true then ((laws_eSame.f kj136 t439 t406).bind fun t444 => (some t444)) else (some false)) else (some false))) else (some false)) = some r := H
                have A147 := Aside0.mk A1470
                clear A1470
                by_cases c148 : t436 = true
                rotate_left
                ·replace c148 := Bool.eq_false_iff.mpr c148
                 subst c148
                 have H1 : (some false) = some r := by rw [if_neg (show ¬ (false = true) by decide)] at H; exact H
                 clear H
                 have H := H1
                 clear H1
                 exact absurd ((Option.some.inj H).trans hrt.out) (by decide)
                subst c148
                have H1 : ((laws_eSame.f kj136 t435 t406).bind fun t443 => (if t443 = true then (if t440 = true then ((laws_eSame.f kj136 t439 t406).bind fun t444 => (some t444)) else (some false)) else (some false))) = some r := by rw [if_pos rfl] at H; exact H
                clear H
                have H := H1
                clear H1
                replace H := Option.bind_eq_some_iff.mp H
                obtain ⟨t443, A1490, H⟩ := H
                replace H : (if t443 = true then (if t440 = true then ((laws_eSame.f kj136 t439 t406).bind fun t444 => (some t444)) else (some false)) else (some false)) = some r := H
                have A149 := Aside0.mk A1490
                clear A1490
                by_cases c150 : t443 = true
                rotate_left
                ·replace c150 := Bool.eq_false_iff.mpr c150
                 subst c150
                 have H1 : (some false) = some r := by rw [if_neg (show ¬ (false = true) by decide)] at H; exact H
                 clear H
                 have H := H1
                 clear H1
                 exact absurd ((Option.some.inj H).trans hrt.out) (by decide)
                subst c150
                have H1 : (if t440 = true then ((laws_eSame.f kj136 t439 t406).bind fun t444 => (some t444)) else (some false)) = some r := by rw [if_pos rfl] at H; exact H
                clear H
                have H := H1
                clear H1
                by_cases c151 : t440 = true
                rotate_left
                ·replace c151 := Bool.eq_false_iff.mpr c151
                 subst c151
                 have H1 : (some false) = some r := by rw [if_neg (show ¬ (false = true) by decide)] at H; exact H
                 clear H
                 have H := H1
                 clear H1
                 exact absurd ((Option.some.inj H).trans hrt.out) (by decide)
                subst c151
                have H1 : ((laws_eSame.f kj136 t439 t406).bind fun t444 => (some t444)) = some r := by rw [if_pos rfl] at H; exact H
                clear H
                have H := H1
                clear H1
                replace H := Option.bind_eq_some_iff.mp H
                obtain ⟨t444, A1520, H⟩ := H
                replace H : (some t444) = some r := H
                have A152 := Aside0.mk A1520
                clear A1520
                obtain rfl := Option.some.inj H
                obtain ⟨Ao153, co153, eo153⟩ := Kd.R_slice HO_44.out
                subst eo153
                go_wp2_with (first | (go_at_call 96; (with_reducible refine (impl_BackDrops.calls kj136 _ _ t405 _ _ t412 t407 t435 true _ ?side1 ?side2 ?side3 ?side4 A146.out).mono ?_); (case side1 => exact cr HO_41); (case side2 => exact (Kd.R_reads' HO_41.out).2.1); (case side3 => exact cr HO_44); (case side4 => exact (Kd.R_reads' HO_44.out).2.1); rintro e w154 ⟨v437, rfl, ho0, hb⟩; have HO438 := Aside0.mk (Kd.R_lower (Kd.R_new' (Kd.R_new' (Kd.R_new' (Kd.R_new' ho0 (Kd.R_lt (rk HO_41))) (Kd.R_lt (rk HO_42))) (Kd.R_lt (rk HO_44))) (Kd.R_lt (rk HO_48))) (below_size (bw HB))); replace HO_41 := Aside0.mk (Kd.R_elder' (rk HO_41) (Kd.R_base ho0) hb); replace HO_42 := Aside0.mk (Kd.R_elder' (rk HO_42) (Kd.R_base ho0) hb); replace HO_44 := Aside0.mk (Kd.R_elder' (rk HO_44) (Kd.R_base ho0) hb); replace HO_48 := Aside0.mk (Kd.R_elder' (rk HO_48) (Kd.R_base ho0) hb); replace HB := bs HB hb; (try clear hb); (try clear ho0); obtain ⟨Ao155, co155, eo155⟩ := Kd.R_slice HO_48.out; subst eo155) | (go_at_call 91; (with_reducible refine (impl_AddDrops.calls kj136 _ _ t405 _ _ t420 t407 t439 true _ ?side1 ?side2 ?side3 ?side4 A147.out).mono ?_); (case side1 => exact cr HO_41); (case side2 => exact (Kd.R_reads' HO_41.out).2.1); (case side3 => exact cr HO_48); (case side4 => exact (Kd.R_reads' HO_48.out).2.1); rintro e w156 ⟨v441, rfl, ho0, hb⟩; have HO442 := Aside0.mk (Kd.R_lower (Kd.R_new' (Kd.R_new' (Kd.R_new' (Kd.R_new' (Kd.R_new' ho0 (Kd.R_lt (rk HO_41))) (Kd.R_lt (rk HO_42))) (Kd.R_lt (rk HO_44))) (Kd.R_lt (rk HO_48))) (Kd.R_lt (rk HO438))) (below_size (bw HB))); replace HO_41 := Aside0.mk (Kd.R_elder' (rk HO_41) (Kd.R_base ho0) hb); replace HO_42 := Aside0.mk (Kd.R_elder' (rk HO_42) (Kd.R_base ho0) hb); replace HO_44 := Aside0.mk (Kd.R_elder' (rk HO_44) (Kd.R_base ho0) hb); replace HO_48 := Aside0.mk (Kd.R_elder' (rk HO_48) (Kd.R_base ho0) hb); replace HO438 := Aside0.mk (Kd.R_elder' (rk HO438) (Kd.R_base ho0) hb); replace HB := bs HB hb; (try clear hb); (try clear ho0); obtain ⟨Ao157, co157, eo157⟩ := Kd.R_slice HO438.out; subst eo157) | (go_at_call 29; (with_reducible refine (laws_eSame.calls kj136 _ _ t435 _ _ t406 true _ ?side1 ?side2 ?side3 ?side4 A149.out).mono ?_); (case side1 => exact cr HO438); (case side2 => exact (Kd.R_reads' HO438.out).2.1); (case side3 => exact cr HO_42); (case side4 => exact (Kd.R_reads' HO_42.out).2.1); rintro e w' ⟨rfl, ⟨nd, rfl⟩⟩; (try first | exact ⟨rfl, _, World.drewN_drewN _ _ _⟩ | exact ⟨rfl, _, Eq.trans (World.drewN_drewN _ _ _) (congrArg (World.drewN _) (Nat.add_assoc _ _ _))⟩); obtain ⟨Ao158, co158, eo158⟩ := Kd.R_slice HO442.out; subst eo158) | (go_at_call 29; (with_reducible refine (laws_eSame.calls kj136 _ _ t439 _ _ t406 t444 _ ?side1 ?side2 ?side3 ?side4 A152.out).mono ?_); (case side1 => exact cr HO442); (case side2 => exact (Kd.R_reads' HO442.out).2.1); (case side3 => exact cr HO_42); (case side4 => exact (Kd.R_reads' HO_42.out).2.1); rintro e w' ⟨rfl, ⟨nd, rfl⟩⟩; (try first | exact ⟨rfl, _, World.drewN_drewN _ _ _⟩ | exact ⟨rfl, _, Eq.trans (World.drewN_drewN _ _ _) (congrArg (World.drewN _) (Nat.add_assoc _ _ _))⟩)))
                repeat (go_quiet (first | (go_at_call 96; (with_reducible refine (impl_BackDrops.calls kj136 _ _ t405 _ _ t412 t407 t435 true _ ?side1 ?side2 ?side3 ?side4 A146.out).mono ?_); (case side1 => exact cr HO_41); (case side2 => exact (Kd.R_reads' HO_41.out).2.1); (case side3 => exact cr HO_44); (case side4 => exact (Kd.R_reads' HO_44.out).2.1); rintro e w154 ⟨v437, rfl, ho0, hb⟩; have n0_ := Aside0.mk (Kd.R_elder' (rk HO_41) (Kd.R_base ho0) hb); have n1_ := Aside0.mk (Kd.R_elder' (rk HO_42) (Kd.R_base ho0) hb); have n2_ := Aside0.mk (Kd.R_elder' (rk HO_44) (Kd.R_base ho0) hb); have n3_ := Aside0.mk (Kd.R_elder' (rk HO_48) (Kd.R_base ho0) hb); have n4_ := Aside0.mk (Kd.R_lower (Kd.R_new' (Kd.R_new' (Kd.R_new' (Kd.R_new' ho0 (Kd.R_lt (rk HO_41))) (Kd.R_lt (rk HO_42))) (Kd.R_lt (rk HO_44))) (Kd.R_lt (rk HO_48))) (below_size (bw HB))); have n5_ := bs HB hb; clear HO_41; clear HO_42; clear HO_44; clear HO_48; clear HB; have HO_41 := n0_; have HO_42 := n1_; have HO_44 := n2_; have HO_48 := n3_; have HO438 := n4_; have HB := n5_; clear n0_ n1_ n2_ n3_ n4_ n5_; (try clear hb); (try clear hb2); (try clear hk); (try clear hi); (try clear ho0); obtain ⟨Ao155, co155, eo155⟩ := Kd.R_slice HO_48.out; subst eo155) | (go_at_call 91; (with_reducible refine (impl_AddDrops.calls kj136 _ _ t405 _ _ t420 t407 t439 true _ ?side1 ?side2 ?side3 ?side4 A147.out).mono ?_); (case side1 => exact cr HO_41); (case side2 => exact (Kd.R_reads' HO_41.out).2.1); (case side3 => exact cr HO_48); (case side4 => exact (Kd.R_reads' HO_48.out).2.1); rintro e w156 ⟨v441, rfl, ho0, hb⟩; have n0_ := Aside0.mk (Kd.R_elder' (rk HO_41) (Kd.R_base ho0) hb); have n1_ := Aside0.mk (Kd.R_elder' (rk HO_42) (Kd.R_base ho0) hb); have n2_ := Aside0.mk (Kd.R_elder' (rk HO_44) (Kd.R_base ho0) hb); have n3_ := Aside0.mk (Kd.R_elder' (rk HO_48) (Kd.R_base ho0) hb); have n4_ := Aside0.mk (Kd.R_elder' (rk HO438) (Kd.R_base ho0) hb); have n5_ := Aside0.mk (Kd.R_lower (Kd.R_new' (Kd.R_new' (Kd.R_new' (Kd.R_new' (Kd.R_new' ho0 (Kd.R_lt (rk HO_41))) (Kd.R_lt (rk HO_42))) (Kd.R_lt (rk HO_44))) (Kd.R_lt (rk HO_48))) (Kd.R_lt (rk HO438))) (below_size (bw HB))); have n6_ := bs HB hb; clear HO_41; clear HO_42; clear HO_44; clear HO_48; clear HO438; clear HB; have HO_41 := n0_; have HO_42 := n1_; have HO_44 := n2_; have HO_48 := n3_; have HO438 := n4_; have HO442 := n5_; have HB := n6_; clear n0_ n1_ n2_ n3_ n4_ n5_ n6_; (try clear hb); (try clear hb2); (try clear hk); (try clear hi); (try clear ho0); obtain ⟨Ao157, co157, eo157⟩ := Kd.R_slice HO438.out; subst eo157) | (go_at_call 29; (with_reducible refine (laws_eSame.calls kj136 _ _ t435 _ _ t406 true _ ?side1 ?side2 ?side3 ?side4 A149.out).mono ?_); (case side1 => exact cr HO438); (case side2 => exact (Kd.R_reads' HO438.out).2.1); (case side3 => exact cr HO_42); (case side4 => exact (Kd.R_reads' HO_42.out).2.1); rintro e w' ⟨rfl, ⟨nd, rfl⟩⟩; (try first | exact ⟨rfl, _, World.drewN_drewN _ _ _⟩ | exact ⟨rfl, _, Eq.trans (World.drewN_drewN _ _ _) (congrArg (World.drewN _) (Nat.add_assoc _ _ _))⟩); obtain ⟨Ao158, co158, eo158⟩ := Kd.R_slice HO442.out; subst eo158) | (go_at_call 29; (with_reducible refine (laws_eSame.calls kj136 _ _ t439 _ _ t406 t444 _ ?side1 ?side2 ?side3 ?side4 A152.out).mono ?_); (case side1 => exact cr HO442); (case side2 => exact (Kd.R_reads' HO442.out).2.1); (case side3 => exact cr HO_42); (case side4 => exact (Kd.R_reads' HO_42.out).2.1); rintro e w' ⟨rfl, ⟨nd, rfl⟩⟩; (try first | exact ⟨rfl, _, World.drewN_drewN _ _ _⟩ | exact ⟨rfl, _, Eq.trans (World.drewN_drewN _ _ _) (congrArg (World.drewN _) (Nat.add_assoc _ _ _))⟩))); try go_wp2_with (first | (go_at_call 96; (with_reducible refine (impl_BackDrops.calls kj136 _ _ t405 _ _ t412 t407 t435 true _ ?side1 ?side2 ?side3 ?side4 A146.out).mono ?_); (case side1 => exact cr HO_41); (case side2 => exact (Kd.R_reads' HO_41.out).2.1); (case side3 => exact cr HO_44); (case side4 => exact (Kd.R_reads' HO_44.out).2.1); rintro e w154 ⟨v437, rfl, ho0, hb⟩; have n0_ := Aside0.mk (Kd.R_elder' (rk HO_41) (Kd.R_base ho0) hb); have n1_ := Aside0.mk (Kd.R_elder' (rk HO_42) (Kd.R_base ho0) hb); have n2_ := Aside0.mk (Kd.R_elder' (rk HO_44) (Kd.R_base ho0) hb); have n3_ := Aside0.mk (Kd.R_elder' (rk HO_48) (Kd.R_base ho0) hb); have n4_ := Aside0.mk (Kd.R_lower (Kd.R_new' (Kd.R_new' (Kd.R_new' (Kd.R_new' ho0 (Kd.R_lt (rk HO_41))) (Kd.R_lt (rk HO_42))) (Kd.R_lt (rk HO_44))) (Kd.R_lt (rk HO_48))) (below_size (bw HB))); have n5_ := bs HB hb; clear HO_41; clear HO_42; clear HO_44; clear HO_48; clear HB; have HO_41 := n0_; have HO_42 := n1_; have HO_44 := n2_; have HO_48 := n3_; have HO438 := n4_; have HB := n5_; clear n0_ n1_ n2_ n3_ n4_ n5_; (try clear hb); (try clear hb2); (try clear hk); (try clear hi); (try clear ho0); obtain ⟨Ao155, co155, eo155⟩ := Kd.R_slice HO_48.out; subst eo155) | (go_at_call 91; (with_reducible refine (impl_AddDrops.calls kj136 _ _ t405 _ _ t420 t407 t439 true _ ?side1 ?side2 ?side3 ?side4 A147.out).mono ?_); (case side1 => exact cr HO_41); (case side2 => exact (Kd.R_reads' HO_41.out).2.1); (case side3 => exact cr HO_48); (case side4 => exact (Kd.R_reads' HO_48.out).2.1); rintro e w156 ⟨v441, rfl, ho0, hb⟩; have n0_ := Aside0.mk (Kd.R_elder' (rk HO_41) (Kd.R_base ho0) hb); have n1_ := Aside0.mk (Kd.R_elder' (rk HO_42) (Kd.R_base ho0) hb); have n2_ := Aside0.mk (Kd.R_elder' (rk HO_44) (Kd.R_base ho0) hb); have n3_ := Aside0.mk (Kd.R_elder' (rk HO_48) (Kd.R_base ho0) hb); have n4_ := Aside0.mk (Kd.R_elder' (rk HO438) (Kd.R_base ho0) hb); have n5_ := Aside0.mk (Kd.R_lower (Kd.R_new' (Kd.R_new' (Kd.R_new' (Kd.R_new' (Kd.R_new' ho0 (Kd.R_lt (rk HO_41))) (Kd.R_lt (rk HO_42))) (Kd.R_lt (rk HO_44))) (Kd.R_lt (rk HO_48))) (Kd.R_lt (rk HO438))) (below_size (bw HB))); have n6_ := bs HB hb; clear HO_41; clear HO_42; clear HO_44; clear HO_48; clear HO438; clear HB; have HO_41 := n0_; have HO_42 := n1_; have HO_44 := n2_; have HO_48 := n3_; have HO438 := n4_; have HO442 := n5_; have HB := n6_; clear n0_ n1_ n2_ n3_ n4_ n5_ n6_; (try clear hb); (try clear hb2); (try clear hk); (try clear hi); (try clear ho0); obtain ⟨Ao157, co157, eo157⟩ := Kd.R_slice HO438.out; subst eo157) | (go_at_call 29; (with_reducible refine (laws_eSame.calls kj136 _ _ t435 _ _ t406 true _ ?side1 ?side2 ?side3 ?side4 A149.out).mono ?_); (case side1 => exact cr HO438); (case side2 => exact (Kd.R_reads' HO438.out).2.1); (case side3 => exact cr HO_42); (case side4 => exact (Kd.R_reads' HO_42.out).2.1); rintro e w' ⟨rfl, ⟨nd, rfl⟩⟩; (try first | exact ⟨rfl, _, World.drewN_drewN _ _ _⟩ | exact ⟨rfl, _, Eq.trans (World.drewN_drewN _ _ _) (congrArg (World.drewN _) (Nat.add_assoc _ _ _))⟩); obtain ⟨Ao158, co158, eo158⟩ := Kd.R_slice HO442.out; subst eo158) | (go_at_call 29; (with_reducible refine (laws_eSame.calls kj136 _ _ t439 _ _ t406 t444 _ ?side1 ?side2 ?side3 ?side4 A152.out).mono ?_); (case side1 => exact cr HO442); (case side2 => exact (Kd.R_reads' HO442.out).2.1); (case side3 => exact cr HO_42); (case side4 => exact (Kd.R_reads' HO_42.out).2.1); rintro e w' ⟨rfl, ⟨nd, rfl⟩⟩; (try first | exact ⟨rfl, _, World.drewN_drewN _ _ _⟩ | exact ⟨rfl, _, Eq.trans (World.drewN_drewN _ _ _) (congrArg (World.drewN _) (Nat.add_assoc _ _ _))⟩))))
                go_ret
                exact ⟨by first | rfl | (simp [errW_none, errW_some] <;> rfl) | (simp [*, errW_none, errW_some] <;> rfl), bw HB⟩
     
     /-- THE ONE PURE STATEMENT of laws_FnBucketsCount: yours. -/
def laws_FnBucketsCount.Pure : Prop := ∀ (l0 : List Int) (l1 : List Int), l0.length ≤ maxLen → l0.length * 1 ≤ 140737488351232 → (∀ x ∈ l0, (Lit.int .u8 x).wf = true) → l1.length ≤ maxLen → l1.length * 1 ≤ 140737488351232 → (∀ x ∈ l1, (Lit.int .u8 x).wf = true) → ∃ k, laws_FnBucketsCount.f k l0 l1 = some true
theorem laws_FnBucketsCount.walk (P : laws_FnBucketsCount.Pure) (a0 : Option Addr) (len0 cap0 : Nat) (z0 : List Int) (a1 : Option Addr) (len1 cap1 : Nat) (z1 : List Int) (w : World) (w0 : (a0 = none ∧ len0 = 0 ∧ cap0 = 0 ∧ z0 = []) ∨ ∃ x, a0 = some x ∧ len0 ≤ cap0 ∧ cap0 ≤ maxLen ∧ z0.length = cap0 ∧ (∀ i, i < z0.length → w.cell? (x.add i) = some (.int .u8 (z0.getD i 0))) ∧ ∀ n ∈ z0, (Lit.int .u8 n).wf = true) (y0 : len0 * 1 ≤ 140737488351232) (w1 : (a1 = none ∧ len1 = 0 ∧ cap1 = 0 ∧ z1 = []) ∨ ∃ x, a1 = some x ∧ len1 ≤ cap1 ∧ cap1 ≤ maxLen ∧ z1.length = cap1 ∧ (∀ i, i < z1.length → w.cell? (x.add i) = some (.int .u8 (z1.getD i 0))) ∧ ∀ n ∈ z1, (Lit.int .u8 n).wf = true) (y1 : len1 * 1 ≤ 140737488351232) :
  Calls Try.prog 7 #[.slice a0 len0 cap0, .slice a1 len1 cap1] w fun e w' => e = .returned (.bool true) ∧ Below w.heap.size w w' := by
 obtain ⟨l0, rfl, hr0, hm0, hw0, hc0⟩ := ReadsInt.ofRowC w0
 obtain ⟨l1, rfl, hr1, hm1, hw1, hc1⟩ := ReadsInt.ofRowC w1
 obtain ⟨k, h⟩ := P l0 l1 hm0 y0 hw0 hm1 y1 hw1
 refine (laws_FnBucketsCount.calls k _ _ l0 _ _ l1 true w (Kd.C_of_reads (d := (0 : Int)) (h1 := fun _ => rfl) hr0) hc0 (Kd.C_of_reads (d := (0 : Int)) (h1 := fun _ => rfl) hr1) hc1 ⟨rfl⟩ h).mono ?_
 rintro e w' ⟨rfl, hd⟩
 exact ⟨rfl, hd⟩

end Go.Proofs.Ytmlkdkeocbhajaa.B
