-- Functions of the program as plain functions, and that the calls come to them. Written by a program (ownprint.py); nothing here is trusted: Lean checks it.
import Derived.Test.YtmlkdkeocbhajaaGvCell
import Derived.Test.YtmlkdkeocbhajaaGvCut
import Derived.Test.YtmlkdkeocbhajaaTx0
import Derived.Test.YtmlkdkeocbhajaaTx1
import Derived.Test.YtmlkdkeocbhajaaTx2
import Derived.Test.YtmlkdkeocbhajaaTx3
import Derived.Test.YtmlkdkeocbhajaaTx4
namespace Go.Proofs.Ytmlkdkeocbhajaa.T
open Go.RowKit Go.Proofs.YtmlkdkeocbhajaaW.PrintWords Go.Proofs.YtmlkdkeocbhajaaW.PrintLast Go.Proofs.YtmlkdkeocbhajaaW.PrintMore Go.Proofs.Ytmlkdkeocbhajaa.Sq
attribute [local go_sem] max2_int min2_int max_two min_two max_three min_three max_four min_four   -- for this text's walks alone
set_option linter.unusedVariables false
set_option linter.unusedSimpArgs false

attribute [local go_sem high] eqA78
/-! ### laws_FnThinnedAndBlended: function 6 -/
mutual
def laws_FnThinnedAndBlended.j0 : Nat → List Int → Int → Int → Int → Bool → Bool → Int → Int → Option (Bool)
 | 0, _, _, _, _, _, _, _, _ => none
 | k + 1, x1, x5, x6, x7, x9, x67, x347000, x347001 => if x67 = true then (some false) else (if x9 = true then (laws_FnThinnedAndBlended.j1 k x1 x5 x6 x7 x9 (decide (x7 > 0)) x347000 x347001) else (laws_FnThinnedAndBlended.j1 k x1 x5 x6 x7 x9 false x347000 x347001))
def laws_FnThinnedAndBlended.j1 : Nat → List Int → Int → Int → Int → Bool → Bool → Int → Int → Option (Bool)
 | 0, _, _, _, _, _, _, _, _ => none
 | k + 1, x1, x5, x6, x7, x9, x72, x347000, x347001 => if x72 = true then ((impl_ThinShare.f k x5 x6 (wrap64 (x7 - 1))).bind fun bt351 => (if bt351.2.2 = true then (if (wrap64 ((wrap64 (x347000 * bt351.2.1)) * x5)) = (wrap64 ((wrap64 (bt351.1 * x347001)) * (wrap64 (x5 - x6)))) then (laws_FnThinnedAndBlended.j2 k x1 x7 x9 x347000 x347001) else (some false)) else (laws_FnThinnedAndBlended.j2 k x1 x7 x9 x347000 x347001))) else (laws_FnThinnedAndBlended.j2 k x1 x7 x9 x347000 x347001)
def laws_FnThinnedAndBlended.j2 : Nat → List Int → Int → Bool → Int → Int → Option (Bool)
 | 0, _, _, _, _, _ => none
 | k + 1, x1, x7, x9, x347000, x347001 => if x9 = true then (if x7 = 0 then (laws_FnThinnedAndBlended.j3 k x1 (!(x347000 == 1) || (!(x347001 == 1)))) else (laws_FnThinnedAndBlended.j3 k x1 false)) else (laws_FnThinnedAndBlended.j3 k x1 false)
def laws_FnThinnedAndBlended.j3 : Nat → List Int → Bool → Option (Bool)
 | 0, _, _ => none
 | k + 1, x1, x110 => if x110 = true then (some false) else ((spec_DrawTimesToThin.f k x1).bind fun bt355 => ((impl_TimesToThin.f k bt355.1 bt355.2.1 bt355.2.2.1 bt355.2.2.2).bind fun bt360 => ((spec_TimesToThin.f k bt355.1 bt355.2.1 bt355.2.2.1 bt355.2.2.2).bind fun bt362 => (if (bt360.2 != bt362.2) = true then (laws_FnThinnedAndBlended.j4 k x1 bt355.1 bt355.2.1 bt360.1 bt360.2 true bt355.2.2.1 bt355.2.2.2) else (laws_FnThinnedAndBlended.j4 k x1 bt355.1 bt355.2.1 bt360.1 bt360.2 (bt360.1 != bt362.1) bt355.2.2.1 bt355.2.2.2)))))
def laws_FnThinnedAndBlended.j4 : Nat → List Int → Int → Int → Int → Bool → Bool → Int → Int → Option (Bool)
 | 0, _, _, _, _, _, _, _, _ => none
 | k + 1, x1, x14, x15, x17, x18, x138, x360000, x360001 => if x138 = true then (some false) else (if x18 = true then ((impl_ThinShare.f k x14 x15 x17).bind fun bt364 => (if bt364.2.2 = true then (laws_FnThinnedAndBlended.j5 k x1 x14 x15 x17 (decide ((wrap64 (bt364.1 * x360001)) > (wrap64 (x360000 * bt364.2.1)))) x360000 x360001) else (laws_FnThinnedAndBlended.j5 k x1 x14 x15 x17 true x360000 x360001))) else (laws_FnThinnedAndBlended.j6 k x1))
def laws_FnThinnedAndBlended.j6 : Nat → List Int → Option (Bool)
 | 0, _ => none
 | k + 1, x1 => (spec_DrawBlendAmounts.f k x1).bind fun bt372 => ((impl_BlendAmounts.f k bt372.1 bt372.2.1 bt372.2.2.1 bt372.2.2.2.1 bt372.2.2.2.2.1 bt372.2.2.2.2.2).bind fun bt381 => ((spec_BlendAmounts.f k bt372.1 bt372.2.1 bt372.2.2.1 bt372.2.2.2.1 bt372.2.2.2.2.1 bt372.2.2.2.2.2).bind fun bt384 => (if (bt381.2.2 != bt384.2.2) = true then (laws_FnThinnedAndBlended.j7 k bt381.1 bt381.2.1 bt381.2.2 true bt372.1 bt372.2.1 bt372.2.2.1 bt372.2.2.2.1 bt372.2.2.2.2.1 bt372.2.2.2.2.2) else (if bt381.1 = bt384.1 then (laws_FnThinnedAndBlended.j7 k bt381.1 bt381.2.1 bt381.2.2 (bt381.2.1 != bt384.2.1) bt372.1 bt372.2.1 bt372.2.2.1 bt372.2.2.2.1 bt372.2.2.2.2.1 bt372.2.2.2.2.2) else (laws_FnThinnedAndBlended.j7 k bt381.1 bt381.2.1 bt381.2.2 true bt372.1 bt372.2.1 bt372.2.2.1 bt372.2.2.2.1 bt372.2.2.2.2.1 bt372.2.2.2.2.2)))))
def laws_FnThinnedAndBlended.j7 : Nat → Int → Int → Bool → Bool → Int → Int → Int → Int → Int → Int → Option (Bool)
 | 0, _, _, _, _, _, _, _, _, _, _ => none
 | k + 1, x28, x29, x30, x221, x379000, x379001, x380000, x380001, x381000, x381001 => if x221 = true then (some false) else (if x30 = true then (if x28 < 0 then (laws_FnThinnedAndBlended.j8 k x28 x29 true x379000 x379001 x380000 x380001 x381000 x381001) else (if x29 < 0 then (laws_FnThinnedAndBlended.j8 k x28 x29 true x379000 x379001 x380000 x380001 x381000 x381001) else (laws_FnThinnedAndBlended.j8 k x28 x29 (decide ((wrap64 (x28 + x29)) < 1)) x379000 x379001 x380000 x380001 x381000 x381001))) else (some true))
def laws_FnThinnedAndBlended.j8 : Nat → Int → Int → Bool → Int → Int → Int → Int → Int → Int → Option (Bool)
 | 0, _, _, _, _, _, _, _, _, _ => none
 | k + 1, x28, x29, x234, x379000, x379001, x380000, x380001, x381000, x381001 => if x234 = true then (some false) else (if x28 ≤ 10000 then (if x29 ≤ 10000 then (if x379001 ≤ 1000 then (if x380001 ≤ 1000 then (if x381001 ≤ 100 then (if x379000 ≤ 10000 then (if x380000 ≤ 10000 then (if x381000 ≤ 1000 then (if x379000 ≥ (-10000) then (if x380000 ≥ (-10000) then (laws_FnThinnedAndBlended.j9 k x28 x29 (decide (x381000 ≥ (-1000))) x379000 x379001 x380000 x380001 x381000 x381001) else (laws_FnThinnedAndBlended.j9 k x28 x29 false x379000 x379001 x380000 x380001 x381000 x381001)) else (laws_FnThinnedAndBlended.j9 k x28 x29 false x379000 x379001 x380000 x380001 x381000 x381001)) else (laws_FnThinnedAndBlended.j9 k x28 x29 false x379000 x379001 x380000 x380001 x381000 x381001)) else (laws_FnThinnedAndBlended.j9 k x28 x29 false x379000 x379001 x380000 x380001 x381000 x381001)) else (laws_FnThinnedAndBlended.j9 k x28 x29 false x379000 x379001 x380000 x380001 x381000 x381001)) else (laws_FnThinnedAndBlended.j9 k x28 x29 false x379000 x379001 x380000 x380001 x381000 x381001)) else (laws_FnThinnedAndBlended.j9 k x28 x29 false x379000 x379001 x380000 x380001 x381000 x381001)) else (laws_FnThinnedAndBlended.j9 k x28 x29 false x379000 x379001 x380000 x380001 x381000 x381001)) else (laws_FnThinnedAndBlended.j9 k x28 x29 false x379000 x379001 x380000 x380001 x381000 x381001)) else (laws_FnThinnedAndBlended.j9 k x28 x29 false x379000 x379001 x380000 x380001 x381000 x381001))
def laws_FnThinnedAndBlended.j9 : Nat → Int → Int → Bool → Int → Int → Int → Int → Int → Int → Option (Bool)
 | 0, _, _, _, _, _, _, _, _, _ => none
 | k + 1, x28, x29, x285, x379000, x379001, x380000, x380001, x381000, x381001 => if x285 = true then (if (wrap64 ((wrap64 ((wrap64 ((wrap64 (x28 * x379000)) * x380001)) + (wrap64 ((wrap64 (x29 * x380000)) * x379001)))) * x381001)) = (wrap64 ((wrap64 ((wrap64 (x381000 * (wrap64 (x28 + x29)))) * x379001)) * x380001)) then ((impl_BlendAmounts.f k x380000 x380001 x379000 x379001 x381000 x381001).bind fun bt387 => (if bt387.2.2 = true then (if (!(x379000 == x380000) || (!(x379001 == x380001))) = true then (if bt387.1 = x29 then (if bt387.2.1 = x28 then (some true) else (some false)) else (some false)) else (some true)) else (some false))) else (some false)) else ((impl_BlendAmounts.f k x380000 x380001 x379000 x379001 x381000 x381001).bind fun bt390 => (if bt390.2.2 = true then (if (!(x379000 == x380000) || (!(x379001 == x380001))) = true then (if bt390.1 = x29 then (if bt390.2.1 = x28 then (some true) else (some false)) else (some false)) else (some true)) else (some false)))
def laws_FnThinnedAndBlended.j5 : Nat → List Int → Int → Int → Int → Bool → Int → Int → Option (Bool)
 | 0, _, _, _, _, _, _, _ => none
 | k + 1, x1, x14, x15, x17, x161, x360000, x360001 => if x161 = true then (some false) else (if x17 > 0 then ((impl_ThinShare.f k x14 x15 (wrap64 (x17 - 1))).bind fun bt368 => (if bt368.2.2 = true then (if (wrap64 (bt368.1 * x360001)) ≤ (wrap64 (x360000 * bt368.2.1)) then (some false) else (laws_FnThinnedAndBlended.j6 k x1)) else (some false))) else (laws_FnThinnedAndBlended.j6 k x1))
end
def laws_FnThinnedAndBlended.f (k : Nat) (l0 : List Int) (l1 : List Int) : Option (Bool) := (laws_big.f l0 l1).bind fun t339 => (if t339 = true then (some true) else ((spec_DrawThinShare.f l0).bind fun bt340 => ((impl_ThinShare.f k bt340.1 bt340.2.1 bt340.2.2).bind fun bt343 => ((spec_ThinShare.f k bt340.1 bt340.2.1 bt340.2.2).bind fun bt347 => (if (bt343.2.2 != bt347.2.2) = true then (laws_FnThinnedAndBlended.j0 k l1 bt340.1 bt340.2.1 bt340.2.2 bt343.2.2 true bt343.1 bt343.2.1) else (laws_FnThinnedAndBlended.j0 k l1 bt340.1 bt340.2.1 bt340.2.2 bt343.2.2 (!(bt343.1 == bt347.1) || (!(bt343.2.1 == bt347.2.1))) bt343.1 bt343.2.1))))))
theorem laws_FnThinnedAndBlended.mono_l : ∀ k, (∀ y0 y1 y2 y3 y4 y5 y6 y7, LeO (laws_FnThinnedAndBlended.j0 k y0 y1 y2 y3 y4 y5 y6 y7) (laws_FnThinnedAndBlended.j0 (k + 1) y0 y1 y2 y3 y4 y5 y6 y7)) ∧ (∀ y0 y1 y2 y3 y4 y5 y6 y7, LeO (laws_FnThinnedAndBlended.j1 k y0 y1 y2 y3 y4 y5 y6 y7) (laws_FnThinnedAndBlended.j1 (k + 1) y0 y1 y2 y3 y4 y5 y6 y7)) ∧ (∀ y0 y1 y2 y3 y4, LeO (laws_FnThinnedAndBlended.j2 k y0 y1 y2 y3 y4) (laws_FnThinnedAndBlended.j2 (k + 1) y0 y1 y2 y3 y4)) ∧ (∀ y0 y1, LeO (laws_FnThinnedAndBlended.j3 k y0 y1) (laws_FnThinnedAndBlended.j3 (k + 1) y0 y1)) ∧ (∀ y0 y1 y2 y3 y4 y5 y6 y7, LeO (laws_FnThinnedAndBlended.j4 k y0 y1 y2 y3 y4 y5 y6 y7) (laws_FnThinnedAndBlended.j4 (k + 1) y0 y1 y2 y3 y4 y5 y6 y7)) ∧ (∀ y0, LeO (laws_FnThinnedAndBlended.j6 k y0) (laws_FnThinnedAndBlended.j6 (k + 1) y0)) ∧ (∀ y0 y1 y2 y3 y4 y5 y6 y7 y8 y9, LeO (laws_FnThinnedAndBlended.j7 k y0 y1 y2 y3 y4 y5 y6 y7 y8 y9) (laws_FnThinnedAndBlended.j7 (k + 1) y0 y1 y2 y3 y4 y5 y6 y7 y8 y9)) ∧ (∀ y0 y1 y2 y3 y4 y5 y6 y7 y8, LeO (laws_FnThinnedAndBlended.j8 k y0 y1 y2 y3 y4 y5 y6 y7 y8) (laws_FnThinnedAndBlended.j8 (k + 1) y0 y1 y2 y3 y4 y5 y6 y7 y8)) ∧ (∀ y0 y1 y2 y3 y4 y5 y6 y7 y8, LeO (laws_FnThinnedAndBlended.j9 k y0 y1 y2 y3 y4 y5 y6 y7 y8) (laws_FnThinnedAndBlended.j9 (k + 1) y0 y1 y2 y3 y4 y5 y6 y7 y8)) ∧ (∀ y0 y1 y2 y3 y4 y5 y6, LeO (laws_FnThinnedAndBlended.j5 k y0 y1 y2 y3 y4 y5 y6) (laws_FnThinnedAndBlended.j5 (k + 1) y0 y1 y2 y3 y4 y5 y6))
 | 0 => ⟨fun _ _ _ _ _ _ _ _ r h => by simp [laws_FnThinnedAndBlended.j0] at h, fun _ _ _ _ _ _ _ _ r h => by simp [laws_FnThinnedAndBlended.j1] at h, fun _ _ _ _ _ r h => by simp [laws_FnThinnedAndBlended.j2] at h, fun _ _ r h => by simp [laws_FnThinnedAndBlended.j3] at h, fun _ _ _ _ _ _ _ _ r h => by simp [laws_FnThinnedAndBlended.j4] at h, fun _ r h => by simp [laws_FnThinnedAndBlended.j6] at h, fun _ _ _ _ _ _ _ _ _ _ r h => by simp [laws_FnThinnedAndBlended.j7] at h, fun _ _ _ _ _ _ _ _ _ r h => by simp [laws_FnThinnedAndBlended.j8] at h, fun _ _ _ _ _ _ _ _ _ r h => by simp [laws_FnThinnedAndBlended.j9] at h, fun _ _ _ _ _ _ _ r h => by simp [laws_FnThinnedAndBlended.j5] at h⟩
 | k + 1 => by
  obtain ⟨ih0, ih1, ih2, ih3, ih4, ih5, ih6, ih7, ih8, ih9⟩ := laws_FnThinnedAndBlended.mono_l k
  refine ⟨?_, ?_, ?_, ?_, ?_, ?_, ?_, ?_, ?_, ?_⟩
  ·intro y0 y1 y2 y3 y4 y5 y6 y7
   unfold laws_FnThinnedAndBlended.j0
   repeat' first
   | (with_reducible exact ih0 _ _ _ _ _ _ _ _)
   | (with_reducible exact ih1 _ _ _ _ _ _ _ _)
   | (with_reducible exact ih2 _ _ _ _ _)
   | (with_reducible exact ih3 _ _)
   | (with_reducible exact ih4 _ _ _ _ _ _ _ _)
   | (with_reducible exact ih5 _)
   | (with_reducible exact ih6 _ _ _ _ _ _ _ _ _ _)
   | (with_reducible exact ih7 _ _ _ _ _ _ _ _ _)
   | (with_reducible exact ih8 _ _ _ _ _ _ _ _ _)
   | (with_reducible exact ih9 _ _ _ _ _ _ _)
   | (with_reducible exact impl_BlendAmounts.mono _ _ _ _ _ _ _)
   | (with_reducible exact impl_ThinShare.mono _ _ _ _)
   | (with_reducible exact impl_TimesToThin.mono _ _ _ _ _)
   | (with_reducible exact spec_BlendAmounts.mono _ _ _ _ _ _ _)
   | (with_reducible exact spec_DrawBlendAmounts.mono _ _)
   | (with_reducible exact spec_DrawTimesToThin.mono _ _)
   | (with_reducible exact spec_ThinShare.mono _ _ _ _)
   | (with_reducible exact spec_TimesToThin.mono _ _ _ _ _)
   | (with_reducible exact LeO.refl _)
   | (with_reducible exact LeO.none _)
   | (with_reducible refine LeO.ite ?_ ?_)
   | (with_reducible refine LeO.bind ?_ (fun _ => ?_))
   | exact ih0 _ _ _ _ _ _ _ _
   | exact ih1 _ _ _ _ _ _ _ _
   | exact ih2 _ _ _ _ _
   | exact ih3 _ _
   | exact ih4 _ _ _ _ _ _ _ _
   | exact ih5 _
   | exact ih6 _ _ _ _ _ _ _ _ _ _
   | exact ih7 _ _ _ _ _ _ _ _ _
   | exact ih8 _ _ _ _ _ _ _ _ _
   | exact ih9 _ _ _ _ _ _ _
   | exact impl_BlendAmounts.mono _ _ _ _ _ _ _
   | exact impl_ThinShare.mono _ _ _ _
   | exact impl_TimesToThin.mono _ _ _ _ _
   | exact spec_BlendAmounts.mono _ _ _ _ _ _ _
   | exact spec_DrawBlendAmounts.mono _ _
   | exact spec_DrawTimesToThin.mono _ _
   | exact spec_ThinShare.mono _ _ _ _
   | exact spec_TimesToThin.mono _ _ _ _ _
   | exact LeO.none _
   | refine LeO.ite ?_ ?_
   | refine LeO.bind ?_ (fun _ => ?_)
  ·intro y0 y1 y2 y3 y4 y5 y6 y7
   unfold laws_FnThinnedAndBlended.j1
   repeat' first
   | (with_reducible exact ih0 _ _ _ _ _ _ _ _)
   | (with_reducible exact ih1 _ _ _ _ _ _ _ _)
   | (with_reducible exact ih2 _ _ _ _ _)
   | (with_reducible exact ih3 _ _)
   | (with_reducible exact ih4 _ _ _ _ _ _ _ _)
   | (with_reducible exact ih5 _)
   | (with_reducible exact ih6 _ _ _ _ _ _ _ _ _ _)
   | (with_reducible exact ih7 _ _ _ _ _ _ _ _ _)
   | (with_reducible exact ih8 _ _ _ _ _ _ _ _ _)
   | (with_reducible exact ih9 _ _ _ _ _ _ _)
   | (with_reducible exact impl_BlendAmounts.mono _ _ _ _ _ _ _)
   | (with_reducible exact impl_ThinShare.mono _ _ _ _)
   | (with_reducible exact impl_TimesToThin.mono _ _ _ _ _)
   | (with_reducible exact spec_BlendAmounts.mono _ _ _ _ _ _ _)
   | (with_reducible exact spec_DrawBlendAmounts.mono _ _)
   | (with_reducible exact spec_DrawTimesToThin.mono _ _)
   | (with_reducible exact spec_ThinShare.mono _ _ _ _)
   | (with_reducible exact spec_TimesToThin.mono _ _ _ _ _)
   | (with_reducible exact LeO.refl _)
   | (with_reducible exact LeO.none _)
   | (with_reducible refine LeO.ite ?_ ?_)
   | (with_reducible refine LeO.bind ?_ (fun _ => ?_))
   | exact ih0 _ _ _ _ _ _ _ _
   | exact ih1 _ _ _ _ _ _ _ _
   | exact ih2 _ _ _ _ _
   | exact ih3 _ _
   | exact ih4 _ _ _ _ _ _ _ _
   | exact ih5 _
   | exact ih6 _ _ _ _ _ _ _ _ _ _
   | exact ih7 _ _ _ _ _ _ _ _ _
   | exact ih8 _ _ _ _ _ _ _ _ _
   | exact ih9 _ _ _ _ _ _ _
   | exact impl_BlendAmounts.mono _ _ _ _ _ _ _
   | exact impl_ThinShare.mono _ _ _ _
   | exact impl_TimesToThin.mono _ _ _ _ _
   | exact spec_BlendAmounts.mono _ _ _ _ _ _ _
   | exact spec_DrawBlendAmounts.mono _ _
   | exact spec_DrawTimesToThin.mono _ _
   | exact spec_ThinShare.mono _ _ _ _
   | exact spec_TimesToThin.mono _ _ _ _ _
   | exact LeO.none _
   | refine LeO.ite ?_ ?_
   | refine LeO.bind ?_ (fun _ => ?_)
  ·intro y0 y1 y2 y3 y4
   unfold laws_FnThinnedAndBlended.j2
   repeat' first
   | (with_reducible exact ih0 _ _ _ _ _ _ _ _)
   | (with_reducible exact ih1 _ _ _ _ _ _ _ _)
   | (with_reducible exact ih2 _ _ _ _ _)
   | (with_reducible exact ih3 _ _)
   | (with_reducible exact ih4 _ _ _ _ _ _ _ _)
   | (with_reducible exact ih5 _)
   | (with_reducible exact ih6 _ _ _ _ _ _ _ _ _ _)
   | (with_reducible exact ih7 _ _ _ _ _ _ _ _ _)
   | (with_reducible exact ih8 _ _ _ _ _ _ _ _ _)
   | (with_reducible exact ih9 _ _ _ _ _ _ _)
   | (with_reducible exact impl_BlendAmounts.mono _ _ _ _ _ _ _)
   | (with_reducible exact impl_ThinShare.mono _ _ _ _)
   | (with_reducible exact impl_TimesToThin.mono _ _ _ _ _)
   | (with_reducible exact spec_BlendAmounts.mono _ _ _ _ _ _ _)
   | (with_reducible exact spec_DrawBlendAmounts.mono _ _)
   | (with_reducible exact spec_DrawTimesToThin.mono _ _)
   | (with_reducible exact spec_ThinShare.mono _ _ _ _)
   | (with_reducible exact spec_TimesToThin.mono _ _ _ _ _)
   | (with_reducible exact LeO.refl _)
   | (with_reducible exact LeO.none _)
   | (with_reducible refine LeO.ite ?_ ?_)
   | (with_reducible refine LeO.bind ?_ (fun _ => ?_))
   | exact ih0 _ _ _ _ _ _ _ _
   | exact ih1 _ _ _ _ _ _ _ _
   | exact ih2 _ _ _ _ _
   | exact ih3 _ _
   | exact ih4 _ _ _ _ _ _ _ _
   | exact ih5 _
   | exact ih6 _ _ _ _ _ _ _ _ _ _
   | exact ih7 _ _ _ _ _ _ _ _ _
   | exact ih8 _ _ _ _ _ _ _ _ _
   | exact ih9 _ _ _ _ _ _ _
   | exact impl_BlendAmounts.mono _ _ _ _ _ _ _
   | exact impl_ThinShare.mono _ _ _ _
   | exact impl_TimesToThin.mono _ _ _ _ _
   | exact spec_BlendAmounts.mono _ _ _ _ _ _ _
   | exact spec_DrawBlendAmounts.mono _ _
   | exact spec_DrawTimesToThin.mono _ _
   | exact spec_ThinShare.mono _ _ _ _
   | exact spec_TimesToThin.mono _ _ _ _ _
   | exact LeO.none _
   | refine LeO.ite ?_ ?_
   | refine LeO.bind ?_ (fun _ => ?_)
  ·intro y0 y1
   unfold laws_FnThinnedAndBlended.j3
   repeat' first
   | (with_reducible exact ih0 _ _ _ _ _ _ _ _)
   | (with_reducible exact ih1 _ _ _ _ _ _ _ _)
   | (with_reducible exact ih2 _ _ _ _ _)
   | (with_reducible exact ih3 _ _)
   | (with_reducible exact ih4 _ _ _ _ _ _ _ _)
   | (with_reducible exact ih5 _)
   | (with_reducible exact ih6 _ _ _ _ _ _ _ _ _ _)
   | (with_reducible exact ih7 _ _ _ _ _ _ _ _ _)
   | (with_reducible exact ih8 _ _ _ _ _ _ _ _ _)
   | (with_reducible exact ih9 _ _ _ _ _ _ _)
   | (with_reducible exact impl_BlendAmounts.mono _ _ _ _ _ _ _)
   | (with_reducible exact impl_ThinShare.mono _ _ _ _)
   | (with_reducible exact impl_TimesToThin.mono _ _ _ _ _)
   | (with_reducible exact spec_BlendAmounts.mono _ _ _ _ _ _ _)
   | (with_reducible exact spec_DrawBlendAmounts.mono _ _)
   | (with_reducible exact spec_DrawTimesToThin.mono _ _)
   | (with_reducible exact spec_ThinShare.mono _ _ _ _)
   | (with_reducible exact spec_TimesToThin.mono _ _ _ _ _)
   | (with_reducible exact LeO.refl _)
   | (with_reducible exact LeO.none _)
   | (with_reducible refine LeO.ite ?_ ?_)
   | (with_reducible refine LeO.bind ?_ (fun _ => ?_))
   | exact ih0 _ _ _ _ _ _ _ _
   | exact ih1 _ _ _ _ _ _ _ _
   | exact ih2 _ _ _ _ _
   | exact ih3 _ _
   | exact ih4 _ _ _ _ _ _ _ _
   | exact ih5 _
   | exact ih6 _ _ _ _ _ _ _ _ _ _
   | exact ih7 _ _ _ _ _ _ _ _ _
   | exact ih8 _ _ _ _ _ _ _ _ _
   | exact ih9 _ _ _ _ _ _ _
   | exact impl_BlendAmounts.mono _ _ _ _ _ _ _
   | exact impl_ThinShare.mono _ _ _ _
   | exact impl_TimesToThin.mono _ _ _ _ _
   | exact spec_BlendAmounts.mono _ _ _ _ _ _ _
   | exact spec_DrawBlendAmounts.mono _ _
   | exact spec_DrawTimesToThin.mono _ _
   | exact spec_ThinShare.mono _ _ _ _
   | exact spec_TimesToThin.mono _ _ _ _ _
   | exact LeO.none _
   | refine LeO.ite ?_ ?_
   | refine LeO.bind ?_ (fun _ => ?_)
  ·intro y0 y1 y2 y3 y4 y5 y6 y7
   unfold laws_FnThinnedAndBlended.j4
   repeat' first
   | (with_reducible exact ih0 _ _ _ _ _ _ _ _)
   | (with_reducible exact ih1 _ _ _ _ _ _ _ _)
   | (with_reducible exact ih2 _ _ _ _ _)
   | (with_reducible exact ih3 _ _)
   | (with_reducible exact ih4 _ _ _ _ _ _ _ _)
   | (with_reducible exact ih5 _)
   | (with_reducible exact ih6 _ _ _ _ _ _ _ _ _ _)
   | (with_reducible exact ih7 _ _ _ _ _ _ _ _ _)
   | (with_reducible exact ih8 _ _ _ _ _ _ _ _ _)
   | (with_reducible exact ih9 _ _ _ _ _ _ _)
   | (with_reducible exact impl_BlendAmounts.mono _ _ _ _ _ _ _)
   | (with_reducible exact impl_ThinShare.mono _ _ _ _)
   | (with_reducible exact impl_TimesToThin.mono _ _ _ _ _)
   | (with_reducible exact spec_BlendAmounts.mono _ _ _ _ _ _ _)
   | (with_reducible exact spec_DrawBlendAmounts.mono _ _)
   | (with_reducible exact spec_DrawTimesToThin.mono _ _)
   | (with_reducible exact spec_ThinShare.mono _ _ _ _)
   | (with_reducible exact spec_TimesToThin.mono _ _ _ _ _)
   | (with_reducible exact LeO.refl _)
   | (with_reducible exact LeO.none _)
   | (with_reducible refine LeO.ite ?_ ?_)
   | (with_reducible refine LeO.bind ?_ (fun _ => ?_))
   | exact ih0 _ _ _ _ _ _ _ _
   | exact ih1 _ _ _ _ _ _ _ _
   | exact ih2 _ _ _ _ _
   | exact ih3 _ _
   | exact ih4 _ _ _ _ _ _ _ _
   | exact ih5 _
   | exact ih6 _ _ _ _ _ _ _ _ _ _
   | exact ih7 _ _ _ _ _ _ _ _ _
   | exact ih8 _ _ _ _ _ _ _ _ _
   | exact ih9 _ _ _ _ _ _ _
   | exact impl_BlendAmounts.mono _ _ _ _ _ _ _
   | exact impl_ThinShare.mono _ _ _ _
   | exact impl_TimesToThin.mono _ _ _ _ _
   | exact spec_BlendAmounts.mono _ _ _ _ _ _ _
   | exact spec_DrawBlendAmounts.mono _ _
   | exact spec_DrawTimesToThin.mono _ _
   | exact spec_ThinShare.mono _ _ _ _
   | exact spec_TimesToThin.mono _ _ _ _ _
   | exact LeO.none _
   | refine LeO.ite ?_ ?_
   | refine LeO.bind ?_ (fun _ => ?_)
  ·intro y0
   unfold laws_FnThinnedAndBlended.j6
   repeat' first
   | (with_reducible exact ih0 _ _ _ _ _ _ _ _)
   | (with_reducible exact ih1 _ _ _ _ _ _ _ _)
   | (with_reducible exact ih2 _ _ _ _ _)
   | (with_reducible exact ih3 _ _)
   | (with_reducible exact ih4 _ _ _ _ _ _ _ _)
   | (with_reducible exact ih5 _)
   | (with_reducible exact ih6 _ _ _ _ _ _ _ _ _ _)
   | (with_reducible exact ih7 _ _ _ _ _ _ _ _ _)
   | (with_reducible exact ih8 _ _ _ _ _ _ _ _ _)
   | (with_reducible exact ih9 _ _ _ _ _ _ _)
   | (with_reducible exact impl_BlendAmounts.mono _ _ _ _ _ _ _)
   | (with_reducible exact impl_ThinShare.mono _ _ _ _)
   | (with_reducible exact impl_TimesToThin.mono _ _ _ _ _)
   | (with_reducible exact spec_BlendAmounts.mono _ _ _ _ _ _ _)
   | (with_reducible exact spec_DrawBlendAmounts.mono _ _)
   | (with_reducible exact spec_DrawTimesToThin.mono _ _)
   | (with_reducible exact spec_ThinShare.mono _ _ _ _)
   | (with_reducible exact spec_TimesToThin.mono _ _ _ _ _)
   | (with_reducible exact LeO.refl _)
   | (with_reducible exact LeO.none _)
   | (with_reducible refine LeO.ite ?_ ?_)
   | (with_reducible refine LeO.bind ?_ (fun _ => ?_))
   | exact ih0 _ _ _ _ _ _ _ _
   | exact ih1 _ _ _ _ _ _ _ _
   | exact ih2 _ _ _ _ _
   | exact ih3 _ _
   | exact ih4 _ _ _ _ _ _ _ _
   | exact ih5 _
   | exact ih6 _ _ _ _ _ _ _ _ _ _
   | exact ih7 _ _ _ _ _ _ _ _ _
   | exact ih8 _ _ _ _ _ _ _ _ _
   | exact ih9 _ _ _ _ _ _ _
   | exact impl_BlendAmounts.mono _ _ _ _ _ _ _
   | exact impl_ThinShare.mono _ _ _ _
   | exact impl_TimesToThin.mono _ _ _ _ _
   | exact spec_BlendAmounts.mono _ _ _ _ _ _ _
   | exact spec_DrawBlendAmounts.mono _ _
   | exact spec_DrawTimesToThin.mono _ _
   | exact spec_ThinShare.mono _ _ _ _
   | exact spec_TimesToThin.mono _ _ _ _ _
   | exact LeO.none _
   | refine LeO.ite ?_ ?_
   | refine LeO.bind ?_ (fun _ => ?_)
  ·intro y0 y1 y2 y3 y4 y5 y6 y7 y8 y9
   unfold laws_FnThinnedAndBlended.j7
   repeat' first
   | (with_reducible exact ih0 _ _ _ _ _ _ _ _)
   | (with_reducible exact ih1 _ _ _ _ _ _ _ _)
   | (with_reducible exact ih2 _ _ _ _ _)
   | (with_reducible exact ih3 _ _)
   | (with_reducible exact ih4 _ _ _ _ _ _ _ _)
   | (with_reducible exact ih5 _)
   | (with_reducible exact ih6 _ _ _ _ _ _ _ _ _ _)
   | (with_reducible exact ih7 _ _ _ _ _ _ _ _ _)
   | (with_reducible exact ih8 _ _ _ _ _ _ _ _ _)
   | (with_reducible exact ih9 _ _ _ _ _ _ _)
   | (with_reducible exact impl_BlendAmounts.mono _ _ _ _ _ _ _)
   | (with_reducible exact impl_ThinShare.mono _ _ _ _)
   | (with_reducible exact impl_TimesToThin.mono _ _ _ _ _)
   | (with_reducible exact spec_BlendAmounts.mono _ _ _ _ _ _ _)
   | (with_reducible exact spec_DrawBlendAmounts.mono _ _)
   | (with_reducible exact spec_DrawTimesToThin.mono _ _)
   | (with_reducible exact spec_ThinShare.mono _ _ _ _)
   | (with_reducible exact spec_TimesToThin.mono _ _ _ _ _)
   | (with_reducible exact LeO.refl _)
   | (with_reducible exact LeO.none _)
   | (with_reducible refine LeO.ite ?_ ?_)
   | (with_reducible refine LeO.bind ?_ (fun _ => ?_))
   | exact ih0 _ _ _ _ _ _ _ _
   | exact ih1 _ _ _ _ _ _ _ _
   | exact ih2 _ _ _ _ _
   | exact ih3 _ _
   | exact ih4 _ _ _ _ _ _ _ _
   | exact ih5 _
   | exact ih6 _ _ _ _ _ _ _ _ _ _
   | exact ih7 _ _ _ _ _ _ _ _ _
   | exact ih8 _ _ _ _ _ _ _ _ _
   | exact ih9 _ _ _ _ _ _ _
   | exact impl_BlendAmounts.mono _ _ _ _ _ _ _
   | exact impl_ThinShare.mono _ _ _ _
   | exact impl_TimesToThin.mono _ _ _ _ _
   | exact spec_BlendAmounts.mono _ _ _ _ _ _ _
   | exact spec_DrawBlendAmounts.mono _ _
   | exact spec_DrawTimesToThin.mono _ _
   | exact spec_ThinShare.mono _ _ _ _
   | exact spec_TimesToThin.mono _ _ _ _ _
   | exact LeO.none _
   | refine LeO.ite ?_ ?_
   | refine LeO.bind ?_ (fun _ => ?_)
  ·intro y0 y1 y2 y3 y4 y5 y6 y7 y8
   unfold laws_FnThinnedAndBlended.j8
   repeat' first
   | (with_reducible exact ih0 _ _ _ _ _ _ _ _)
   | (with_reducible exact ih1 _ _ _ _ _ _ _ _)
   | (with_reducible exact ih2 _ _ _ _ _)
   | (with_reducible exact ih3 _ _)
   | (with_reducible exact ih4 _ _ _ _ _ _ _ _)
   | (with_reducible exact ih5 _)
   | (with_reducible exact ih6 _ _ _ _ _ _ _ _ _ _)
   | (with_reducible exact ih7 _ _ _ _ _ _ _ _ _)
   | (with_reducible exact ih8 _ _ _ _ _ _ _ _ _)
   | (with_reducible exact ih9 _ _ _ _ _ _ _)
   | (with_reducible exact impl_BlendAmounts.mono _ _ _ _ _ _ _)
   | (with_reducible exact impl_ThinShare.mono _ _ _ _)
   | (with_reducible exact impl_TimesToThin.mono _ _ _ _ _)
   | (with_reducible exact spec_BlendAmounts.mono _ _ _ _ _ _ _)
   | (with_reducible exact spec_DrawBlendAmounts.mono _ _)
   | (with_reducible exact spec_DrawTimesToThin.mono _ _)
   | (with_reducible exact spec_ThinShare.mono _ _ _ _)
   | (with_reducible exact spec_TimesToThin.mono _ _ _ _ _)
   | (with_reducible exact LeO.refl _)
   | (with_reducible exact LeO.none _)
   | (with_reducible refine LeO.ite ?_ ?_)
   | (with_reducible refine LeO.bind ?_ (fun _ => ?_))
   | exact ih0 _ _ _ _ _ _ _ _
   | exact ih1 _ _ _ _ _ _ _ _
   | exact ih2 _ _ _ _ _
   | exact ih3 _ _
   | exact ih4 _ _ _ _ _ _ _ _
   | exact ih5 _
   | exact ih6 _ _ _ _ _ _ _ _ _ _
   | exact ih7 _ _ _ _ _ _ _ _ _
   | exact ih8 _ _ _ _ _ _ _ _ _
   | exact ih9 _ _ _ _ _ _ _
   | exact impl_BlendAmounts.mono _ _ _ _ _ _ _
   | exact impl_ThinShare.mono _ _ _ _
   | exact impl_TimesToThin.mono _ _ _ _ _
   | exact spec_BlendAmounts.mono _ _ _ _ _ _ _
   | exact spec_DrawBlendAmounts.mono _ _
   | exact spec_DrawTimesToThin.mono _ _
   | exact spec_ThinShare.mono _ _ _ _
   | exact spec_TimesToThin.mono _ _ _ _ _
   | exact LeO.none _
   | refine LeO.ite ?_ ?_
   | refine LeO.bind ?_ (fun _ => ?_)
  ·intro y0 y1 y2 y3 y4 y5 y6 y7 y8
   unfold laws_FnThinnedAndBlended.j9
   repeat' first
   | (with_reducible exact ih0 _ _ _ _ _ _ _ _)
   | (with_reducible exact ih1 _ _ _ _ _ _ _ _)
   | (with_reducible exact ih2 _ _ _ _ _)
   | (with_reducible exact ih3 _ _)
   | (with_reducible exact ih4 _ _ _ _ _ _ _ _)
   | (with_reducible exact ih5 _)
   | (with_reducible exact ih6 _ _ _ _ _ _ _ _ _ _)
   | (with_reducible exact ih7 _ _ _ _ _ _ _ _ _)
   | (with_reducible exact ih8 _ _ _ _ _ _ _ _ _)
   | (with_reducible exact ih9 _ _ _ _ _ _ _)
   | (with_reducible exact impl_BlendAmounts.mono _ _ _ _ _ _ _)
   | (with_reducible exact impl_ThinShare.mono _ _ _ _)
   | (with_reducible exact impl_TimesToThin.mono _ _ _ _ _)
   | (with_reducible exact spec_BlendAmounts.mono _ _ _ _ _ _ _)
   | (with_reducible exact spec_DrawBlendAmounts.mono _ _)
   | (with_reducible exact spec_DrawTimesToThin.mono _ _)
   | (with_reducible exact spec_ThinShare.mono _ _ _ _)
   | (with_reducible exact spec_TimesToThin.mono _ _ _ _ _)
   | (with_reducible exact LeO.refl _)
   | (with_reducible exact LeO.none _)
   | (with_reducible refine LeO.ite ?_ ?_)
   | (with_reducible refine LeO.bind ?_ (fun _ => ?_))
   | exact ih0 _ _ _ _ _ _ _ _
   | exact ih1 _ _ _ _ _ _ _ _
   | exact ih2 _ _ _ _ _
   | exact ih3 _ _
   | exact ih4 _ _ _ _ _ _ _ _
   | exact ih5 _
   | exact ih6 _ _ _ _ _ _ _ _ _ _
   | exact ih7 _ _ _ _ _ _ _ _ _
   | exact ih8 _ _ _ _ _ _ _ _ _
   | exact ih9 _ _ _ _ _ _ _
   | exact impl_BlendAmounts.mono _ _ _ _ _ _ _
   | exact impl_ThinShare.mono _ _ _ _
   | exact impl_TimesToThin.mono _ _ _ _ _
   | exact spec_BlendAmounts.mono _ _ _ _ _ _ _
   | exact spec_DrawBlendAmounts.mono _ _
   | exact spec_DrawTimesToThin.mono _ _
   | exact spec_ThinShare.mono _ _ _ _
   | exact spec_TimesToThin.mono _ _ _ _ _
   | exact LeO.none _
   | refine LeO.ite ?_ ?_
   | refine LeO.bind ?_ (fun _ => ?_)
  ·intro y0 y1 y2 y3 y4 y5 y6
   unfold laws_FnThinnedAndBlended.j5
   repeat' first
   | (with_reducible exact ih0 _ _ _ _ _ _ _ _)
   | (with_reducible exact ih1 _ _ _ _ _ _ _ _)
   | (with_reducible exact ih2 _ _ _ _ _)
   | (with_reducible exact ih3 _ _)
   | (with_reducible exact ih4 _ _ _ _ _ _ _ _)
   | (with_reducible exact ih5 _)
   | (with_reducible exact ih6 _ _ _ _ _ _ _ _ _ _)
   | (with_reducible exact ih7 _ _ _ _ _ _ _ _ _)
   | (with_reducible exact ih8 _ _ _ _ _ _ _ _ _)
   | (with_reducible exact ih9 _ _ _ _ _ _ _)
   | (with_reducible exact impl_BlendAmounts.mono _ _ _ _ _ _ _)
   | (with_reducible exact impl_ThinShare.mono _ _ _ _)
   | (with_reducible exact impl_TimesToThin.mono _ _ _ _ _)
   | (with_reducible exact spec_BlendAmounts.mono _ _ _ _ _ _ _)
   | (with_reducible exact spec_DrawBlendAmounts.mono _ _)
   | (with_reducible exact spec_DrawTimesToThin.mono _ _)
   | (with_reducible exact spec_ThinShare.mono _ _ _ _)
   | (with_reducible exact spec_TimesToThin.mono _ _ _ _ _)
   | (with_reducible exact LeO.refl _)
   | (with_reducible exact LeO.none _)
   | (with_reducible refine LeO.ite ?_ ?_)
   | (with_reducible refine LeO.bind ?_ (fun _ => ?_))
   | exact ih0 _ _ _ _ _ _ _ _
   | exact ih1 _ _ _ _ _ _ _ _
   | exact ih2 _ _ _ _ _
   | exact ih3 _ _
   | exact ih4 _ _ _ _ _ _ _ _
   | exact ih5 _
   | exact ih6 _ _ _ _ _ _ _ _ _ _
   | exact ih7 _ _ _ _ _ _ _ _ _
   | exact ih8 _ _ _ _ _ _ _ _ _
   | exact ih9 _ _ _ _ _ _ _
   | exact impl_BlendAmounts.mono _ _ _ _ _ _ _
   | exact impl_ThinShare.mono _ _ _ _
   | exact impl_TimesToThin.mono _ _ _ _ _
   | exact spec_BlendAmounts.mono _ _ _ _ _ _ _
   | exact spec_DrawBlendAmounts.mono _ _
   | exact spec_DrawTimesToThin.mono _ _
   | exact spec_ThinShare.mono _ _ _ _
   | exact spec_TimesToThin.mono _ _ _ _ _
   | exact LeO.none _
   | refine LeO.ite ?_ ?_
   | refine LeO.bind ?_ (fun _ => ?_)
theorem laws_FnThinnedAndBlended.mono : ∀ a0 a1 k, LeO (laws_FnThinnedAndBlended.f k a0 a1) (laws_FnThinnedAndBlended.f (k + 1) a0 a1) := by
 intro a0 a1 k
 obtain ⟨ih0, ih1, ih2, ih3, ih4, ih5, ih6, ih7, ih8, ih9⟩ := laws_FnThinnedAndBlended.mono_l k
 unfold laws_FnThinnedAndBlended.f
 repeat' first
   | (with_reducible exact ih0 _ _ _ _ _ _ _ _)
   | (with_reducible exact ih1 _ _ _ _ _ _ _ _)
   | (with_reducible exact ih2 _ _ _ _ _)
   | (with_reducible exact ih3 _ _)
   | (with_reducible exact ih4 _ _ _ _ _ _ _ _)
   | (with_reducible exact ih5 _)
   | (with_reducible exact ih6 _ _ _ _ _ _ _ _ _ _)
   | (with_reducible exact ih7 _ _ _ _ _ _ _ _ _)
   | (with_reducible exact ih8 _ _ _ _ _ _ _ _ _)
   | (with_reducible exact ih9 _ _ _ _ _ _ _)
   | (with_reducible exact impl_BlendAmounts.mono _ _ _ _ _ _ _)
   | (with_reducible exact impl_ThinShare.mono _ _ _ _)
   | (with_reducible exact impl_TimesToThin.mono _ _ _ _ _)
   | (with_reducible exact spec_BlendAmounts.mono _ _ _ _ _ _ _)
   | (with_reducible exact spec_DrawBlendAmounts.mono _ _)
   | (with_reducible exact spec_DrawTimesToThin.mono _ _)
   | (with_reducible exact spec_ThinShare.mono _ _ _ _)
   | (with_reducible exact spec_TimesToThin.mono _ _ _ _ _)
   | (with_reducible exact LeO.refl _)
   | (with_reducible exact LeO.none _)
   | (with_reducible refine LeO.ite ?_ ?_)
   | (with_reducible refine LeO.bind ?_ (fun _ => ?_))
   | exact ih0 _ _ _ _ _ _ _ _
   | exact ih1 _ _ _ _ _ _ _ _
   | exact ih2 _ _ _ _ _
   | exact ih3 _ _
   | exact ih4 _ _ _ _ _ _ _ _
   | exact ih5 _
   | exact ih6 _ _ _ _ _ _ _ _ _ _
   | exact ih7 _ _ _ _ _ _ _ _ _
   | exact ih8 _ _ _ _ _ _ _ _ _
   | exact ih9 _ _ _ _ _ _ _
   | exact impl_BlendAmounts.mono _ _ _ _ _ _ _
   | exact impl_ThinShare.mono _ _ _ _
   | exact impl_TimesToThin.mono _ _ _ _ _
   | exact spec_BlendAmounts.mono _ _ _ _ _ _ _
   | exact spec_DrawBlendAmounts.mono _ _
   | exact spec_DrawTimesToThin.mono _ _
   | exact spec_ThinShare.mono _ _ _ _
   | exact spec_TimesToThin.mono _ _ _ _ _
   | exact LeO.none _
   | refine LeO.ite ?_ ?_
   | refine LeO.bind ?_ (fun _ => ?_)
set_option maxHeartbeats 80000000 in
set_option maxRecDepth 100000 in
theorem laws_FnThinnedAndBlended.calls (k : Nat) (A0 : Option Addr) (c0 : Nat) (l0 : List Int) (A1 : Option Addr) (c1 : Nat) (l1 : List Int) (r : Bool) (w : World) (hr0 : Kd.C (Kd.int .u8) w A0 l0.length l0) (hc0 : l0.length ≤ c0) (hr1 : Kd.C (Kd.int .u8) w A1 l1.length l1) (hc1 : l1.length ≤ c1) (hrt : Aside0 (r = true)) (h : laws_FnThinnedAndBlended.f k l0 l1 = some r) :
  Calls Try.prog 6 #[.slice A0 l0.length c0, .slice A1 l1.length c1] w fun e w' => e = .returned (.bool r) ∧ Below w.heap.size w w' := by
 have hu78 := Try.underlying78
 have HR0 := Aside0.mk hr0
 have HC0 := Aside0.mk hc0
 clear hr0 hc0
 have HR1 := Aside0.mk hr1
 have HC1 := Aside0.mk hc1
 clear hr1 hc1
 have HB := Aside0.mk (Below.refl w.heap.size w)
 have H : ((laws_big.f l0 l1).bind fun t339 => (if t339 = true then (some true) else ((spec_DrawThinShare.f l0).bind fun bt340 => ((impl_ThinShare.f k bt340.1 bt340.2.1 bt340.2.2).bind fun bt343 => ((spec_ThinShare.f k bt340.1 bt340.2.1 bt340.2.2).bind fun bt347 => (if (bt343.2.2 != bt347.2.2) = true then (laws_FnThinnedAndBlended.j0 k l1 bt340.1 bt340.2.1 bt340.2.2 bt343.2.2 true bt343.1 bt343.2.1) else (laws_FnThinnedAndBlended.j0 k l1 bt340.1 bt340.2.1 bt340.2.2 bt343.2.2 (!(bt343.1 == bt347.1) || (!(bt343.2.1 == bt347.2.1))) bt343.1 bt343.2.1))))))) = some r := h
 clear h
 replace H := Option.bind_eq_some_iff.mp H
 obtain ⟨t339, A30, H⟩ := H
 replace H : (if t339 = true then (some true) else ((spec_DrawThinShare.f l0).bind fun bt340 => ((impl_ThinShare.f k bt340.1 bt340.2.1 bt340.2.2).bind fun bt343 => ((spec_ThinShare.f k bt340.1 bt340.2.1 bt340.2.2).bind fun bt347 => (if (bt343.2.2 != bt347.2.2) = true then (laws_FnThinnedAndBlended.j0 k l1 bt340.1 bt340.2.1 bt340.2.2 bt343.2.2 true bt343.1 bt343.2.1) else (laws_FnThinnedAndBlended.j0 k l1 bt340.1 bt340.2.1 bt340.2.2 bt343.2.2 (!(bt343.1 == bt347.1) || (!(bt343.2.1 == bt347.2.1))) bt343.1 bt343.2.1)))))) = some r := H
 have A3 := Aside0.mk A30
 clear A30
 by_cases c4 : t339 = true
 ·subst c4
  have H1 : (some true) = some r := by rw [if_pos rfl] at H; exact H
  clear H
  have H := H1
  clear H1
  obtain rfl := Option.some.inj H
  go_enter Try.func6, Try.ntmps6
  go_wp2_with (first | ((with_reducible refine gate_callee (f := 10) rfl ?_); refine gl 39 Try.func10 #[.slice A0 l0.length c0, .slice A1 l1.length c1] ?_; (with_reducible refine (laws_big.calls _ _ l0 _ _ l1 true _ ?side1 ?side2 ?side3 ?side4 A3.out).mono ?_); (case side1 => repeat (first | exact HR0.out | (with_reducible refine Kd.C_alloc ?_ _) | (with_reducible refine Kd.C_drewN ?_ _) | (with_reducible refine Kd.C_drew ?_))); (case side2 => exact HC0.out); (case side3 => repeat (first | exact HR1.out | (with_reducible refine Kd.C_alloc ?_ _) | (with_reducible refine Kd.C_drewN ?_ _) | (with_reducible refine Kd.C_drew ?_))); (case side4 => exact HC1.out); rintro e w' ⟨rfl, ⟨nd, rfl⟩⟩; refine ⟨_, rfl, ?_⟩))
  go_ret
  exact ⟨by first | rfl | (simp [errW_none, errW_some] <;> rfl) | (simp [*, errW_none, errW_some] <;> rfl), bw HB⟩
 replace c4 := Bool.eq_false_iff.mpr c4
 subst c4
 have H1 : ((spec_DrawThinShare.f l0).bind fun bt340 => ((impl_ThinShare.f k bt340.1 bt340.2.1 bt340.2.2).bind fun bt343 => ((spec_ThinShare.f k bt340.1 bt340.2.1 bt340.2.2).bind fun bt347 => (if (bt343.2.2 != bt347.2.2) = true then (laws_FnThinnedAndBlended.j0 k l1 bt340.1 bt340.2.1 bt340.2.2 bt343.2.2 true bt343.1 bt343.2.1) else (laws_FnThinnedAndBlended.j0 k l1 bt340.1 bt340.2.1 bt340.2.2 bt343.2.2 (!(bt343.1 == bt347.1) || (!(bt343.2.1 == bt347.2.1))) bt343.1 bt343.2.1))))) = some r := by rw [if_neg (show ¬ (false = true) by decide)] at H; exact H
 clear H
 have H := H1
 clear H1
 replace H := Option.bind_eq_some_iff.mp H
 obtain ⟨⟨t340, t341, t342⟩, A50, H⟩ := H
 replace H : ((impl_ThinShare.f k t340 t341 t342).bind fun bt343 => ((spec_ThinShare.f k t340 t341 t342).bind fun bt347 => (if (bt343.2.2 != bt347.2.2) = true then (laws_FnThinnedAndBlended.j0 k l1 t340 t341 t342 bt343.2.2 true bt343.1 bt343.2.1) else (laws_FnThinnedAndBlended.j0 k l1 t340 t341 t342 bt343.2.2 (!(bt343.1 == bt347.1) || (!(bt343.2.1 == bt347.2.1))) bt343.1 bt343.2.1)))) = some r := H
 have A5 := Aside0.mk A50
 clear A50
 replace H := Option.bind_eq_some_iff.mp H
 obtain ⟨⟨t343, t344, t345⟩, A60, H⟩ := H
 replace H : ((spec_ThinShare.f k t340 t341 t342).bind fun bt347 => (if (t345 != bt347.2.2) = true then (laws_FnThinnedAndBlended.j0 k l1 t340 t341 t342 t345 true t343 t344) else (laws_FnThinnedAndBlended.j0 k l1 t340 t341 t342 t345 (!(t343 == bt347.1) || (!(t344 == bt347.2.1))) t343 t344))) = some r := H
 have A6 := Aside0.mk A60
 clear A60
 replace H := Option.bind_eq_some_iff.mp H
 obtain ⟨⟨t347, t348, t349⟩, A70, H⟩ := H
 replace H : (if (t345 != t349) = true then (laws_FnThinnedAndBlended.j0 k l1 t340 t341 t342 t345 true t343 t344) else (laws_FnThinnedAndBlended.j0 k l1 t340 t341 t342 t345 (!(t343 == t347) || (!(t344 == t348))) t343 t344)) = some r := H
 have A7 := Aside0.mk A70
 clear A70
 have HC8 := Aside0.mk H
 clear H
 go_enter Try.func6, Try.ntmps6
 go_upto_region 6 with (first | ((with_reducible refine gate_callee (f := 10) rfl ?_); refine gl 39 Try.func10 #[.slice A0 l0.length c0, .slice A1 l1.length c1] ?_; (with_reducible refine (laws_big.calls _ _ l0 _ _ l1 false _ ?side1 ?side2 ?side3 ?side4 A3.out).mono ?_); (case side1 => repeat (first | exact HR0.out | (with_reducible refine Kd.C_alloc ?_ _) | (with_reducible refine Kd.C_drewN ?_ _) | (with_reducible refine Kd.C_drew ?_))); (case side2 => exact HC0.out); (case side3 => repeat (first | exact HR1.out | (with_reducible refine Kd.C_alloc ?_ _) | (with_reducible refine Kd.C_drewN ?_ _) | (with_reducible refine Kd.C_drew ?_))); (case side4 => exact HC1.out); rintro e w' ⟨rfl, ⟨nd, rfl⟩⟩; refine ⟨_, rfl, ?_⟩) | ((with_reducible refine gate_callee (f := 70) rfl ?_); refine gl 42 Try.func70 #[.slice A0 l0.length c0] ?_; (with_reducible refine (spec_DrawThinShare.calls _ _ l0 t340 t341 t342 _ ?side1 ?side2 A5.out).mono ?_); (case side1 => repeat (first | exact HR0.out | (with_reducible refine Kd.C_alloc ?_ _) | (with_reducible refine Kd.C_drewN ?_ _) | (with_reducible refine Kd.C_drew ?_))); (case side2 => exact HC0.out); rintro e w9 ⟨rfl, hb⟩; refine ⟨_, rfl, ?_⟩; replace HB := bs HB hb; (try clear hb)) | ((with_reducible refine gate_callee (f := 71) rfl ?_); refine gl 50 Try.func71 #[.int .i64 t340, .int .i64 t341, .int .i64 t342] ?_; (with_reducible refine (impl_ThinShare.calls k t340 t341 t342 t343 t344 t345 _ A6.out).mono ?_); rintro e w10 ⟨rfl, hb⟩; refine ⟨_, rfl, ?_⟩; replace HB := bs HB hb; (try clear hb)) | ((with_reducible refine gate_dst (N := 8) rfl ?_); refine bx 8 #[.int .i64 0, .int .i64 0] 78 ?_; intro gb346 hg w11 hbox hb; have BK346 := Aside0.mk (hbox); have GW346 := ge HB hg; have GE346 := ge HB hg; replace HB := bs HB hb; clear hb hbox hg; have hcz12_0 := bc0 BK346; have hcz12_1 := bc1 BK346; have hfz12_0 := blk_frozen BK346.out 0; have hfz12_1 := blk_frozen BK346.out 1) | ((with_reducible refine gate_callee (f := 72) rfl ?_); refine gl 57 Try.func72 #[.int .i64 t340, .int .i64 t341, .int .i64 t342] ?_; (with_reducible refine (spec_ThinShare.calls k t340 t341 t342 t347 t348 t349 _ A7.out).mono ?_); rintro e w13 ⟨rfl, hb⟩; refine ⟨_, rfl, ?_⟩; replace BK346 := Aside0.mk (blk_below (g := gb346) (o := .cells #[.int .i64 t343, .int .i64 t344] 78 (0, 0)) (by (with_reducible repeat (first | refine blk_drewN ?_ _ | refine blk_drew ?_ | refine blk_alloc ?_ _)); refine blk_put (cs := #[.int .i64 t343, .int .i64 0]) ?_ 1 _ rfl; (with_reducible repeat (first | refine blk_drewN ?_ _ | refine blk_drew ?_ | refine blk_alloc ?_ _)); refine blk_put (cs := #[.int .i64 0, .int .i64 0]) ?_ 0 _ rfl; exact bk BK346) hb); replace HB := bs HB hb; (try clear hb)) | ((with_reducible refine gate_dst (N := 10) rfl ?_); refine bx 10 #[.int .i64 0, .int .i64 0] 78 ?_; intro gb350 hg w14 hbox hb; have BK350 := Aside0.mk (hbox); have GW350 := ge HB hg; have GE350 := ge HB hg; replace HB := bs HB hb; have NB346_350 := nl BK346 hg; have NB350_346 := nr BK346 hg; replace BK346 := bb BK346 hb; clear hb hbox hg; have hnb15 := NB350_346.out; have hnc15 := NB346_350.out; have hcz16_0 := bc0 BK350; have hcz16_1 := bc1 BK350; have hfz16_0 := blk_frozen BK350.out 0; have hfz16_1 := blk_frozen BK350.out 1))
 (try simp only [Act.put, List.setIfInBounds_toArray, List.set_cons_zero, List.set_cons_succ])
 refine cutF (rl [37, 305] false) (fun u_ wc => ∃ (kq : Nat) (x67_7 : Bool), (u_ 67) = .bool x67_7 ∧ Aside0 (laws_FnThinnedAndBlended.j0 kq l1 t340 t341 t342 t345 x67_7 t343 t344 = some r) ∧ Aside0 (kq ≤ k) ∧ Aside0 (wc.heap[gb346]? = some (.cells #[.int .i64 t343, .int .i64 t344] 78 (0, 0))) ∧ Aside0 (wc.heap[gb350]? = some (.cells #[.int .i64 t347, .int .i64 t348] 78 (0, 0))) ∧ Aside0 (Below w.heap.size w wc)) ?first1 ?rest1
 case first1 =>
  as_aux_lemma =>
   intro J_ K_ hJ_ hK_
   have H := HC8.out
   clear HC8
   by_cases c17 : (t345 != t349) = true
   ·rw [if_pos c17] at H
    have c17b0 : (t345 != t349) = true := c17
    (try (have c17b1 : decide (t345 = t349) = false := by simpa using c17))
    (try (have c17b2 : (t345 == t349) = false := by simpa using c17))
    (try (have c17b3 : ¬ (t345 = t349) := by simpa using c17))
    clear c17
    (first | rw [c17b0] | (simp only [i64_w, i32_w]; rw [c17b0]) | skip)
    exact absurd H (by rw [hrt.out]; cases k <;> simp [laws_FnThinnedAndBlended.j0])
   rw [if_neg c17] at H
   have c17b0 : (t345 != t349) = false := by simpa using c17
   (try (have c17b1 : decide (t345 = t349) = true := by simpa using c17))
   (try (have c17b2 : (t345 == t349) = true := by simpa using c17))
   clear c17
   (first | rw [c17b0] | (simp only [i64_w, i32_w]; rw [c17b0]) | skip)
   have H' := Aside0.mk H
   clear H
   have hnb18 := NB346_350.out
   have hnc18 := NB350_346.out
   have hcz19_0 := bc0 BK346
   have hcz19_1 := bc1 BK346
   have hfz19_0 := blk_frozen BK346.out 0
   have hfz19_1 := blk_frozen BK346.out 1
   have hcz20_0 := bc0 BK350
   have hcz20_1 := bc1 BK350
   have hfz20_0 := blk_frozen BK350.out 0
   have hfz20_1 := blk_frozen BK350.out 1
   go_wp2
   (refine Met.intro ?_; go_step; refine Cut_mk (by kernel_rfl) ?rel2)
   case rel2 => exact ⟨_, ((!(t343 == t347) || (!(t344 == t348)))), (by first | rfl | (simp; done) | (simp [*]; done)), H', ⟨by first | exact Nat.le_refl _ | (omega)⟩, ⟨bk BK346⟩, ⟨by (with_reducible repeat (first | refine blk_drewN ?_ _ | refine blk_drew ?_ | refine blk_alloc ?_ _)); refine blk_put (cs := #[.int .i64 t347, .int .i64 0]) ?_ 1 _ rfl; (with_reducible repeat (first | refine blk_drewN ?_ _ | refine blk_drew ?_ | refine blk_alloc ?_ _)); refine blk_put (cs := #[.int .i64 0, .int .i64 0]) ?_ 0 _ rfl; exact bk BK350⟩, ⟨bw HB⟩⟩
 case rest1 =>
   intro u_ wc hcut l_ hl_; (simp only [rl, List.reduceReplicate, List.cons_append, List.nil_append, List.append_nil, Bool.not_true, Bool.not_false, fu, Nat.reduceAdd] at hl_); subst hl_; generalize u_ 67 = v67 at hcut ⊢
   clear HC8
   try clear c1
   try clear c4
   try clear hcz12_0
   try clear hcz12_1
   try clear hcz16_0
   try clear hcz16_1
   try clear hfz12_0
   try clear hfz12_1
   try clear hfz16_0
   try clear hfz16_1
   obtain ⟨kq, x67_7, rfl, HA, HJ7, BK346, BK350, HB⟩ := hcut
   cases kq with
   | zero => exact absurd HA.out (by simp [laws_FnThinnedAndBlended.j0])
   | succ kj7 =>
    have H := HA.out
    clear HA
    simp only [laws_FnThinnedAndBlended.j0] at H
    by_cases c21 : x67_7 = true
    ·subst c21
     have H1 : (some false) = some r := by rw [if_pos rfl] at H; exact H
     clear H
     have H := H1
     clear H1
     exact absurd ((Option.some.inj H).trans hrt.out) (by decide)
    replace c21 := Bool.eq_false_iff.mpr c21
    subst c21
    have H1 : (if t345 = true then (laws_FnThinnedAndBlended.j1 kj7 l1 t340 t341 t342 t345 (decide (t342 > 0)) t343 t344) else (laws_FnThinnedAndBlended.j1 kj7 l1 t340 t341 t342 t345 false t343 t344)) = some r := by rw [if_neg (show ¬ (false = true) by decide)] at H; exact H
    clear H
    have H := H1
    clear H1
    have HC22 := Aside0.mk H
    clear H
    go_upto_region 8 with (fail)
    refine cutF (rl [37, 305] false) (fun u_ wc => ∃ (kq : Nat) (x72_21 : Bool), (u_ 72) = .bool x72_21 ∧ Aside0 (laws_FnThinnedAndBlended.j1 kq l1 t340 t341 t342 t345 x72_21 t343 t344 = some r) ∧ Aside0 (kq ≤ kj7) ∧ Aside0 (wc.heap[gb346]? = some (.cells #[.int .i64 t343, .int .i64 t344] 78 (0, 0))) ∧ Aside0 (wc.heap[gb350]? = some (.cells #[.int .i64 t347, .int .i64 t348] 78 (0, 0))) ∧ Aside0 (Below w.heap.size w wc)) ?first3 ?rest3
    case first3 =>
     as_aux_lemma =>
      intro J_ K_ hJ_ hK_
      have H := HC22.out
      clear HC22
      by_cases c23 : t345 = true
      ·subst c23
       have H1 : (laws_FnThinnedAndBlended.j1 kj7 l1 t340 t341 t342 true (decide (t342 > 0)) t343 t344) = some r := by rw [if_pos rfl] at H; exact H
       clear H
       have H := H1
       clear H1
       have H' := Aside0.mk H
       clear H
       go_wp2
       (refine Met.intro ?_; go_step; refine Cut_mk (by kernel_rfl) ?rel4)
       case rel4 => exact ⟨_, (decide (t342 > 0)), (by first | rfl | (simp; done) | (simp [*]; done)), H', ⟨by first | exact Nat.le_refl _ | exact Nat.le_of_succ_le HJ7.out | (have := HJ7.out; omega)⟩, ⟨bk BK346⟩, ⟨bk BK350⟩, ⟨bw HB⟩⟩
      replace c23 := Bool.eq_false_iff.mpr c23
      subst c23
      have H1 : (laws_FnThinnedAndBlended.j1 kj7 l1 t340 t341 t342 false false t343 t344) = some r := by rw [if_neg (show ¬ (false = true) by decide)] at H; exact H
      clear H
      have H := H1
      clear H1
      have H' := Aside0.mk H
      clear H
      go_wp2
      (refine Met.intro ?_; go_step; refine Cut_mk (by kernel_rfl) ?rel5)
      case rel5 => exact ⟨_, (false), (by first | rfl | (simp; done) | (simp [*]; done)), H', ⟨by first | exact Nat.le_refl _ | exact Nat.le_of_succ_le HJ7.out | (have := HJ7.out; omega)⟩, ⟨bk BK346⟩, ⟨bk BK350⟩, ⟨bw HB⟩⟩
    case rest3 =>
      intro u_ wc hcut l_ hl_; (simp only [rl, List.reduceReplicate, List.cons_append, List.nil_append, List.append_nil, Bool.not_true, Bool.not_false, fu, Nat.reduceAdd] at hl_); subst hl_; generalize u_ 72 = v72 at hcut ⊢
      clear HC22
      try clear c1
      try clear c4
      try clear c21
      try clear hcz12_0
      try clear hcz12_1
      try clear hcz16_0
      try clear hcz16_1
      try clear hfz12_0
      try clear hfz12_1
      try clear hfz16_0
      try clear hfz16_1
      obtain ⟨kq, x72_21, rfl, HA, HJ21, BK346, BK350, HB⟩ := hcut
      cases kq with
      | zero => exact absurd HA.out (by simp [laws_FnThinnedAndBlended.j1])
      | succ kj21 =>
       have H := HA.out
       clear HA
       simp only [laws_FnThinnedAndBlended.j1] at H
       have HC24 := Aside0.mk H
       clear H
       go_upto_if 72 with (fail)
       refine cutF (rl [4, 1, 7, 2, 23, 305] false) (fun u_ wc => ∃ (kq : Nat), Aside0 (laws_FnThinnedAndBlended.j2 kq l1 t342 t345 t343 t344 = some r) ∧ Aside0 (kq ≤ kj21) ∧ Aside0 (wc.heap[gb346]? = some (.cells #[.int .i64 t343, .int .i64 t344] 78 (0, 0))) ∧ Aside0 (wc.heap[gb350]? = some (.cells #[.int .i64 t347, .int .i64 t348] 78 (0, 0))) ∧ Aside0 (Below w.heap.size w wc)) ?first6 ?rest6
       case first6 =>
        as_aux_lemma =>
         intro J_ K_ hJ_ hK_
         have H := HC24.out
         clear HC24
         by_cases c25 : x72_21 = true
         rotate_left
         ·replace c25 := Bool.eq_false_iff.mpr c25
          subst c25
          have H1 : (laws_FnThinnedAndBlended.j2 kj21 l1 t342 t345 t343 t344) = some r := by rw [if_neg (show ¬ (false = true) by decide)] at H; exact H
          clear H
          have H := H1
          clear H1
          have H' := Aside0.mk H
          clear H
          go_wp2
          (refine Met.intro ?_; go_step; refine Cut_mk (by kernel_rfl) ?rel7)
          case rel7 => exact ⟨_, H', ⟨by first | exact Nat.le_refl _ | exact Nat.le_of_succ_le HJ21.out | exact Nat.le_of_succ_le (Nat.le_trans HJ21.out (Nat.le_of_succ_le HJ7.out)) | exact Nat.le_of_succ_le HJ7.out | (have := HJ7.out; have := HJ21.out; omega)⟩, ⟨bk BK346⟩, ⟨bk BK350⟩, ⟨bw HB⟩⟩
         subst c25
         have H1 : ((impl_ThinShare.f kj21 t340 t341 (wrap64 (t342 - 1))).bind fun bt351 => (if bt351.2.2 = true then (if (wrap64 ((wrap64 (t343 * bt351.2.1)) * t340)) = (wrap64 ((wrap64 (bt351.1 * t344)) * (wrap64 (t340 - t341)))) then (laws_FnThinnedAndBlended.j2 kj21 l1 t342 t345 t343 t344) else (some false)) else (laws_FnThinnedAndBlended.j2 kj21 l1 t342 t345 t343 t344))) = some r := by rw [if_pos rfl] at H; exact H
         clear H
         have H := H1
         clear H1
         replace H := Option.bind_eq_some_iff.mp H
         obtain ⟨⟨t351, t352, t353⟩, A260, H⟩ := H
         replace H : (if t353 = true then (if (wrap64 ((wrap64 (t343 * t352)) * t340)) = (wrap64 ((wrap64 (t351 * t344)) * (wrap64 (t340 - t341)))) then (laws_FnThinnedAndBlended.j2 kj21 l1 t342 t345 t343 t344) else (some false)) else (laws_FnThinnedAndBlended.j2 kj21 l1 t342 t345 t343 t344)) = some r := H
         have A26 := Aside0.mk A260
         clear A260
         by_cases c27 : t353 = true
         rotate_left
         ·replace c27 := Bool.eq_false_iff.mpr c27
          subst c27
          have H1 : (laws_FnThinnedAndBlended.j2 kj21 l1 t342 t345 t343 t344) = some r := by rw [if_neg (show ¬ (false = true) by decide)] at H; exact H
          clear H
          have H := H1
          clear H1
          have H' := Aside0.mk H
          clear H
          go_wp2_with (first | ((with_reducible refine gate_callee (f := 71) rfl ?_); refine gl 78 Try.func71 #[.int .i64 t340, .int .i64 t341, .int .i64 (wrap64 (t342 - 1))] ?_; (with_reducible refine (impl_ThinShare.calls kj21 t340 t341 (wrap64 (t342 - 1)) t351 t352 false _ A26.out).mono ?_); rintro e w36 ⟨rfl, hb⟩; refine ⟨_, rfl, ?_⟩; replace BK346 := bb BK346 hb; replace BK350 := bb BK350 hb; replace HB := bs HB hb; (try clear hb)) | ((with_reducible refine gate_dst (N := 12) rfl ?_); refine bx 12 #[.int .i64 0, .int .i64 0] 78 ?_; intro gb354 hg w37 hbox hb; have BK354 := Aside0.mk (hbox); have GW354 := ge HB hg; have GE354 := ge HB hg; replace HB := bs HB hb; have NB346_354 := nl BK346 hg; have NB354_346 := nr BK346 hg; replace BK346 := bb BK346 hb; have NB350_354 := nl BK350 hg; have NB354_350 := nr BK350 hg; replace BK350 := bb BK350 hb; clear hb hbox hg; have hnb38 := NB354_346.out; have hnc38 := NB346_354.out; have hnb39 := NB354_350.out; have hnc39 := NB350_354.out; have hcz40_0 := bc0 BK354; have hcz40_1 := bc1 BK354; have hfz40_0 := blk_frozen BK354.out 0; have hfz40_1 := blk_frozen BK354.out 1))
          (refine Met.intro ?_; go_step; refine Cut_mk (by kernel_rfl) ?rel8)
          case rel8 => exact ⟨_, H', ⟨by first | exact Nat.le_refl _ | exact Nat.le_of_succ_le HJ21.out | exact Nat.le_of_succ_le (Nat.le_trans HJ21.out (Nat.le_of_succ_le HJ7.out)) | exact Nat.le_of_succ_le HJ7.out | (have := HJ7.out; have := HJ21.out; omega)⟩, ⟨bk BK346⟩, ⟨bk BK350⟩, ⟨bw HB⟩⟩
         subst c27
         have H1 : (if (wrap64 ((wrap64 (t343 * t352)) * t340)) = (wrap64 ((wrap64 (t351 * t344)) * (wrap64 (t340 - t341)))) then (laws_FnThinnedAndBlended.j2 kj21 l1 t342 t345 t343 t344) else (some false)) = some r := by rw [if_pos rfl] at H; exact H
         clear H
         have H := H1
         clear H1
         by_cases c28 : (wrap64 ((wrap64 (t343 * t352)) * t340)) = (wrap64 ((wrap64 (t351 * t344)) * (wrap64 (t340 - t341))))
         rotate_left
         ·rw [if_neg c28] at H
          have c28b0 : ((wrap64 ((wrap64 (t343 * t352)) * t340)) == (wrap64 ((wrap64 (t351 * t344)) * (wrap64 (t340 - t341))))) = false := beq_eq_false_iff_ne.mpr c28
          have c28b1 : ((wrap64 ((wrap64 (t343 * t352)) * t340)) != (wrap64 ((wrap64 (t351 * t344)) * (wrap64 (t340 - t341))))) = true := bne_iff_ne.mpr c28
          (first | rw [c28b0] | (simp only [i64_w, i32_w]; rw [c28b0]) | skip)
          exact absurd ((Option.some.inj H).trans hrt.out) (by decide)
         rw [if_pos c28] at H
         have c28b0 : ((wrap64 ((wrap64 (t343 * t352)) * t340)) == (wrap64 ((wrap64 (t351 * t344)) * (wrap64 (t340 - t341))))) = true := beq_iff_eq.mpr c28
         have c28b1 : ((wrap64 ((wrap64 (t343 * t352)) * t340)) != (wrap64 ((wrap64 (t351 * t344)) * (wrap64 (t340 - t341))))) = false := bne_eq_false_iff_eq.mpr c28
         clear c28
         (first | rw [c28b0] | (simp only [i64_w, i32_w]; rw [c28b0]) | skip)
         have H' := Aside0.mk H
         clear H
         go_wp2_with (first | ((with_reducible refine gate_callee (f := 71) rfl ?_); refine gl 78 Try.func71 #[.int .i64 t340, .int .i64 t341, .int .i64 (wrap64 (t342 - 1))] ?_; (with_reducible refine (impl_ThinShare.calls kj21 t340 t341 (wrap64 (t342 - 1)) t351 t352 true _ A26.out).mono ?_); rintro e w29 ⟨rfl, hb⟩; refine ⟨_, rfl, ?_⟩; replace BK346 := bb BK346 hb; replace BK350 := bb BK350 hb; replace HB := bs HB hb; (try clear hb)) | ((with_reducible refine gate_dst (N := 12) rfl ?_); refine bx 12 #[.int .i64 0, .int .i64 0] 78 ?_; intro gb354 hg w30 hbox hb; have BK354 := Aside0.mk (hbox); have GW354 := ge HB hg; have GE354 := ge HB hg; replace HB := bs HB hb; have NB346_354 := nl BK346 hg; have NB354_346 := nr BK346 hg; replace BK346 := bb BK346 hb; have NB350_354 := nl BK350 hg; have NB354_350 := nr BK350 hg; replace BK350 := bb BK350 hb; clear hb hbox hg; have hnb31 := NB354_346.out; have hnc31 := NB346_354.out; have hnb32 := NB354_350.out; have hnc32 := NB350_354.out; have hcz33_0 := bc0 BK354; have hcz33_1 := bc1 BK354; have hfz33_0 := blk_frozen BK354.out 0; have hfz33_1 := blk_frozen BK354.out 1; have hnb34 := NB346_350.out; have hnc34 := NB350_346.out; have hcz35_0 := bc0 BK346; have hcz35_1 := bc1 BK346; have hfz35_0 := blk_frozen BK346.out 0; have hfz35_1 := blk_frozen BK346.out 1))
         (refine Met.intro ?_; go_step; refine Cut_mk (by kernel_rfl) ?rel9)
         case rel9 => exact ⟨_, H', ⟨by first | exact Nat.le_refl _ | exact Nat.le_of_succ_le HJ21.out | exact Nat.le_of_succ_le (Nat.le_trans HJ21.out (Nat.le_of_succ_le HJ7.out)) | exact Nat.le_of_succ_le HJ7.out | (have := HJ7.out; have := HJ21.out; omega)⟩, ⟨bk BK346⟩, ⟨bk BK350⟩, ⟨bw HB⟩⟩
       case rest6 =>
         intro u_ wc hcut l_ hl_; (simp only [rl, List.reduceReplicate, List.cons_append, List.nil_append, List.append_nil, Bool.not_true, Bool.not_false, fu, Nat.reduceAdd] at hl_); subst hl_
         clear HC24
         try clear c1
         try clear c4
         try clear c21
         try clear hcz12_0
         try clear hcz12_1
         try clear hcz16_0
         try clear hcz16_1
         try clear hfz12_0
         try clear hfz12_1
         try clear hfz16_0
         try clear hfz16_1
         obtain ⟨kq, HA, HJ23, BK346, BK350, HB⟩ := hcut
         cases kq with
         | zero => exact absurd HA.out (by simp [laws_FnThinnedAndBlended.j2])
         | succ kj23 =>
          have H := HA.out
          clear HA
          simp only [laws_FnThinnedAndBlended.j2] at H
          have HC41 := Aside0.mk H
          clear H
          go_upto_region 12 with (fail)
          refine cutF (rl [37, 305] false) (fun u_ wc => ∃ (kq : Nat) (x110_40 : Bool), (u_ 110) = .bool x110_40 ∧ Aside0 (laws_FnThinnedAndBlended.j3 kq l1 x110_40 = some r) ∧ Aside0 (kq ≤ kj23) ∧ Aside0 (wc.heap[gb346]? = some (.cells #[.int .i64 t343, .int .i64 t344] 78 (0, 0))) ∧ Aside0 (wc.heap[gb350]? = some (.cells #[.int .i64 t347, .int .i64 t348] 78 (0, 0))) ∧ Aside0 (Below w.heap.size w wc)) ?first10 ?rest10
          case first10 =>
           as_aux_lemma =>
            intro J_ K_ hJ_ hK_
            have H := HC41.out
            clear HC41
            by_cases c42 : t345 = true
            rotate_left
            ·replace c42 := Bool.eq_false_iff.mpr c42
             subst c42
             have H1 : (laws_FnThinnedAndBlended.j3 kj23 l1 false) = some r := by rw [if_neg (show ¬ (false = true) by decide)] at H; exact H
             clear H
             have H := H1
             clear H1
             have H' := Aside0.mk H
             clear H
             go_wp2
             (refine Met.intro ?_; go_step; refine Cut_mk (by kernel_rfl) ?rel11)
             case rel11 => exact ⟨_, (false), (by first | rfl | (simp; done) | (simp [*]; done)), H', ⟨by first | exact Nat.le_refl _ | exact Nat.le_of_succ_le HJ23.out | exact Nat.le_of_succ_le (Nat.le_trans HJ23.out (Nat.le_of_succ_le HJ21.out)) | exact Nat.le_of_succ_le (Nat.le_trans (Nat.le_trans HJ23.out (Nat.le_of_succ_le HJ21.out)) (Nat.le_of_succ_le HJ7.out)) | exact Nat.le_of_succ_le HJ21.out | exact Nat.le_of_succ_le (Nat.le_trans HJ21.out (Nat.le_of_succ_le HJ7.out)) | exact Nat.le_of_succ_le HJ7.out | (have := HJ7.out; have := HJ21.out; have := HJ23.out; omega)⟩, ⟨bk BK346⟩, ⟨bk BK350⟩, ⟨bw HB⟩⟩
            subst c42
            have H1 : (if t342 = 0 then (laws_FnThinnedAndBlended.j3 kj23 l1 (!(t343 == 1) || (!(t344 == 1)))) else (laws_FnThinnedAndBlended.j3 kj23 l1 false)) = some r := by rw [if_pos rfl] at H; exact H
            clear H
            have H := H1
            clear H1
            by_cases c43 : t342 = 0
            rotate_left
            ·rw [if_neg c43] at H
             have c43b0 : (t342 == 0) = false := beq_eq_false_iff_ne.mpr c43
             have c43b1 : (t342 != 0) = true := bne_iff_ne.mpr c43
             (first | rw [c43b0] | (simp only [i64_w, i32_w]; rw [c43b0]) | skip)
             have H' := Aside0.mk H
             clear H
             go_wp2
             (refine Met.intro ?_; go_step; refine Cut_mk (by kernel_rfl) ?rel12)
             case rel12 => exact ⟨_, (false), (by first | rfl | (simp; done) | (simp [*]; done)), H', ⟨by first | exact Nat.le_refl _ | exact Nat.le_of_succ_le HJ23.out | exact Nat.le_of_succ_le (Nat.le_trans HJ23.out (Nat.le_of_succ_le HJ21.out)) | exact Nat.le_of_succ_le (Nat.le_trans (Nat.le_trans HJ23.out (Nat.le_of_succ_le HJ21.out)) (Nat.le_of_succ_le HJ7.out)) | exact Nat.le_of_succ_le HJ21.out | exact Nat.le_of_succ_le (Nat.le_trans HJ21.out (Nat.le_of_succ_le HJ7.out)) | exact Nat.le_of_succ_le HJ7.out | (have := HJ7.out; have := HJ21.out; have := HJ23.out; omega)⟩, ⟨bk BK346⟩, ⟨bk BK350⟩, ⟨bw HB⟩⟩
            rw [if_pos c43] at H
            have c43b0 : (t342 == 0) = true := beq_iff_eq.mpr c43
            have c43b1 : (t342 != 0) = false := bne_eq_false_iff_eq.mpr c43
            clear c43
            (first | rw [c43b0] | (simp only [i64_w, i32_w]; rw [c43b0]) | skip)
            have H' := Aside0.mk H
            clear H
            have hnb44 := NB346_350.out
            have hnc44 := NB350_346.out
            have hcz45_0 := bc0 BK346
            have hcz45_1 := bc1 BK346
            have hfz45_0 := blk_frozen BK346.out 0
            have hfz45_1 := blk_frozen BK346.out 1
            go_wp2
            (refine Met.intro ?_; go_step; refine Cut_mk (by kernel_rfl) ?rel13)
            case rel13 => exact ⟨_, ((!(t343 == 1) || (!(t344 == 1)))), (by first | rfl | (simp; done) | (simp [*]; done)), H', ⟨by first | exact Nat.le_refl _ | exact Nat.le_of_succ_le HJ23.out | exact Nat.le_of_succ_le (Nat.le_trans HJ23.out (Nat.le_of_succ_le HJ21.out)) | exact Nat.le_of_succ_le (Nat.le_trans (Nat.le_trans HJ23.out (Nat.le_of_succ_le HJ21.out)) (Nat.le_of_succ_le HJ7.out)) | exact Nat.le_of_succ_le HJ21.out | exact Nat.le_of_succ_le (Nat.le_trans HJ21.out (Nat.le_of_succ_le HJ7.out)) | exact Nat.le_of_succ_le HJ7.out | (have := HJ7.out; have := HJ21.out; have := HJ23.out; omega)⟩, ⟨bk BK346⟩, ⟨bk BK350⟩, ⟨bw HB⟩⟩
          case rest10 =>
            intro u_ wc hcut l_ hl_; (simp only [rl, List.reduceReplicate, List.cons_append, List.nil_append, List.append_nil, Bool.not_true, Bool.not_false, fu, Nat.reduceAdd] at hl_); subst hl_; generalize u_ 110 = v110 at hcut ⊢
            clear HC41
            try clear c1
            try clear c4
            try clear c21
            try clear hcz12_0
            try clear hcz12_1
            try clear hcz16_0
            try clear hcz16_1
            try clear hfz12_0
            try clear hfz12_1
            try clear hfz16_0
            try clear hfz16_1
            obtain ⟨kq, x110_40, rfl, HA, HJ40, BK346, BK350, HB⟩ := hcut
            cases kq with
            | zero => exact absurd HA.out (by simp [laws_FnThinnedAndBlended.j3])
            | succ kj40 =>
             have H := HA.out
             clear HA
             simp only [laws_FnThinnedAndBlended.j3] at H
             by_cases c46 : x110_40 = true
             ·subst c46
              have H1 : (some false) = some r := by rw [if_pos rfl] at H; exact H
              clear H
              have H := H1
              clear H1
              exact absurd ((Option.some.inj H).trans hrt.out) (by decide)
             replace c46 := Bool.eq_false_iff.mpr c46
             subst c46
             have H1 : ((spec_DrawTimesToThin.f kj40 l1).bind fun bt355 => ((impl_TimesToThin.f kj40 bt355.1 bt355.2.1 bt355.2.2.1 bt355.2.2.2).bind fun bt360 => ((spec_TimesToThin.f kj40 bt355.1 bt355.2.1 bt355.2.2.1 bt355.2.2.2).bind fun bt362 => (if (bt360.2 != bt362.2) = true then (laws_FnThinnedAndBlended.j4 kj40 l1 bt355.1 bt355.2.1 bt360.1 bt360.2 true bt355.2.2.1 bt355.2.2.2) else (laws_FnThinnedAndBlended.j4 kj40 l1 bt355.1 bt355.2.1 bt360.1 bt360.2 (bt360.1 != bt362.1) bt355.2.2.1 bt355.2.2.2))))) = some r := by rw [if_neg (show ¬ (false = true) by decide)] at H; exact H
             clear H
             have H := H1
             clear H1
             replace H := Option.bind_eq_some_iff.mp H
             obtain ⟨⟨t355, t356, t357, t358⟩, A470, H⟩ := H
             replace H : ((impl_TimesToThin.f kj40 t355 t356 t357 t358).bind fun bt360 => ((spec_TimesToThin.f kj40 t355 t356 t357 t358).bind fun bt362 => (if (bt360.2 != bt362.2) = true then (laws_FnThinnedAndBlended.j4 kj40 l1 t355 t356 bt360.1 bt360.2 true t357 t358) else (laws_FnThinnedAndBlended.j4 kj40 l1 t355 t356 bt360.1 bt360.2 (bt360.1 != bt362.1) t357 t358)))) = some r := H
             have A47 := Aside0.mk A470
             clear A470
             replace H := Option.bind_eq_some_iff.mp H
             obtain ⟨⟨t360, t361⟩, A480, H⟩ := H
             replace H : ((spec_TimesToThin.f kj40 t355 t356 t357 t358).bind fun bt362 => (if (t361 != bt362.2) = true then (laws_FnThinnedAndBlended.j4 kj40 l1 t355 t356 t360 t361 true t357 t358) else (laws_FnThinnedAndBlended.j4 kj40 l1 t355 t356 t360 t361 (t360 != bt362.1) t357 t358))) = some r := H
             have A48 := Aside0.mk A480
             clear A480
             replace H := Option.bind_eq_some_iff.mp H
             obtain ⟨⟨t362, t363⟩, A490, H⟩ := H
             replace H : (if (t361 != t363) = true then (laws_FnThinnedAndBlended.j4 kj40 l1 t355 t356 t360 t361 true t357 t358) else (laws_FnThinnedAndBlended.j4 kj40 l1 t355 t356 t360 t361 (t360 != t362) t357 t358)) = some r := H
             have A49 := Aside0.mk A490
             clear A490
             have HC50 := Aside0.mk H
             clear H
             go_upto_region 17 with (first | ((with_reducible refine gate_callee (f := 73) rfl ?_); refine gl 113 Try.func73 #[.slice A1 l1.length c1] ?_; (with_reducible refine (spec_DrawTimesToThin.calls kj40 _ _ l1 t355 t356 t357 t358 _ ?side1 ?side2 A47.out).mono ?_); (case side1 => exact ck HR1 HB); (case side2 => exact HC1.out); rintro e w51 ⟨rfl, hb⟩; refine ⟨_, rfl, ?_⟩; replace BK346 := bb BK346 hb; replace BK350 := bb BK350 hb; replace HB := bs HB hb; (try clear hb)) | ((with_reducible refine gate_dst (N := 16) rfl ?_); refine bx 16 #[.int .i64 0, .int .i64 0] 78 ?_; intro gb359 hg w52 hbox hb; have BK359 := Aside0.mk (hbox); have GW359 := ge HB hg; have GE359 := ge HB hg; replace HB := bs HB hb; have NB346_359 := nl BK346 hg; have NB359_346 := nr BK346 hg; replace BK346 := bb BK346 hb; have NB350_359 := nl BK350 hg; have NB359_350 := nr BK350 hg; replace BK350 := bb BK350 hb; clear hb hbox hg; have hnb53 := NB359_346.out; have hnc53 := NB346_359.out; have hnb54 := NB359_350.out; have hnc54 := NB350_359.out; have hcz55_0 := bc0 BK359; have hcz55_1 := bc1 BK359; have hfz55_0 := blk_frozen BK359.out 0; have hfz55_1 := blk_frozen BK359.out 1) | ((with_reducible refine gate_callee (f := 74) rfl ?_); refine gl 121 Try.func74 #[.int .i64 t355, .int .i64 t356, .agg #[.int .i64 t357, .int .i64 t358]] ?_; (with_reducible refine (impl_TimesToThin.calls kj40 t355 t356 t357 t358 t360 t361 _ A48.out).mono ?_); rintro e w56 ⟨rfl, hb⟩; refine ⟨_, rfl, ?_⟩; replace BK346 := bb BK346 hb; replace BK350 := bb BK350 hb; replace BK359 := Aside0.mk (blk_below (g := gb359) (o := .cells #[.int .i64 t357, .int .i64 t358] 78 (0, 0)) (by (with_reducible repeat (first | refine blk_drewN ?_ _ | refine blk_drew ?_ | refine blk_alloc ?_ _)); refine blk_put (cs := #[.int .i64 t357, .int .i64 0]) ?_ 1 _ rfl; (with_reducible repeat (first | refine blk_drewN ?_ _ | refine blk_drew ?_ | refine blk_alloc ?_ _)); refine blk_put (cs := #[.int .i64 0, .int .i64 0]) ?_ 0 _ rfl; exact bk BK359) hb); replace HB := bs HB hb; (try clear hb); have hcz57_0 := bc0 BK359; have hcz57_1 := bc1 BK359; have hfz57_0 := blk_frozen BK359.out 0; have hfz57_1 := blk_frozen BK359.out 1) | ((with_reducible refine gate_callee (f := 75) rfl ?_); refine gl 128 Try.func75 #[.int .i64 t355, .int .i64 t356, .agg #[.int .i64 t357, .int .i64 t358]] ?_; (with_reducible refine (spec_TimesToThin.calls kj40 t355 t356 t357 t358 t362 t363 _ A49.out).mono ?_); rintro e w58 ⟨rfl, hb⟩; refine ⟨_, rfl, ?_⟩; replace BK346 := bb BK346 hb; replace BK350 := bb BK350 hb; replace BK359 := bb BK359 hb; replace HB := bs HB hb; (try clear hb)))
             (try simp only [Act.put, List.setIfInBounds_toArray, List.set_cons_zero, List.set_cons_succ])
             refine cutF (rl [37, 305] false) (fun u_ wc => ∃ (kq : Nat) (x138_49 : Bool), (u_ 138) = .bool x138_49 ∧ Aside0 (laws_FnThinnedAndBlended.j4 kq l1 t355 t356 t360 t361 x138_49 t357 t358 = some r) ∧ Aside0 (kq ≤ kj40) ∧ Aside0 (wc.heap[gb346]? = some (.cells #[.int .i64 t343, .int .i64 t344] 78 (0, 0))) ∧ Aside0 (wc.heap[gb350]? = some (.cells #[.int .i64 t347, .int .i64 t348] 78 (0, 0))) ∧ Aside0 (wc.heap[gb359]? = some (.cells #[.int .i64 t357, .int .i64 t358] 78 (0, 0))) ∧ Aside0 (Below w.heap.size w wc)) ?first14 ?rest14
             case first14 =>
              as_aux_lemma =>
               intro J_ K_ hJ_ hK_
               have H := HC50.out
               clear HC50
               by_cases c59 : (t361 != t363) = true
               ·rw [if_pos c59] at H
                have c59b0 : (t361 != t363) = true := c59
                (try (have c59b1 : decide (t361 = t363) = false := by simpa using c59))
                (try (have c59b2 : (t361 == t363) = false := by simpa using c59))
                (try (have c59b3 : ¬ (t361 = t363) := by simpa using c59))
                clear c59
                (first | rw [c59b0] | (simp only [i64_w, i32_w]; rw [c59b0]) | skip)
                exact absurd H (by rw [hrt.out]; cases kj40 <;> simp [laws_FnThinnedAndBlended.j4])
               rw [if_neg c59] at H
               have c59b0 : (t361 != t363) = false := by simpa using c59
               (try (have c59b1 : decide (t361 = t363) = true := by simpa using c59))
               (try (have c59b2 : (t361 == t363) = true := by simpa using c59))
               clear c59
               (first | rw [c59b0] | (simp only [i64_w, i32_w]; rw [c59b0]) | skip)
               have H' := Aside0.mk H
               clear H
               go_wp2
               (refine Met.intro ?_; go_step; refine Cut_mk (by kernel_rfl) ?rel15)
               case rel15 => exact ⟨_, ((t360 != t362)), (by first | rfl | (simp; done) | (simp [*]; done)), H', ⟨by first | exact Nat.le_refl _ | exact Nat.le_of_succ_le HJ40.out | exact Nat.le_of_succ_le (Nat.le_trans HJ40.out (Nat.le_of_succ_le HJ23.out)) | exact Nat.le_of_succ_le (Nat.le_trans (Nat.le_trans HJ40.out (Nat.le_of_succ_le HJ23.out)) (Nat.le_of_succ_le HJ21.out)) | exact Nat.le_of_succ_le (Nat.le_trans (Nat.le_trans (Nat.le_trans HJ40.out (Nat.le_of_succ_le HJ23.out)) (Nat.le_of_succ_le HJ21.out)) (Nat.le_of_succ_le HJ7.out)) | exact Nat.le_of_succ_le HJ23.out | exact Nat.le_of_succ_le (Nat.le_trans HJ23.out (Nat.le_of_succ_le HJ21.out)) | exact Nat.le_of_succ_le (Nat.le_trans (Nat.le_trans HJ23.out (Nat.le_of_succ_le HJ21.out)) (Nat.le_of_succ_le HJ7.out)) | (have := HJ7.out; have := HJ21.out; have := HJ23.out; have := HJ40.out; omega)⟩, ⟨bk BK346⟩, ⟨bk BK350⟩, ⟨bk BK359⟩, ⟨bw HB⟩⟩
             case rest14 =>
               intro u_ wc hcut l_ hl_; (simp only [rl, List.reduceReplicate, List.cons_append, List.nil_append, List.append_nil, Bool.not_true, Bool.not_false, fu, Nat.reduceAdd] at hl_); subst hl_; generalize u_ 138 = v138 at hcut ⊢
               clear HC50
               try clear c1
               try clear c4
               try clear c21
               try clear c46
               try clear hcz12_0
               try clear hcz12_1
               try clear hcz16_0
               try clear hcz16_1
               try clear hcz55_0
               try clear hcz55_1
               try clear hcz57_0
               try clear hcz57_1
               try clear hfz12_0
               try clear hfz12_1
               try clear hfz16_0
               try clear hfz16_1
               try clear hfz55_0
               try clear hfz55_1
               try clear hfz57_0
               try clear hfz57_1
               obtain ⟨kq, x138_49, rfl, HA, HJ49, BK346, BK350, BK359, HB⟩ := hcut
               cases kq with
               | zero => exact absurd HA.out (by simp [laws_FnThinnedAndBlended.j4])
               | succ kj49 =>
                have H := HA.out
                clear HA
                simp only [laws_FnThinnedAndBlended.j4] at H
                by_cases c60 : x138_49 = true
                ·subst c60
                 have H1 : (some false) = some r := by rw [if_pos rfl] at H; exact H
                 clear H
                 have H := H1
                 clear H1
                 exact absurd ((Option.some.inj H).trans hrt.out) (by decide)
                replace c60 := Bool.eq_false_iff.mpr c60
                subst c60
                have H1 : (if t361 = true then ((impl_ThinShare.f kj49 t355 t356 t360).bind fun bt364 => (if bt364.2.2 = true then (laws_FnThinnedAndBlended.j5 kj49 l1 t355 t356 t360 (decide ((wrap64 (bt364.1 * t358)) > (wrap64 (t357 * bt364.2.1)))) t357 t358) else (laws_FnThinnedAndBlended.j5 kj49 l1 t355 t356 t360 true t357 t358))) else (laws_FnThinnedAndBlended.j6 kj49 l1)) = some r := by rw [if_neg (show ¬ (false = true) by decide)] at H; exact H
                clear H
                have H := H1
                clear H1
                have HC61 := Aside0.mk H
                clear H
                go_upto_if 139 with (fail)
                refine cutF (rl [4, 1, 16, 4, 12, 305] false) (fun u_ wc => ∃ (kq : Nat), Aside0 (laws_FnThinnedAndBlended.j6 kq l1 = some r) ∧ Aside0 (kq ≤ kj49) ∧ Aside0 (wc.heap[gb346]? = some (.cells #[.int .i64 t343, .int .i64 t344] 78 (0, 0))) ∧ Aside0 (wc.heap[gb350]? = some (.cells #[.int .i64 t347, .int .i64 t348] 78 (0, 0))) ∧ Aside0 (wc.heap[gb359]? = some (.cells #[.int .i64 t357, .int .i64 t358] 78 (0, 0))) ∧ Aside0 (Below w.heap.size w wc)) ?first16 ?rest16
                case first16 =>
                 as_aux_lemma =>
                  intro J_ K_ hJ_ hK_
                  have H := HC61.out
                  clear HC61
                  by_cases c62 : t361 = true
                  rotate_left
                  ·replace c62 := Bool.eq_false_iff.mpr c62
                   subst c62
                   have H1 : (laws_FnThinnedAndBlended.j6 kj49 l1) = some r := by rw [if_neg (show ¬ (false = true) by decide)] at H; exact H
                   clear H
                   have H := H1
                   clear H1
                   have H' := Aside0.mk H
                   clear H
                   go_wp2
                   (refine Met.intro ?_; go_step; refine Cut_mk (by kernel_rfl) ?rel17)
                   case rel17 => exact ⟨_, H', ⟨by first | exact Nat.le_refl _ | exact Nat.le_of_succ_le HJ49.out | exact Nat.le_of_succ_le (Nat.le_trans HJ49.out (Nat.le_of_succ_le HJ40.out)) | exact Nat.le_of_succ_le (Nat.le_trans (Nat.le_trans HJ49.out (Nat.le_of_succ_le HJ40.out)) (Nat.le_of_succ_le HJ23.out)) | exact Nat.le_of_succ_le (Nat.le_trans (Nat.le_trans (Nat.le_trans HJ49.out (Nat.le_of_succ_le HJ40.out)) (Nat.le_of_succ_le HJ23.out)) (Nat.le_of_succ_le HJ21.out)) | exact Nat.le_of_succ_le (Nat.le_trans (Nat.le_trans (Nat.le_trans (Nat.le_trans HJ49.out (Nat.le_of_succ_le HJ40.out)) (Nat.le_of_succ_le HJ23.out)) (Nat.le_of_succ_le HJ21.out)) (Nat.le_of_succ_le HJ7.out)) | exact Nat.le_of_succ_le HJ40.out | exact Nat.le_of_succ_le (Nat.le_trans HJ40.out (Nat.le_of_succ_le HJ23.out)) | (have := HJ7.out; have := HJ21.out; have := HJ23.out; have := HJ40.out; have := HJ49.out; omega)⟩, ⟨bk BK346⟩, ⟨bk BK350⟩, ⟨bk BK359⟩, ⟨bw HB⟩⟩
                  subst c62
                  have H1 : ((impl_ThinShare.f kj49 t355 t356 t360).bind fun bt364 => (if bt364.2.2 = true then (laws_FnThinnedAndBlended.j5 kj49 l1 t355 t356 t360 (decide ((wrap64 (bt364.1 * t358)) > (wrap64 (t357 * bt364.2.1)))) t357 t358) else (laws_FnThinnedAndBlended.j5 kj49 l1 t355 t356 t360 true t357 t358))) = some r := by rw [if_pos rfl] at H; exact H
                  clear H
                  have H := H1
                  clear H1
                  replace H := Option.bind_eq_some_iff.mp H
                  obtain ⟨⟨t364, t365, t366⟩, A630, H⟩ := H
                  replace H : (if t366 = true then (laws_FnThinnedAndBlended.j5 kj49 l1 t355 t356 t360 (decide ((wrap64 (t364 * t358)) > (wrap64 (t357 * t365)))) t357 t358) else (laws_FnThinnedAndBlended.j5 kj49 l1 t355 t356 t360 true t357 t358)) = some r := H
                  have A63 := Aside0.mk A630
                  clear A630
                  have HC64 := Aside0.mk H
                  clear H
                  go_upto_region 21 with (first | ((with_reducible refine gate_callee (f := 71) rfl ?_); refine gl 144 Try.func71 #[.int .i64 t355, .int .i64 t356, .int .i64 t360] ?_; (with_reducible refine (impl_ThinShare.calls kj49 t355 t356 t360 t364 t365 t366 _ A63.out).mono ?_); rintro e w65 ⟨rfl, hb⟩; refine ⟨_, rfl, ?_⟩; replace BK346 := bb BK346 hb; replace BK350 := bb BK350 hb; replace BK359 := bb BK359 hb; replace HB := bs HB hb; (try clear hb)) | ((with_reducible refine gate_dst (N := 21) rfl ?_); refine bx 21 #[.int .i64 0, .int .i64 0] 78 ?_; intro gb367 hg w66 hbox hb; have BK367 := Aside0.mk (hbox); have GW367 := ge HB hg; have GE367 := ge HB hg; replace HB := bs HB hb; have NB346_367 := nl BK346 hg; have NB367_346 := nr BK346 hg; replace BK346 := bb BK346 hb; have NB350_367 := nl BK350 hg; have NB367_350 := nr BK350 hg; replace BK350 := bb BK350 hb; have NB359_367 := nl BK359 hg; have NB367_359 := nr BK359 hg; replace BK359 := bb BK359 hb; clear hb hbox hg; have hnb67 := NB367_346.out; have hnc67 := NB346_367.out; have hnb68 := NB367_350.out; have hnc68 := NB350_367.out; have hnb69 := NB367_359.out; have hnc69 := NB359_367.out; have hcz70_0 := bc0 BK367; have hcz70_1 := bc1 BK367; have hfz70_0 := blk_frozen BK367.out 0; have hfz70_1 := blk_frozen BK367.out 1))
                  (try simp only [Act.put, List.setIfInBounds_toArray, List.set_cons_zero, List.set_cons_succ])
                  refine cutF (rl [37, 305] false) (fun u_ wc => ∃ (kq : Nat) (x161_63 : Bool), (u_ 161) = .bool x161_63 ∧ Aside0 (laws_FnThinnedAndBlended.j5 kq l1 t355 t356 t360 x161_63 t357 t358 = some r) ∧ Aside0 (kq ≤ kj49) ∧ Aside0 (wc.heap[gb346]? = some (.cells #[.int .i64 t343, .int .i64 t344] 78 (0, 0))) ∧ Aside0 (wc.heap[gb350]? = some (.cells #[.int .i64 t347, .int .i64 t348] 78 (0, 0))) ∧ Aside0 (wc.heap[gb359]? = some (.cells #[.int .i64 t357, .int .i64 t358] 78 (0, 0))) ∧ Aside0 (wc.heap[gb367]? = some (.cells #[.int .i64 t364, .int .i64 t365] 78 (0, 0))) ∧ Aside0 (Below w.heap.size w wc)) ?first18 ?rest18
                  case first18 =>
                   as_aux_lemma =>
                    intro J_ K_ hJ_ hK_
                    have H := HC64.out
                    clear HC64
                    by_cases c71 : t366 = true
                    rotate_left
                    ·replace c71 := Bool.eq_false_iff.mpr c71
                     subst c71
                     have H1 : (laws_FnThinnedAndBlended.j5 kj49 l1 t355 t356 t360 true t357 t358) = some r := by rw [if_neg (show ¬ (false = true) by decide)] at H; exact H
                     clear H
                     have H := H1
                     clear H1
                     exact absurd H (by rw [hrt.out]; cases kj49 <;> simp [laws_FnThinnedAndBlended.j5])
                    subst c71
                    have H1 : (laws_FnThinnedAndBlended.j5 kj49 l1 t355 t356 t360 (decide ((wrap64 (t364 * t358)) > (wrap64 (t357 * t365)))) t357 t358) = some r := by rw [if_pos rfl] at H; exact H
                    clear H
                    have H := H1
                    clear H1
                    have H' := Aside0.mk H
                    clear H
                    have hnb72 := NB367_346.out
                    have hnc72 := NB346_367.out
                    have hnb73 := NB367_350.out
                    have hnc73 := NB350_367.out
                    have hnb74 := NB367_359.out
                    have hnc74 := NB359_367.out
                    have hcz75_0 := bc0 BK367
                    have hcz75_1 := bc1 BK367
                    have hfz75_0 := blk_frozen BK367.out 0
                    have hfz75_1 := blk_frozen BK367.out 1
                    have hnb76 := NB359_346.out
                    have hnc76 := NB346_359.out
                    have hnb77 := NB359_350.out
                    have hnc77 := NB350_359.out
                    have hcz78_0 := bc0 BK359
                    have hcz78_1 := bc1 BK359
                    have hfz78_0 := blk_frozen BK359.out 0
                    have hfz78_1 := blk_frozen BK359.out 1
                    go_wp2
                    (refine Met.intro ?_; go_step; refine Cut_mk (by kernel_rfl) ?rel19)
                    case rel19 => exact ⟨_, (decide ((wrap64 (t364 * t358)) > (wrap64 (t357 * t365)))), (by first | rfl | (simp; done) | (simp [*]; done)), H', ⟨by first | exact Nat.le_refl _ | exact Nat.le_of_succ_le HJ49.out | exact Nat.le_of_succ_le (Nat.le_trans HJ49.out (Nat.le_of_succ_le HJ40.out)) | exact Nat.le_of_succ_le (Nat.le_trans (Nat.le_trans HJ49.out (Nat.le_of_succ_le HJ40.out)) (Nat.le_of_succ_le HJ23.out)) | exact Nat.le_of_succ_le (Nat.le_trans (Nat.le_trans (Nat.le_trans HJ49.out (Nat.le_of_succ_le HJ40.out)) (Nat.le_of_succ_le HJ23.out)) (Nat.le_of_succ_le HJ21.out)) | exact Nat.le_of_succ_le (Nat.le_trans (Nat.le_trans (Nat.le_trans (Nat.le_trans HJ49.out (Nat.le_of_succ_le HJ40.out)) (Nat.le_of_succ_le HJ23.out)) (Nat.le_of_succ_le HJ21.out)) (Nat.le_of_succ_le HJ7.out)) | exact Nat.le_of_succ_le HJ40.out | exact Nat.le_of_succ_le (Nat.le_trans HJ40.out (Nat.le_of_succ_le HJ23.out)) | (have := HJ7.out; have := HJ21.out; have := HJ23.out; have := HJ40.out; have := HJ49.out; omega)⟩, ⟨bk BK346⟩, ⟨bk BK350⟩, ⟨bk BK359⟩, ⟨by (with_reducible repeat (first | refine blk_drewN ?_ _ | refine blk_drew ?_ | refine blk_alloc ?_ _)); refine blk_put (cs := #[.int .i64 t364, .int .i64 0]) ?_ 1 _ rfl; (with_reducible repeat (first | refine blk_drewN ?_ _ | refine blk_drew ?_ | refine blk_alloc ?_ _)); refine blk_put (cs := #[.int .i64 0, .int .i64 0]) ?_ 0 _ rfl; exact bk BK367⟩, ⟨bw HB⟩⟩
                  case rest18 =>
                    intro u_ wc hcut l_ hl_; (simp only [rl, List.reduceReplicate, List.cons_append, List.nil_append, List.append_nil, Bool.not_true, Bool.not_false, fu, Nat.reduceAdd] at hl_); subst hl_; generalize u_ 161 = v161 at hcut ⊢
                    clear HC64
                    try clear c1
                    try clear c4
                    try clear c21
                    try clear c46
                    try clear c60
                    try clear c62
                    try clear hcz12_0
                    try clear hcz12_1
                    try clear hcz16_0
                    try clear hcz16_1
                    try clear hcz55_0
                    try clear hcz55_1
                    try clear hcz57_0
                    try clear hcz57_1
                    try clear hcz70_0
                    try clear hcz70_1
                    try clear hfz12_0
                    try clear hfz12_1
                    try clear hfz16_0
                    try clear hfz16_1
                    try clear hfz55_0
                    try clear hfz55_1
                    try clear hfz57_0
                    try clear hfz57_1
                    try clear hfz70_0
                    try clear hfz70_1
                    obtain ⟨kq, x161_63, rfl, HA, HJ63, BK346, BK350, BK359, BK367, HB⟩ := hcut
                    cases kq with
                    | zero => exact absurd HA.out (by simp [laws_FnThinnedAndBlended.j5])
                    | succ kj63 =>
                     have H := HA.out
                     clear HA
                     simp only [laws_FnThinnedAndBlended.j5] at H
                     by_cases c79 : x161_63 = true
                     ·subst c79
                      have H1 : (some false) = some r := by rw [if_pos rfl] at H; exact H
                      clear H
                      have H := H1
                      clear H1
                      exact absurd ((Option.some.inj H).trans hrt.out) (by decide)
                     replace c79 := Bool.eq_false_iff.mpr c79
                     subst c79
                     have H1 : (if t360 > 0 then ((impl_ThinShare.f kj63 t355 t356 (wrap64 (t360 - 1))).bind fun bt368 => (if bt368.2.2 = true then (if (wrap64 (bt368.1 * t358)) ≤ (wrap64 (t357 * bt368.2.1)) then (some false) else (laws_FnThinnedAndBlended.j6 kj63 l1)) else (some false))) else (laws_FnThinnedAndBlended.j6 kj63 l1)) = some r := by rw [if_neg (show ¬ (false = true) by decide)] at H; exact H
                     clear H
                     have H := H1
                     clear H1
                     by_cases c80 : t360 > 0
                     rotate_left
                     ·rw [if_neg c80] at H
                      have c80b0 : decide (0 < t360) = false := decide_eq_false c80
                      clear c80
                      have H' := Aside0.mk H
                      clear H
                      go_wp2
                      (refine Met.intro ?_; go_step; refine Cut_mk (by kernel_rfl) ?rel20)
                      case rel20 => exact ⟨_, H', ⟨by first | exact Nat.le_refl _ | exact Nat.le_of_succ_le HJ63.out | exact Nat.le_of_succ_le (Nat.le_trans HJ63.out (Nat.le_of_succ_le HJ49.out)) | exact Nat.le_of_succ_le (Nat.le_trans (Nat.le_trans HJ63.out (Nat.le_of_succ_le HJ49.out)) (Nat.le_of_succ_le HJ40.out)) | exact Nat.le_of_succ_le (Nat.le_trans (Nat.le_trans (Nat.le_trans HJ63.out (Nat.le_of_succ_le HJ49.out)) (Nat.le_of_succ_le HJ40.out)) (Nat.le_of_succ_le HJ23.out)) | exact Nat.le_of_succ_le (Nat.le_trans (Nat.le_trans (Nat.le_trans (Nat.le_trans HJ63.out (Nat.le_of_succ_le HJ49.out)) (Nat.le_of_succ_le HJ40.out)) (Nat.le_of_succ_le HJ23.out)) (Nat.le_of_succ_le HJ21.out)) | exact Nat.le_of_succ_le (Nat.le_trans (Nat.le_trans (Nat.le_trans (Nat.le_trans (Nat.le_trans HJ63.out (Nat.le_of_succ_le HJ49.out)) (Nat.le_of_succ_le HJ40.out)) (Nat.le_of_succ_le HJ23.out)) (Nat.le_of_succ_le HJ21.out)) (Nat.le_of_succ_le HJ7.out)) | exact Nat.le_of_succ_le HJ49.out | (have := HJ7.out; have := HJ21.out; have := HJ23.out; have := HJ40.out; have := HJ49.out; have := HJ63.out; omega)⟩, ⟨bk BK346⟩, ⟨bk BK350⟩, ⟨bk BK359⟩, ⟨bw HB⟩⟩
                     rw [if_pos c80] at H
                     have c80b0 : decide (0 < t360) = true := decide_eq_true c80
                     clear c80
                     replace H := Option.bind_eq_some_iff.mp H
                     obtain ⟨⟨t368, t369, t370⟩, A810, H⟩ := H
                     replace H : (if t370 = true then (if (wrap64 (t368 * t358)) ≤ (wrap64 (t357 * t369)) then (some false) else (laws_FnThinnedAndBlended.j6 kj63 l1)) else (some false)) = some r := H
                     have A81 := Aside0.mk A810
                     clear A810
                     by_cases c82 : t370 = true
                     rotate_left
                     ·replace c82 := Bool.eq_false_iff.mpr c82
                      subst c82
                      have H1 : (some false) = some r := by rw [if_neg (show ¬ (false = true) by decide)] at H; exact H
                      clear H
                      have H := H1
                      clear H1
                      exact absurd ((Option.some.inj H).trans hrt.out) (by decide)
                     subst c82
                     have H1 : (if (wrap64 (t368 * t358)) ≤ (wrap64 (t357 * t369)) then (some false) else (laws_FnThinnedAndBlended.j6 kj63 l1)) = some r := by rw [if_pos rfl] at H; exact H
                     clear H
                     have H := H1
                     clear H1
                     by_cases c83 : (wrap64 (t368 * t358)) ≤ (wrap64 (t357 * t369))
                     ·rw [if_pos c83] at H
                      have c83b0 : decide ((wrap64 (t368 * t358)) ≤ (wrap64 (t357 * t369))) = true := decide_eq_true c83
                      clear c83
                      exact absurd ((Option.some.inj H).trans hrt.out) (by decide)
                     rw [if_neg c83] at H
                     have c83b0 : decide ((wrap64 (t368 * t358)) ≤ (wrap64 (t357 * t369))) = false := decide_eq_false c83
                     clear c83
                     have H' := Aside0.mk H
                     clear H
                     go_wp2_with (first | ((with_reducible refine gate_callee (f := 71) rfl ?_); refine gl 169 Try.func71 #[.int .i64 t355, .int .i64 t356, .int .i64 (wrap64 (t360 - 1))] ?_; (with_reducible refine (impl_ThinShare.calls kj63 t355 t356 (wrap64 (t360 - 1)) t368 t369 true _ A81.out).mono ?_); rintro e w84 ⟨rfl, hb⟩; refine ⟨_, rfl, ?_⟩; replace BK346 := bb BK346 hb; replace BK350 := bb BK350 hb; replace BK359 := bb BK359 hb; replace BK367 := bb BK367 hb; replace HB := bs HB hb; (try clear hb)) | ((with_reducible refine gate_dst (N := 23) rfl ?_); refine bx 23 #[.int .i64 0, .int .i64 0] 78 ?_; intro gb371 hg w85 hbox hb; have BK371 := Aside0.mk (hbox); have GW371 := ge HB hg; have GE371 := ge HB hg; replace HB := bs HB hb; have NB346_371 := nl BK346 hg; have NB371_346 := nr BK346 hg; replace BK346 := bb BK346 hb; have NB350_371 := nl BK350 hg; have NB371_350 := nr BK350 hg; replace BK350 := bb BK350 hb; have NB359_371 := nl BK359 hg; have NB371_359 := nr BK359 hg; replace BK359 := bb BK359 hb; have NB367_371 := nl BK367 hg; have NB371_367 := nr BK367 hg; replace BK367 := bb BK367 hb; clear hb hbox hg; have hnb86 := NB371_346.out; have hnc86 := NB346_371.out; have hnb87 := NB371_350.out; have hnc87 := NB350_371.out; have hnb88 := NB371_359.out; have hnc88 := NB359_371.out; have hnb89 := NB371_367.out; have hnc89 := NB367_371.out; have hcz90_0 := bc0 BK371; have hcz90_1 := bc1 BK371; have hfz90_0 := blk_frozen BK371.out 0; have hfz90_1 := blk_frozen BK371.out 1; have hnb91 := NB359_346.out; have hnc91 := NB346_359.out; have hnb92 := NB359_350.out; have hnc92 := NB350_359.out; have hnb93 := NB359_367.out; have hnc93 := NB367_359.out; have hcz94_0 := bc0 BK359; have hcz94_1 := bc1 BK359; have hfz94_0 := blk_frozen BK359.out 0; have hfz94_1 := blk_frozen BK359.out 1))
                     (refine Met.intro ?_; go_step; refine Cut_mk (by kernel_rfl) ?rel21)
                     case rel21 => exact ⟨_, H', ⟨by first | exact Nat.le_refl _ | exact Nat.le_of_succ_le HJ63.out | exact Nat.le_of_succ_le (Nat.le_trans HJ63.out (Nat.le_of_succ_le HJ49.out)) | exact Nat.le_of_succ_le (Nat.le_trans (Nat.le_trans HJ63.out (Nat.le_of_succ_le HJ49.out)) (Nat.le_of_succ_le HJ40.out)) | exact Nat.le_of_succ_le (Nat.le_trans (Nat.le_trans (Nat.le_trans HJ63.out (Nat.le_of_succ_le HJ49.out)) (Nat.le_of_succ_le HJ40.out)) (Nat.le_of_succ_le HJ23.out)) | exact Nat.le_of_succ_le (Nat.le_trans (Nat.le_trans (Nat.le_trans (Nat.le_trans HJ63.out (Nat.le_of_succ_le HJ49.out)) (Nat.le_of_succ_le HJ40.out)) (Nat.le_of_succ_le HJ23.out)) (Nat.le_of_succ_le HJ21.out)) | exact Nat.le_of_succ_le (Nat.le_trans (Nat.le_trans (Nat.le_trans (Nat.le_trans (Nat.le_trans HJ63.out (Nat.le_of_succ_le HJ49.out)) (Nat.le_of_succ_le HJ40.out)) (Nat.le_of_succ_le HJ23.out)) (Nat.le_of_succ_le HJ21.out)) (Nat.le_of_succ_le HJ7.out)) | exact Nat.le_of_succ_le HJ49.out | (have := HJ7.out; have := HJ21.out; have := HJ23.out; have := HJ40.out; have := HJ49.out; have := HJ63.out; omega)⟩, ⟨bk BK346⟩, ⟨bk BK350⟩, ⟨bk BK359⟩, ⟨bw HB⟩⟩
                case rest16 =>
                  intro u_ wc hcut l_ hl_; (simp only [rl, List.reduceReplicate, List.cons_append, List.nil_append, List.append_nil, Bool.not_true, Bool.not_false, fu, Nat.reduceAdd] at hl_); subst hl_
                  clear HC61
                  try clear c1
                  try clear c4
                  try clear c21
                  try clear c46
                  try clear c60
                  try clear hcz12_0
                  try clear hcz12_1
                  try clear hcz16_0
                  try clear hcz16_1
                  try clear hcz55_0
                  try clear hcz55_1
                  try clear hcz57_0
                  try clear hcz57_1
                  try clear hfz12_0
                  try clear hfz12_1
                  try clear hfz16_0
                  try clear hfz16_1
                  try clear hfz55_0
                  try clear hfz55_1
                  try clear hfz57_0
                  try clear hfz57_1
                  obtain ⟨kq, HA, HJ60, BK346, BK350, BK359, HB⟩ := hcut
                  cases kq with
                  | zero => exact absurd HA.out (by simp [laws_FnThinnedAndBlended.j6])
                  | succ kj60 =>
                   have H := HA.out
                   clear HA
                   simp only [laws_FnThinnedAndBlended.j6] at H
                   replace H := Option.bind_eq_some_iff.mp H
                   obtain ⟨⟨t372, t373, t374, t375, t376, t377⟩, A950, H⟩ := H
                   replace H : ((impl_BlendAmounts.f kj60 t372 t373 t374 t375 t376 t377).bind fun bt381 => ((spec_BlendAmounts.f kj60 t372 t373 t374 t375 t376 t377).bind fun bt384 => (if (bt381.2.2 != bt384.2.2) = true then (laws_FnThinnedAndBlended.j7 kj60 bt381.1 bt381.2.1 bt381.2.2 true t372 t373 t374 t375 t376 t377) else (if bt381.1 = bt384.1 then (laws_FnThinnedAndBlended.j7 kj60 bt381.1 bt381.2.1 bt381.2.2 (bt381.2.1 != bt384.2.1) t372 t373 t374 t375 t376 t377) else (laws_FnThinnedAndBlended.j7 kj60 bt381.1 bt381.2.1 bt381.2.2 true t372 t373 t374 t375 t376 t377))))) = some r := H
                   have A95 := Aside0.mk A950
                   clear A950
                   replace H := Option.bind_eq_some_iff.mp H
                   obtain ⟨⟨t381, t382, t383⟩, A960, H⟩ := H
                   replace H : ((spec_BlendAmounts.f kj60 t372 t373 t374 t375 t376 t377).bind fun bt384 => (if (t383 != bt384.2.2) = true then (laws_FnThinnedAndBlended.j7 kj60 t381 t382 t383 true t372 t373 t374 t375 t376 t377) else (if t381 = bt384.1 then (laws_FnThinnedAndBlended.j7 kj60 t381 t382 t383 (t382 != bt384.2.1) t372 t373 t374 t375 t376 t377) else (laws_FnThinnedAndBlended.j7 kj60 t381 t382 t383 true t372 t373 t374 t375 t376 t377)))) = some r := H
                   have A96 := Aside0.mk A960
                   clear A960
                   replace H := Option.bind_eq_some_iff.mp H
                   obtain ⟨⟨t384, t385, t386⟩, A970, H⟩ := H
                   replace H : (if (t383 != t386) = true then (laws_FnThinnedAndBlended.j7 kj60 t381 t382 t383 true t372 t373 t374 t375 t376 t377) else (if t381 = t384 then (laws_FnThinnedAndBlended.j7 kj60 t381 t382 t383 (t382 != t385) t372 t373 t374 t375 t376 t377) else (laws_FnThinnedAndBlended.j7 kj60 t381 t382 t383 true t372 t373 t374 t375 t376 t377))) = some r := H
                   have A97 := Aside0.mk A970
                   clear A970
                   have HC98 := Aside0.mk H
                   clear H
                   go_upto_region 30 with (first | ((with_reducible refine gate_callee (f := 76) rfl ?_); refine gl 189 Try.func76 #[.slice A1 l1.length c1] ?_; (with_reducible refine (spec_DrawBlendAmounts.calls kj60 _ _ l1 t372 t373 t374 t375 t376 t377 _ ?side1 ?side2 A95.out).mono ?_); (case side1 => exact ck HR1 HB); (case side2 => exact HC1.out); rintro e w99 ⟨rfl, hb⟩; refine ⟨_, rfl, ?_⟩; replace BK346 := bb BK346 hb; replace BK350 := bb BK350 hb; replace BK359 := bb BK359 hb; replace HB := bs HB hb; (try clear hb)) | ((with_reducible refine gate_dst (N := 25) rfl ?_); refine bx 25 #[.int .i64 0, .int .i64 0] 78 ?_; intro gb378 hg w100 hbox hb; have BK378 := Aside0.mk (hbox); have GW378 := ge HB hg; have GE378 := ge HB hg; replace HB := bs HB hb; have NB346_378 := nl BK346 hg; have NB378_346 := nr BK346 hg; replace BK346 := bb BK346 hb; have NB350_378 := nl BK350 hg; have NB378_350 := nr BK350 hg; replace BK350 := bb BK350 hb; have NB359_378 := nl BK359 hg; have NB378_359 := nr BK359 hg; replace BK359 := bb BK359 hb; clear hb hbox hg) | ((with_reducible refine gate_dst (N := 26) rfl ?_); refine bx 26 #[.int .i64 0, .int .i64 0] 78 ?_; intro gb379 hg w101 hbox hb; have BK379 := Aside0.mk (hbox); have GW379 := ge HB hg; have GE379 := ge HB hg; replace HB := bs HB hb; have NB346_379 := nl BK346 hg; have NB379_346 := nr BK346 hg; replace BK346 := bb BK346 hb; have NB350_379 := nl BK350 hg; have NB379_350 := nr BK350 hg; replace BK350 := bb BK350 hb; have NB359_379 := nl BK359 hg; have NB379_359 := nr BK359 hg; replace BK359 := bb BK359 hb; have NB378_379 := nl BK378 hg; have NB379_378 := nr BK378 hg; replace BK378 := bb BK378 hb; clear hb hbox hg) | ((with_reducible refine gate_dst (N := 27) rfl ?_); refine bx 27 #[.int .i64 0, .int .i64 0] 78 ?_; intro gb380 hg w102 hbox hb; have BK380 := Aside0.mk (hbox); have GW380 := ge HB hg; have GE380 := ge HB hg; replace HB := bs HB hb; have NB346_380 := nl BK346 hg; have NB380_346 := nr BK346 hg; replace BK346 := bb BK346 hb; have NB350_380 := nl BK350 hg; have NB380_350 := nr BK350 hg; replace BK350 := bb BK350 hb; have NB359_380 := nl BK359 hg; have NB380_359 := nr BK359 hg; replace BK359 := bb BK359 hb; have NB378_380 := nl BK378 hg; have NB380_378 := nr BK378 hg; replace BK378 := bb BK378 hb; have NB379_380 := nl BK379 hg; have NB380_379 := nr BK379 hg; replace BK379 := bb BK379 hb; clear hb hbox hg; have hnb103 := NB378_346.out; have hnc103 := NB346_378.out; have hnb104 := NB378_350.out; have hnc104 := NB350_378.out; have hnb105 := NB378_359.out; have hnc105 := NB359_378.out; have hnb106 := NB378_379.out; have hnc106 := NB379_378.out; have hnb107 := NB378_380.out; have hnc107 := NB380_378.out; have hcz108_0 := bc0 BK378; have hcz108_1 := bc1 BK378; have hfz108_0 := blk_frozen BK378.out 0; have hfz108_1 := blk_frozen BK378.out 1; have hnb109 := NB379_346.out; have hnc109 := NB346_379.out; have hnb110 := NB379_350.out; have hnc110 := NB350_379.out; have hnb111 := NB379_359.out; have hnc111 := NB359_379.out; have hnb112 := NB379_380.out; have hnc112 := NB380_379.out; have hcz113_0 := bc0 BK379; have hcz113_1 := bc1 BK379; have hfz113_0 := blk_frozen BK379.out 0; have hfz113_1 := blk_frozen BK379.out 1; have hnb114 := NB380_346.out; have hnc114 := NB346_380.out; have hnb115 := NB380_350.out; have hnc115 := NB350_380.out; have hnb116 := NB380_359.out; have hnc116 := NB359_380.out; have hcz117_0 := bc0 BK380; have hcz117_1 := bc1 BK380; have hfz117_0 := blk_frozen BK380.out 0; have hfz117_1 := blk_frozen BK380.out 1) | ((with_reducible refine gate_callee (f := 77) rfl ?_); refine gl 197 Try.func77 #[.agg #[.int .i64 t372, .int .i64 t373], .agg #[.int .i64 t374, .int .i64 t375], .agg #[.int .i64 t376, .int .i64 t377]] ?_; (with_reducible refine (impl_BlendAmounts.calls kj60 t372 t373 t374 t375 t376 t377 t381 t382 t383 _ A96.out).mono ?_); rintro e w118 ⟨rfl, hb⟩; refine ⟨_, rfl, ?_⟩; replace BK346 := bb BK346 hb; replace BK350 := bb BK350 hb; replace BK359 := bb BK359 hb; replace BK378 := Aside0.mk (blk_below (g := gb378) (o := .cells #[.int .i64 t372, .int .i64 t373] 78 (0, 0)) (by (with_reducible repeat (first | refine blk_drewN ?_ _ | refine blk_drew ?_ | refine blk_alloc ?_ _)); refine blk_far ?_ NB378_380.out _; (with_reducible repeat (first | refine blk_drewN ?_ _ | refine blk_drew ?_ | refine blk_alloc ?_ _)); refine blk_far ?_ NB378_380.out _; (with_reducible repeat (first | refine blk_drewN ?_ _ | refine blk_drew ?_ | refine blk_alloc ?_ _)); refine blk_far ?_ NB378_379.out _; (with_reducible repeat (first | refine blk_drewN ?_ _ | refine blk_drew ?_ | refine blk_alloc ?_ _)); refine blk_far ?_ NB378_379.out _; (with_reducible repeat (first | refine blk_drewN ?_ _ | refine blk_drew ?_ | refine blk_alloc ?_ _)); refine blk_put (cs := #[.int .i64 t372, .int .i64 0]) ?_ 1 _ rfl; (with_reducible repeat (first | refine blk_drewN ?_ _ | refine blk_drew ?_ | refine blk_alloc ?_ _)); refine blk_put (cs := #[.int .i64 0, .int .i64 0]) ?_ 0 _ rfl; exact bk BK378) hb); replace BK379 := Aside0.mk (blk_below (g := gb379) (o := .cells #[.int .i64 t374, .int .i64 t375] 78 (0, 0)) (by (with_reducible repeat (first | refine blk_drewN ?_ _ | refine blk_drew ?_ | refine blk_alloc ?_ _)); refine blk_far ?_ NB379_380.out _; (with_reducible repeat (first | refine blk_drewN ?_ _ | refine blk_drew ?_ | refine blk_alloc ?_ _)); refine blk_far ?_ NB379_380.out _; (with_reducible repeat (first | refine blk_drewN ?_ _ | refine blk_drew ?_ | refine blk_alloc ?_ _)); refine blk_put (cs := #[.int .i64 t374, .int .i64 0]) ?_ 1 _ rfl; (with_reducible repeat (first | refine blk_drewN ?_ _ | refine blk_drew ?_ | refine blk_alloc ?_ _)); refine blk_put (cs := #[.int .i64 0, .int .i64 0]) ?_ 0 _ rfl; exact bk BK379) hb); replace BK380 := Aside0.mk (blk_below (g := gb380) (o := .cells #[.int .i64 t376, .int .i64 t377] 78 (0, 0)) (by (with_reducible repeat (first | refine blk_drewN ?_ _ | refine blk_drew ?_ | refine blk_alloc ?_ _)); refine blk_put (cs := #[.int .i64 t376, .int .i64 0]) ?_ 1 _ rfl; (with_reducible repeat (first | refine blk_drewN ?_ _ | refine blk_drew ?_ | refine blk_alloc ?_ _)); refine blk_put (cs := #[.int .i64 0, .int .i64 0]) ?_ 0 _ rfl; exact bk BK380) hb); replace HB := bs HB hb; (try clear hb); have hcz119_0 := bc0 BK378; have hcz119_1 := bc1 BK378; have hfz119_0 := blk_frozen BK378.out 0; have hfz119_1 := blk_frozen BK378.out 1; have hcz120_0 := bc0 BK379; have hcz120_1 := bc1 BK379; have hfz120_0 := blk_frozen BK379.out 0; have hfz120_1 := blk_frozen BK379.out 1; have hcz121_0 := bc0 BK380; have hcz121_1 := bc1 BK380; have hfz121_0 := blk_frozen BK380.out 0; have hfz121_1 := blk_frozen BK380.out 1) | ((with_reducible refine gate_callee (f := 78) rfl ?_); refine gl 205 Try.func78 #[.agg #[.int .i64 t372, .int .i64 t373], .agg #[.int .i64 t374, .int .i64 t375], .agg #[.int .i64 t376, .int .i64 t377]] ?_; (with_reducible refine (spec_BlendAmounts.calls kj60 t372 t373 t374 t375 t376 t377 t384 t385 t386 _ A97.out).mono ?_); rintro e w122 ⟨rfl, hb⟩; refine ⟨_, rfl, ?_⟩; replace BK346 := bb BK346 hb; replace BK350 := bb BK350 hb; replace BK359 := bb BK359 hb; replace BK378 := bb BK378 hb; replace BK379 := bb BK379 hb; replace BK380 := bb BK380 hb; replace HB := bs HB hb; (try clear hb)))
                   (try simp only [Act.put, List.setIfInBounds_toArray, List.set_cons_zero, List.set_cons_succ])
                   refine cutF (rl [37, 305] false) (fun u_ wc => ∃ (kq : Nat) (x221_97 : Bool), (u_ 221) = .bool x221_97 ∧ Aside0 (laws_FnThinnedAndBlended.j7 kq t381 t382 t383 x221_97 t372 t373 t374 t375 t376 t377 = some r) ∧ Aside0 (kq ≤ kj60) ∧ Aside0 (wc.heap[gb346]? = some (.cells #[.int .i64 t343, .int .i64 t344] 78 (0, 0))) ∧ Aside0 (wc.heap[gb350]? = some (.cells #[.int .i64 t347, .int .i64 t348] 78 (0, 0))) ∧ Aside0 (wc.heap[gb359]? = some (.cells #[.int .i64 t357, .int .i64 t358] 78 (0, 0))) ∧ Aside0 (wc.heap[gb378]? = some (.cells #[.int .i64 t372, .int .i64 t373] 78 (0, 0))) ∧ Aside0 (wc.heap[gb379]? = some (.cells #[.int .i64 t374, .int .i64 t375] 78 (0, 0))) ∧ Aside0 (wc.heap[gb380]? = some (.cells #[.int .i64 t376, .int .i64 t377] 78 (0, 0))) ∧ Aside0 (Below w.heap.size w wc)) ?first22 ?rest22
                   case first22 =>
                    as_aux_lemma =>
                     intro J_ K_ hJ_ hK_
                     have H := HC98.out
                     clear HC98
                     by_cases c123 : (t383 != t386) = true
                     ·rw [if_pos c123] at H
                      have c123b0 : (t383 != t386) = true := c123
                      (try (have c123b1 : decide (t383 = t386) = false := by simpa using c123))
                      (try (have c123b2 : (t383 == t386) = false := by simpa using c123))
                      (try (have c123b3 : ¬ (t383 = t386) := by simpa using c123))
                      clear c123
                      (first | rw [c123b0] | (simp only [i64_w, i32_w]; rw [c123b0]) | skip)
                      exact absurd H (by rw [hrt.out]; cases kj60 <;> simp [laws_FnThinnedAndBlended.j7])
                     rw [if_neg c123] at H
                     have c123b0 : (t383 != t386) = false := by simpa using c123
                     (try (have c123b1 : decide (t383 = t386) = true := by simpa using c123))
                     (try (have c123b2 : (t383 == t386) = true := by simpa using c123))
                     clear c123
                     (first | rw [c123b0] | (simp only [i64_w, i32_w]; rw [c123b0]) | skip)
                     by_cases c124 : t381 = t384
                     rotate_left
                     ·rw [if_neg c124] at H
                      have c124b0 : (t381 == t384) = false := beq_eq_false_iff_ne.mpr c124
                      have c124b1 : (t381 != t384) = true := bne_iff_ne.mpr c124
                      exact absurd H (by rw [hrt.out]; cases kj60 <;> simp [laws_FnThinnedAndBlended.j7])
                     rw [if_pos c124] at H
                     have c124b0 : (t381 == t384) = true := beq_iff_eq.mpr c124
                     have c124b1 : (t381 != t384) = false := bne_eq_false_iff_eq.mpr c124
                     clear c124
                     have H' := Aside0.mk H
                     clear H
                     go_wp2
                     (refine Met.intro ?_; go_step; refine Cut_mk (by kernel_rfl) ?rel23)
                     case rel23 => exact ⟨_, ((t382 != t385)), (by first | rfl | (simp; done) | (simp [*]; done)), H', ⟨by first | exact Nat.le_refl _ | exact Nat.le_of_succ_le HJ60.out | exact Nat.le_of_succ_le (Nat.le_trans HJ60.out (Nat.le_of_succ_le HJ49.out)) | exact Nat.le_of_succ_le (Nat.le_trans (Nat.le_trans HJ60.out (Nat.le_of_succ_le HJ49.out)) (Nat.le_of_succ_le HJ40.out)) | exact Nat.le_of_succ_le (Nat.le_trans (Nat.le_trans (Nat.le_trans HJ60.out (Nat.le_of_succ_le HJ49.out)) (Nat.le_of_succ_le HJ40.out)) (Nat.le_of_succ_le HJ23.out)) | exact Nat.le_of_succ_le (Nat.le_trans (Nat.le_trans (Nat.le_trans (Nat.le_trans HJ60.out (Nat.le_of_succ_le HJ49.out)) (Nat.le_of_succ_le HJ40.out)) (Nat.le_of_succ_le HJ23.out)) (Nat.le_of_succ_le HJ21.out)) | exact Nat.le_of_succ_le (Nat.le_trans (Nat.le_trans (Nat.le_trans (Nat.le_trans (Nat.le_trans HJ60.out (Nat.le_of_succ_le HJ49.out)) (Nat.le_of_succ_le HJ40.out)) (Nat.le_of_succ_le HJ23.out)) (Nat.le_of_succ_le HJ21.out)) (Nat.le_of_succ_le HJ7.out)) | exact Nat.le_of_succ_le HJ49.out | (have := HJ7.out; have := HJ21.out; have := HJ23.out; have := HJ40.out; have := HJ49.out; have := HJ60.out; omega)⟩, ⟨bk BK346⟩, ⟨bk BK350⟩, ⟨bk BK359⟩, ⟨bk BK378⟩, ⟨bk BK379⟩, ⟨bk BK380⟩, ⟨bw HB⟩⟩
                   case rest22 =>
                     intro u_ wc hcut l_ hl_; (simp only [rl, List.reduceReplicate, List.cons_append, List.nil_append, List.append_nil, Bool.not_true, Bool.not_false, fu, Nat.reduceAdd] at hl_); subst hl_; generalize u_ 221 = v221 at hcut ⊢
                     clear HC98
                     try clear c1
                     try clear c4
                     try clear c21
                     try clear c46
                     try clear c60
                     try clear hcz108_0
                     try clear hcz108_1
                     try clear hcz113_0
                     try clear hcz113_1
                     try clear hcz117_0
                     try clear hcz117_1
                     try clear hcz119_0
                     try clear hcz119_1
                     try clear hcz120_0
                     try clear hcz120_1
                     try clear hcz121_0
                     try clear hcz121_1
                     try clear hcz12_0
                     try clear hcz12_1
                     try clear hcz16_0
                     try clear hcz16_1
                     try clear hcz55_0
                     try clear hcz55_1
                     try clear hcz57_0
                     try clear hcz57_1
                     try clear hfz108_0
                     try clear hfz108_1
                     try clear hfz113_0
                     try clear hfz113_1
                     try clear hfz117_0
                     try clear hfz117_1
                     try clear hfz119_0
                     try clear hfz119_1
                     try clear hfz120_0
                     try clear hfz120_1
                     try clear hfz121_0
                     try clear hfz121_1
                     try clear hfz12_0
                     try clear hfz12_1
                     try clear hfz16_0
                     try clear hfz16_1
                     try clear hfz55_0
                     try clear hfz55_1
                     try clear hfz57_0
                     try clear hfz57_1
                     obtain ⟨kq, x221_97, rfl, HA, HJ97, BK346, BK350, BK359, BK378, BK379, BK380, HB⟩ := hcut
                     cases kq with
                     | zero => exact absurd HA.out (by simp [laws_FnThinnedAndBlended.j7])
                     | succ kj97 =>
                      have H := HA.out
                      clear HA
                      simp only [laws_FnThinnedAndBlended.j7] at H
                      by_cases c125 : x221_97 = true
                      ·subst c125
                       have H1 : (some false) = some r := by rw [if_pos rfl] at H; exact H
                       clear H
                       have H := H1
                       clear H1
                       exact absurd ((Option.some.inj H).trans hrt.out) (by decide)
                      replace c125 := Bool.eq_false_iff.mpr c125
                      subst c125
                      have H1 : (if t383 = true then (if t381 < 0 then (laws_FnThinnedAndBlended.j8 kj97 t381 t382 true t372 t373 t374 t375 t376 t377) else (if t382 < 0 then (laws_FnThinnedAndBlended.j8 kj97 t381 t382 true t372 t373 t374 t375 t376 t377) else (laws_FnThinnedAndBlended.j8 kj97 t381 t382 (decide ((wrap64 (t381 + t382)) < 1)) t372 t373 t374 t375 t376 t377))) else (some true)) = some r := by rw [if_neg (show ¬ (false = true) by decide)] at H; exact H
                      clear H
                      have H := H1
                      clear H1
                      by_cases c126 : t383 = true
                      rotate_left
                      ·replace c126 := Bool.eq_false_iff.mpr c126
                       subst c126
                       have H1 : (some true) = some r := by rw [if_neg (show ¬ (false = true) by decide)] at H; exact H
                       clear H
                       have H := H1
                       clear H1
                       obtain rfl := Option.some.inj H
                       go_wp2
                       go_ret
                       exact ⟨by first | rfl | (simp [errW_none, errW_some] <;> rfl) | (simp [*, errW_none, errW_some] <;> rfl), bw HB⟩
                      subst c126
                      have H1 : (if t381 < 0 then (laws_FnThinnedAndBlended.j8 kj97 t381 t382 true t372 t373 t374 t375 t376 t377) else (if t382 < 0 then (laws_FnThinnedAndBlended.j8 kj97 t381 t382 true t372 t373 t374 t375 t376 t377) else (laws_FnThinnedAndBlended.j8 kj97 t381 t382 (decide ((wrap64 (t381 + t382)) < 1)) t372 t373 t374 t375 t376 t377))) = some r := by rw [if_pos rfl] at H; exact H
                      clear H
                      have H := H1
                      clear H1
                      have HC127 := Aside0.mk H
                      clear H
                      go_upto_region 33 with (fail)
                      refine cutF (rl [37, 305] false) (fun u_ wc => ∃ (kq : Nat) (x234_126 : Bool), (u_ 234) = .bool x234_126 ∧ Aside0 (laws_FnThinnedAndBlended.j8 kq t381 t382 x234_126 t372 t373 t374 t375 t376 t377 = some r) ∧ Aside0 (kq ≤ kj97) ∧ Aside0 (wc.heap[gb346]? = some (.cells #[.int .i64 t343, .int .i64 t344] 78 (0, 0))) ∧ Aside0 (wc.heap[gb350]? = some (.cells #[.int .i64 t347, .int .i64 t348] 78 (0, 0))) ∧ Aside0 (wc.heap[gb359]? = some (.cells #[.int .i64 t357, .int .i64 t358] 78 (0, 0))) ∧ Aside0 (wc.heap[gb378]? = some (.cells #[.int .i64 t372, .int .i64 t373] 78 (0, 0))) ∧ Aside0 (wc.heap[gb379]? = some (.cells #[.int .i64 t374, .int .i64 t375] 78 (0, 0))) ∧ Aside0 (wc.heap[gb380]? = some (.cells #[.int .i64 t376, .int .i64 t377] 78 (0, 0))) ∧ Aside0 (Below w.heap.size w wc)) ?first24 ?rest24
                      case first24 =>
                       as_aux_lemma =>
                        intro J_ K_ hJ_ hK_
                        have H := HC127.out
                        clear HC127
                        by_cases c128 : t381 < 0
                        ·rw [if_pos c128] at H
                         have c128b0 : decide (t381 < 0) = true := decide_eq_true c128
                         clear c128
                         (first | rw [c128b0] | (simp only [i64_w, i32_w]; rw [c128b0]) | skip)
                         exact absurd H (by rw [hrt.out]; cases kj97 <;> simp [laws_FnThinnedAndBlended.j8])
                        rw [if_neg c128] at H
                        have c128b0 : decide (t381 < 0) = false := decide_eq_false c128
                        clear c128
                        (first | rw [c128b0] | (simp only [i64_w, i32_w]; rw [c128b0]) | skip)
                        by_cases c129 : t382 < 0
                        ·rw [if_pos c129] at H
                         have c129b0 : decide (t382 < 0) = true := decide_eq_true c129
                         clear c129
                         exact absurd H (by rw [hrt.out]; cases kj97 <;> simp [laws_FnThinnedAndBlended.j8])
                        rw [if_neg c129] at H
                        have c129b0 : decide (t382 < 0) = false := decide_eq_false c129
                        clear c129
                        have H' := Aside0.mk H
                        clear H
                        go_wp2
                        (refine Met.intro ?_; go_step; refine Cut_mk (by kernel_rfl) ?rel25)
                        case rel25 => exact ⟨_, (decide ((wrap64 (t381 + t382)) < 1)), (by first | rfl | (simp; done) | (simp [*]; done)), H', ⟨by first | exact Nat.le_refl _ | exact Nat.le_of_succ_le HJ97.out | exact Nat.le_of_succ_le (Nat.le_trans HJ97.out (Nat.le_of_succ_le HJ60.out)) | exact Nat.le_of_succ_le (Nat.le_trans (Nat.le_trans HJ97.out (Nat.le_of_succ_le HJ60.out)) (Nat.le_of_succ_le HJ49.out)) | exact Nat.le_of_succ_le (Nat.le_trans (Nat.le_trans (Nat.le_trans HJ97.out (Nat.le_of_succ_le HJ60.out)) (Nat.le_of_succ_le HJ49.out)) (Nat.le_of_succ_le HJ40.out)) | exact Nat.le_of_succ_le (Nat.le_trans (Nat.le_trans (Nat.le_trans (Nat.le_trans HJ97.out (Nat.le_of_succ_le HJ60.out)) (Nat.le_of_succ_le HJ49.out)) (Nat.le_of_succ_le HJ40.out)) (Nat.le_of_succ_le HJ23.out)) | exact Nat.le_of_succ_le (Nat.le_trans (Nat.le_trans (Nat.le_trans (Nat.le_trans (Nat.le_trans HJ97.out (Nat.le_of_succ_le HJ60.out)) (Nat.le_of_succ_le HJ49.out)) (Nat.le_of_succ_le HJ40.out)) (Nat.le_of_succ_le HJ23.out)) (Nat.le_of_succ_le HJ21.out)) | exact Nat.le_of_succ_le (Nat.le_trans (Nat.le_trans (Nat.le_trans (Nat.le_trans (Nat.le_trans (Nat.le_trans HJ97.out (Nat.le_of_succ_le HJ60.out)) (Nat.le_of_succ_le HJ49.out)) (Nat.le_of_succ_le HJ40.out)) (Nat.le_of_succ_le HJ23.out)) (Nat.le_of_succ_le HJ21.out)) (Nat.le_of_succ_le HJ7.out)) | (have := HJ7.out; have := HJ21.out; have := HJ23.out; have := HJ40.out; have := HJ49.out; have := HJ60.out; have := HJ97.out; omega)⟩, ⟨bk BK346⟩, ⟨bk BK350⟩, ⟨bk BK359⟩, ⟨bk BK378⟩, ⟨bk BK379⟩, ⟨bk BK380⟩, ⟨bw HB⟩⟩
                      case rest24 =>
                        intro u_ wc hcut l_ hl_; (simp only [rl, List.reduceReplicate, List.cons_append, List.nil_append, List.append_nil, Bool.not_true, Bool.not_false, fu, Nat.reduceAdd] at hl_); subst hl_; generalize u_ 234 = v234 at hcut ⊢
                        clear HC127
                        try clear c1
                        try clear c4
                        try clear c21
                        try clear c46
                        try clear c60
                        try clear c125
                        try clear c126
                        try clear hcz108_0
                        try clear hcz108_1
                        try clear hcz113_0
                        try clear hcz113_1
                        try clear hcz117_0
                        try clear hcz117_1
                        try clear hcz119_0
                        try clear hcz119_1
                        try clear hcz120_0
                        try clear hcz120_1
                        try clear hcz121_0
                        try clear hcz121_1
                        try clear hcz12_0
                        try clear hcz12_1
                        try clear hcz16_0
                        try clear hcz16_1
                        try clear hcz55_0
                        try clear hcz55_1
                        try clear hcz57_0
                        try clear hcz57_1
                        try clear hfz108_0
                        try clear hfz108_1
                        try clear hfz113_0
                        try clear hfz113_1
                        try clear hfz117_0
                        try clear hfz117_1
                        try clear hfz119_0
                        try clear hfz119_1
                        try clear hfz120_0
                        try clear hfz120_1
                        try clear hfz121_0
                        try clear hfz121_1
                        try clear hfz12_0
                        try clear hfz12_1
                        try clear hfz16_0
                        try clear hfz16_1
                        try clear hfz55_0
                        try clear hfz55_1
                        try clear hfz57_0
                        try clear hfz57_1
                        obtain ⟨kq, x234_126, rfl, HA, HJ126, BK346, BK350, BK359, BK378, BK379, BK380, HB⟩ := hcut
                        cases kq with
                        | zero => exact absurd HA.out (by simp [laws_FnThinnedAndBlended.j8])
                        | succ kj126 =>
                         have H := HA.out
                         clear HA
                         simp only [laws_FnThinnedAndBlended.j8] at H
                         by_cases c130 : x234_126 = true
                         ·subst c130
                          have H1 : (some false) = some r := by rw [if_pos rfl] at H; exact H
                          clear H
                          have H := H1
                          clear H1
                          exact absurd ((Option.some.inj H).trans hrt.out) (by decide)
                         replace c130 := Bool.eq_false_iff.mpr c130
                         subst c130
                         have H1 : (if t381 ≤ 10000 then (if t382 ≤ 10000 then (if t373 ≤ 1000 then (if t375 ≤ 1000 then (if t377 ≤ 100 then (if t372 ≤ 10000 then (if t374 ≤ 10000 then (if t376 ≤ 1000 then (if t372 ≥ (-10000) then (if t374 ≥ (-10000) then (laws_FnThinnedAndBlended.j9 kj126 t381 t382 (decide (t376 ≥ (-1000))) t372 t373 t374 t375 t376 t377) else (laws_FnThinnedAndBlended.j9 kj126 t381 t382 false t372 t373 t374 t375 t376 t377)) else (laws_FnThinnedAndBlended.j9 kj126 t381 t382 false t372 t373 t374 t375 t376 t377)) else (laws_FnThinnedAndBlended.j9 kj126 t381 t382 false t372 t373 t374 t375 t376 t377)) else (laws_FnThinnedAndBlended.j9 kj126 t381 t382 false t372 t373 t374 t375 t376 t377)) else (laws_FnThinnedAndBlended.j9 kj126 t381 t382 false t372 t373 t374 t375 t376 t377)) else (laws_FnThinnedAndBlended.j9 kj126 t381 t382 false t372 t373 t374 t375 t376 t377)) else (laws_FnThinnedAndBlended.j9 kj126 t381 t382 false t372 t373 t374 t375 t376 t377)) else (laws_FnThinnedAndBlended.j9 kj126 t381 t382 false t372 t373 t374 t375 t376 t377)) else (laws_FnThinnedAndBlended.j9 kj126 t381 t382 false t372 t373 t374 t375 t376 t377)) else (laws_FnThinnedAndBlended.j9 kj126 t381 t382 false t372 t373 t374 t375 t376 t377)) = some r := by rw [if_neg (show ¬ (false = true) by decide)] at H; exact H
                         clear H
                         have H := H1
                         clear H1
                         have HC131 := Aside0.mk H
                         clear H
                         go_upto_region 35 with (fail)
                         refine cutF (rl [37, 305] false) (fun u_ wc => ∃ (kq : Nat) (x285_130 : Bool), (u_ 285) = .bool x285_130 ∧ Aside0 (laws_FnThinnedAndBlended.j9 kq t381 t382 x285_130 t372 t373 t374 t375 t376 t377 = some r) ∧ Aside0 (kq ≤ kj126) ∧ Aside0 (wc.heap[gb346]? = some (.cells #[.int .i64 t343, .int .i64 t344] 78 (0, 0))) ∧ Aside0 (wc.heap[gb350]? = some (.cells #[.int .i64 t347, .int .i64 t348] 78 (0, 0))) ∧ Aside0 (wc.heap[gb359]? = some (.cells #[.int .i64 t357, .int .i64 t358] 78 (0, 0))) ∧ Aside0 (wc.heap[gb378]? = some (.cells #[.int .i64 t372, .int .i64 t373] 78 (0, 0))) ∧ Aside0 (wc.heap[gb379]? = some (.cells #[.int .i64 t374, .int .i64 t375] 78 (0, 0))) ∧ Aside0 (wc.heap[gb380]? = some (.cells #[.int .i64 t376, .int .i64 t377] 78 (0, 0))) ∧ Aside0 (Below w.heap.size w wc)) ?first26 ?rest26
                         case first26 =>
                          as_aux_lemma =>
                           intro J_ K_ hJ_ hK_
                           have H := HC131.out
                           clear HC131
                           by_cases c132 : t381 ≤ 10000
                           rotate_left
                           ·as_aux_lemma =>
                            rw [if_neg c132] at H
                            have c132b0 : decide (t381 ≤ 10000) = false := decide_eq_false c132
                            clear c132
                            (first | rw [c132b0] | (simp only [i64_w, i32_w]; rw [c132b0]) | skip)
                            have H' := Aside0.mk H
                            clear H
                            go_wp2
                            (refine Met.intro ?_; go_step; refine Cut_mk (by kernel_rfl) ?rel27)
                            case rel27 => exact ⟨_, (false), (by first | rfl | (simp; done) | (simp [*]; done)), H', ⟨by first | exact Nat.le_refl _ | exact Nat.le_of_succ_le HJ126.out | exact Nat.le_of_succ_le (Nat.le_trans HJ126.out (Nat.le_of_succ_le HJ97.out)) | exact Nat.le_of_succ_le (Nat.le_trans (Nat.le_trans HJ126.out (Nat.le_of_succ_le HJ97.out)) (Nat.le_of_succ_le HJ60.out)) | exact Nat.le_of_succ_le (Nat.le_trans (Nat.le_trans (Nat.le_trans HJ126.out (Nat.le_of_succ_le HJ97.out)) (Nat.le_of_succ_le HJ60.out)) (Nat.le_of_succ_le HJ49.out)) | exact Nat.le_of_succ_le (Nat.le_trans (Nat.le_trans (Nat.le_trans (Nat.le_trans HJ126.out (Nat.le_of_succ_le HJ97.out)) (Nat.le_of_succ_le HJ60.out)) (Nat.le_of_succ_le HJ49.out)) (Nat.le_of_succ_le HJ40.out)) | exact Nat.le_of_succ_le (Nat.le_trans (Nat.le_trans (Nat.le_trans (Nat.le_trans (Nat.le_trans HJ126.out (Nat.le_of_succ_le HJ97.out)) (Nat.le_of_succ_le HJ60.out)) (Nat.le_of_succ_le HJ49.out)) (Nat.le_of_succ_le HJ40.out)) (Nat.le_of_succ_le HJ23.out)) | exact Nat.le_of_succ_le (Nat.le_trans (Nat.le_trans (Nat.le_trans (Nat.le_trans (Nat.le_trans (Nat.le_trans HJ126.out (Nat.le_of_succ_le HJ97.out)) (Nat.le_of_succ_le HJ60.out)) (Nat.le_of_succ_le HJ49.out)) (Nat.le_of_succ_le HJ40.out)) (Nat.le_of_succ_le HJ23.out)) (Nat.le_of_succ_le HJ21.out)) | (have := HJ7.out; have := HJ21.out; have := HJ23.out; have := HJ40.out; have := HJ49.out; have := HJ60.out; have := HJ97.out; have := HJ126.out; omega)⟩, ⟨bk BK346⟩, ⟨bk BK350⟩, ⟨bk BK359⟩, ⟨bk BK378⟩, ⟨bk BK379⟩, ⟨bk BK380⟩, ⟨bw HB⟩⟩
                           rw [if_pos c132] at H
                           have c132b0 : decide (t381 ≤ 10000) = true := decide_eq_true c132
                           clear c132
                           (first | rw [c132b0] | (simp only [i64_w, i32_w]; rw [c132b0]) | skip)
                           by_cases c133 : t382 ≤ 10000
                           rotate_left
                           ·as_aux_lemma =>
                            rw [if_neg c133] at H
                            have c133b0 : decide (t382 ≤ 10000) = false := decide_eq_false c133
                            clear c133
                            have H' := Aside0.mk H
                            clear H
                            go_wp2
                            (refine Met.intro ?_; go_step; refine Cut_mk (by kernel_rfl) ?rel28)
                            case rel28 => exact ⟨_, (false), (by first | rfl | (simp; done) | (simp [*]; done)), H', ⟨by first | exact Nat.le_refl _ | exact Nat.le_of_succ_le HJ126.out | exact Nat.le_of_succ_le (Nat.le_trans HJ126.out (Nat.le_of_succ_le HJ97.out)) | exact Nat.le_of_succ_le (Nat.le_trans (Nat.le_trans HJ126.out (Nat.le_of_succ_le HJ97.out)) (Nat.le_of_succ_le HJ60.out)) | exact Nat.le_of_succ_le (Nat.le_trans (Nat.le_trans (Nat.le_trans HJ126.out (Nat.le_of_succ_le HJ97.out)) (Nat.le_of_succ_le HJ60.out)) (Nat.le_of_succ_le HJ49.out)) | exact Nat.le_of_succ_le (Nat.le_trans (Nat.le_trans (Nat.le_trans (Nat.le_trans HJ126.out (Nat.le_of_succ_le HJ97.out)) (Nat.le_of_succ_le HJ60.out)) (Nat.le_of_succ_le HJ49.out)) (Nat.le_of_succ_le HJ40.out)) | exact Nat.le_of_succ_le (Nat.le_trans (Nat.le_trans (Nat.le_trans (Nat.le_trans (Nat.le_trans HJ126.out (Nat.le_of_succ_le HJ97.out)) (Nat.le_of_succ_le HJ60.out)) (Nat.le_of_succ_le HJ49.out)) (Nat.le_of_succ_le HJ40.out)) (Nat.le_of_succ_le HJ23.out)) | exact Nat.le_of_succ_le (Nat.le_trans (Nat.le_trans (Nat.le_trans (Nat.le_trans (Nat.le_trans (Nat.le_trans HJ126.out (Nat.le_of_succ_le HJ97.out)) (Nat.le_of_succ_le HJ60.out)) (Nat.le_of_succ_le HJ49.out)) (Nat.le_of_succ_le HJ40.out)) (Nat.le_of_succ_le HJ23.out)) (Nat.le_of_succ_le HJ21.out)) | (have := HJ7.out; have := HJ21.out; have := HJ23.out; have := HJ40.out; have := HJ49.out; have := HJ60.out; have := HJ97.out; have := HJ126.out; omega)⟩, ⟨bk BK346⟩, ⟨bk BK350⟩, ⟨bk BK359⟩, ⟨bk BK378⟩, ⟨bk BK379⟩, ⟨bk BK380⟩, ⟨bw HB⟩⟩
                           rw [if_pos c133] at H
                           have c133b0 : decide (t382 ≤ 10000) = true := decide_eq_true c133
                           clear c133
                           have H' := Aside0.mk H
                           clear H
                           have hnb142 := NB378_346.out
                           have hnc142 := NB346_378.out
                           have hnb143 := NB378_350.out
                           have hnc143 := NB350_378.out
                           have hnb144 := NB378_359.out
                           have hnc144 := NB359_378.out
                           have hnb145 := NB378_379.out
                           have hnc145 := NB379_378.out
                           have hnb146 := NB378_380.out
                           have hnc146 := NB380_378.out
                           have hcz147_0 := bc0 BK378
                           have hcz147_1 := bc1 BK378
                           have hfz147_0 := blk_frozen BK378.out 0
                           have hfz147_1 := blk_frozen BK378.out 1
                           have H := H'.out
                           clear H'
                           by_cases c134 : t373 ≤ 1000
                           rotate_left
                           ·as_aux_lemma =>
                            rw [if_neg c134] at H
                            have c134b0 : decide (t373 ≤ 1000) = false := decide_eq_false c134
                            (try simp only [c134b0, Bool.not_true, Bool.not_false])
                            clear c134
                            have H' := Aside0.mk H
                            clear H
                            go_wp2
                            (refine Met.intro ?_; go_step; refine Cut_mk (by kernel_rfl) ?rel29)
                            case rel29 => exact ⟨_, (false), (by first | rfl | (simp; done) | (simp [*]; done)), H', ⟨by first | exact Nat.le_refl _ | exact Nat.le_of_succ_le HJ126.out | exact Nat.le_of_succ_le (Nat.le_trans HJ126.out (Nat.le_of_succ_le HJ97.out)) | exact Nat.le_of_succ_le (Nat.le_trans (Nat.le_trans HJ126.out (Nat.le_of_succ_le HJ97.out)) (Nat.le_of_succ_le HJ60.out)) | exact Nat.le_of_succ_le (Nat.le_trans (Nat.le_trans (Nat.le_trans HJ126.out (Nat.le_of_succ_le HJ97.out)) (Nat.le_of_succ_le HJ60.out)) (Nat.le_of_succ_le HJ49.out)) | exact Nat.le_of_succ_le (Nat.le_trans (Nat.le_trans (Nat.le_trans (Nat.le_trans HJ126.out (Nat.le_of_succ_le HJ97.out)) (Nat.le_of_succ_le HJ60.out)) (Nat.le_of_succ_le HJ49.out)) (Nat.le_of_succ_le HJ40.out)) | exact Nat.le_of_succ_le (Nat.le_trans (Nat.le_trans (Nat.le_trans (Nat.le_trans (Nat.le_trans HJ126.out (Nat.le_of_succ_le HJ97.out)) (Nat.le_of_succ_le HJ60.out)) (Nat.le_of_succ_le HJ49.out)) (Nat.le_of_succ_le HJ40.out)) (Nat.le_of_succ_le HJ23.out)) | exact Nat.le_of_succ_le (Nat.le_trans (Nat.le_trans (Nat.le_trans (Nat.le_trans (Nat.le_trans (Nat.le_trans HJ126.out (Nat.le_of_succ_le HJ97.out)) (Nat.le_of_succ_le HJ60.out)) (Nat.le_of_succ_le HJ49.out)) (Nat.le_of_succ_le HJ40.out)) (Nat.le_of_succ_le HJ23.out)) (Nat.le_of_succ_le HJ21.out)) | (have := HJ7.out; have := HJ21.out; have := HJ23.out; have := HJ40.out; have := HJ49.out; have := HJ60.out; have := HJ97.out; have := HJ126.out; omega)⟩, ⟨bk BK346⟩, ⟨bk BK350⟩, ⟨bk BK359⟩, ⟨bk BK378⟩, ⟨bk BK379⟩, ⟨bk BK380⟩, ⟨bw HB⟩⟩
                           rw [if_pos c134] at H
                           have c134b0 : decide (t373 ≤ 1000) = true := decide_eq_true c134
                           (try simp only [c134b0, Bool.not_true, Bool.not_false])
                           clear c134
                           have H' := Aside0.mk H
                           clear H
                           have hnb148 := NB379_346.out
                           have hnc148 := NB346_379.out
                           have hnb149 := NB379_350.out
                           have hnc149 := NB350_379.out
                           have hnb150 := NB379_359.out
                           have hnc150 := NB359_379.out
                           have hnb151 := NB379_380.out
                           have hnc151 := NB380_379.out
                           have hcz152_0 := bc0 BK379
                           have hcz152_1 := bc1 BK379
                           have hfz152_0 := blk_frozen BK379.out 0
                           have hfz152_1 := blk_frozen BK379.out 1
                           have H := H'.out
                           clear H'
                           by_cases c135 : t375 ≤ 1000
                           rotate_left
                           ·as_aux_lemma =>
                            rw [if_neg c135] at H
                            have c135b0 : decide (t375 ≤ 1000) = false := decide_eq_false c135
                            (try simp only [c135b0, Bool.not_true, Bool.not_false])
                            clear c135
                            have H' := Aside0.mk H
                            clear H
                            go_wp2
                            (refine Met.intro ?_; go_step; refine Cut_mk (by kernel_rfl) ?rel30)
                            case rel30 => exact ⟨_, (false), (by first | rfl | (simp; done) | (simp [*]; done)), H', ⟨by first | exact Nat.le_refl _ | exact Nat.le_of_succ_le HJ126.out | exact Nat.le_of_succ_le (Nat.le_trans HJ126.out (Nat.le_of_succ_le HJ97.out)) | exact Nat.le_of_succ_le (Nat.le_trans (Nat.le_trans HJ126.out (Nat.le_of_succ_le HJ97.out)) (Nat.le_of_succ_le HJ60.out)) | exact Nat.le_of_succ_le (Nat.le_trans (Nat.le_trans (Nat.le_trans HJ126.out (Nat.le_of_succ_le HJ97.out)) (Nat.le_of_succ_le HJ60.out)) (Nat.le_of_succ_le HJ49.out)) | exact Nat.le_of_succ_le (Nat.le_trans (Nat.le_trans (Nat.le_trans (Nat.le_trans HJ126.out (Nat.le_of_succ_le HJ97.out)) (Nat.le_of_succ_le HJ60.out)) (Nat.le_of_succ_le HJ49.out)) (Nat.le_of_succ_le HJ40.out)) | exact Nat.le_of_succ_le (Nat.le_trans (Nat.le_trans (Nat.le_trans (Nat.le_trans (Nat.le_trans HJ126.out (Nat.le_of_succ_le HJ97.out)) (Nat.le_of_succ_le HJ60.out)) (Nat.le_of_succ_le HJ49.out)) (Nat.le_of_succ_le HJ40.out)) (Nat.le_of_succ_le HJ23.out)) | exact Nat.le_of_succ_le (Nat.le_trans (Nat.le_trans (Nat.le_trans (Nat.le_trans (Nat.le_trans (Nat.le_trans HJ126.out (Nat.le_of_succ_le HJ97.out)) (Nat.le_of_succ_le HJ60.out)) (Nat.le_of_succ_le HJ49.out)) (Nat.le_of_succ_le HJ40.out)) (Nat.le_of_succ_le HJ23.out)) (Nat.le_of_succ_le HJ21.out)) | (have := HJ7.out; have := HJ21.out; have := HJ23.out; have := HJ40.out; have := HJ49.out; have := HJ60.out; have := HJ97.out; have := HJ126.out; omega)⟩, ⟨bk BK346⟩, ⟨bk BK350⟩, ⟨bk BK359⟩, ⟨bk BK378⟩, ⟨bk BK379⟩, ⟨bk BK380⟩, ⟨bw HB⟩⟩
                           rw [if_pos c135] at H
                           have c135b0 : decide (t375 ≤ 1000) = true := decide_eq_true c135
                           (try simp only [c135b0, Bool.not_true, Bool.not_false])
                           clear c135
                           have H' := Aside0.mk H
                           clear H
                           have hnb153 := NB380_346.out
                           have hnc153 := NB346_380.out
                           have hnb154 := NB380_350.out
                           have hnc154 := NB350_380.out
                           have hnb155 := NB380_359.out
                           have hnc155 := NB359_380.out
                           have hcz156_0 := bc0 BK380
                           have hcz156_1 := bc1 BK380
                           have hfz156_0 := blk_frozen BK380.out 0
                           have hfz156_1 := blk_frozen BK380.out 1
                           have H := H'.out
                           clear H'
                           by_cases c136 : t377 ≤ 100
                           rotate_left
                           ·as_aux_lemma =>
                            rw [if_neg c136] at H
                            have c136b0 : decide (t377 ≤ 100) = false := decide_eq_false c136
                            (try simp only [c136b0, Bool.not_true, Bool.not_false])
                            clear c136
                            have H' := Aside0.mk H
                            clear H
                            go_wp2
                            (refine Met.intro ?_; go_step; refine Cut_mk (by kernel_rfl) ?rel31)
                            case rel31 => exact ⟨_, (false), (by first | rfl | (simp; done) | (simp [*]; done)), H', ⟨by first | exact Nat.le_refl _ | exact Nat.le_of_succ_le HJ126.out | exact Nat.le_of_succ_le (Nat.le_trans HJ126.out (Nat.le_of_succ_le HJ97.out)) | exact Nat.le_of_succ_le (Nat.le_trans (Nat.le_trans HJ126.out (Nat.le_of_succ_le HJ97.out)) (Nat.le_of_succ_le HJ60.out)) | exact Nat.le_of_succ_le (Nat.le_trans (Nat.le_trans (Nat.le_trans HJ126.out (Nat.le_of_succ_le HJ97.out)) (Nat.le_of_succ_le HJ60.out)) (Nat.le_of_succ_le HJ49.out)) | exact Nat.le_of_succ_le (Nat.le_trans (Nat.le_trans (Nat.le_trans (Nat.le_trans HJ126.out (Nat.le_of_succ_le HJ97.out)) (Nat.le_of_succ_le HJ60.out)) (Nat.le_of_succ_le HJ49.out)) (Nat.le_of_succ_le HJ40.out)) | exact Nat.le_of_succ_le (Nat.le_trans (Nat.le_trans (Nat.le_trans (Nat.le_trans (Nat.le_trans HJ126.out (Nat.le_of_succ_le HJ97.out)) (Nat.le_of_succ_le HJ60.out)) (Nat.le_of_succ_le HJ49.out)) (Nat.le_of_succ_le HJ40.out)) (Nat.le_of_succ_le HJ23.out)) | exact Nat.le_of_succ_le (Nat.le_trans (Nat.le_trans (Nat.le_trans (Nat.le_trans (Nat.le_trans (Nat.le_trans HJ126.out (Nat.le_of_succ_le HJ97.out)) (Nat.le_of_succ_le HJ60.out)) (Nat.le_of_succ_le HJ49.out)) (Nat.le_of_succ_le HJ40.out)) (Nat.le_of_succ_le HJ23.out)) (Nat.le_of_succ_le HJ21.out)) | (have := HJ7.out; have := HJ21.out; have := HJ23.out; have := HJ40.out; have := HJ49.out; have := HJ60.out; have := HJ97.out; have := HJ126.out; omega)⟩, ⟨bk BK346⟩, ⟨bk BK350⟩, ⟨bk BK359⟩, ⟨bk BK378⟩, ⟨bk BK379⟩, ⟨bk BK380⟩, ⟨bw HB⟩⟩
                           rw [if_pos c136] at H
                           have c136b0 : decide (t377 ≤ 100) = true := decide_eq_true c136
                           (try simp only [c136b0, Bool.not_true, Bool.not_false])
                           clear c136
                           have H' := Aside0.mk H
                           clear H
                           have H := H'.out
                           clear H'
                           by_cases c137 : t372 ≤ 10000
                           rotate_left
                           ·as_aux_lemma =>
                            rw [if_neg c137] at H
                            have c137b0 : decide (t372 ≤ 10000) = false := decide_eq_false c137
                            (try simp only [c137b0, Bool.not_true, Bool.not_false])
                            clear c137
                            have H' := Aside0.mk H
                            clear H
                            go_wp2
                            (refine Met.intro ?_; go_step; refine Cut_mk (by kernel_rfl) ?rel32)
                            case rel32 => exact ⟨_, (false), (by first | rfl | (simp; done) | (simp [*]; done)), H', ⟨by first | exact Nat.le_refl _ | exact Nat.le_of_succ_le HJ126.out | exact Nat.le_of_succ_le (Nat.le_trans HJ126.out (Nat.le_of_succ_le HJ97.out)) | exact Nat.le_of_succ_le (Nat.le_trans (Nat.le_trans HJ126.out (Nat.le_of_succ_le HJ97.out)) (Nat.le_of_succ_le HJ60.out)) | exact Nat.le_of_succ_le (Nat.le_trans (Nat.le_trans (Nat.le_trans HJ126.out (Nat.le_of_succ_le HJ97.out)) (Nat.le_of_succ_le HJ60.out)) (Nat.le_of_succ_le HJ49.out)) | exact Nat.le_of_succ_le (Nat.le_trans (Nat.le_trans (Nat.le_trans (Nat.le_trans HJ126.out (Nat.le_of_succ_le HJ97.out)) (Nat.le_of_succ_le HJ60.out)) (Nat.le_of_succ_le HJ49.out)) (Nat.le_of_succ_le HJ40.out)) | exact Nat.le_of_succ_le (Nat.le_trans (Nat.le_trans (Nat.le_trans (Nat.le_trans (Nat.le_trans HJ126.out (Nat.le_of_succ_le HJ97.out)) (Nat.le_of_succ_le HJ60.out)) (Nat.le_of_succ_le HJ49.out)) (Nat.le_of_succ_le HJ40.out)) (Nat.le_of_succ_le HJ23.out)) | exact Nat.le_of_succ_le (Nat.le_trans (Nat.le_trans (Nat.le_trans (Nat.le_trans (Nat.le_trans (Nat.le_trans HJ126.out (Nat.le_of_succ_le HJ97.out)) (Nat.le_of_succ_le HJ60.out)) (Nat.le_of_succ_le HJ49.out)) (Nat.le_of_succ_le HJ40.out)) (Nat.le_of_succ_le HJ23.out)) (Nat.le_of_succ_le HJ21.out)) | (have := HJ7.out; have := HJ21.out; have := HJ23.out; have := HJ40.out; have := HJ49.out; have := HJ60.out; have := HJ97.out; have := HJ126.out; omega)⟩, ⟨bk BK346⟩, ⟨bk BK350⟩, ⟨bk BK359⟩, ⟨bk BK378⟩, ⟨bk BK379⟩, ⟨bk BK380⟩, ⟨bw HB⟩⟩
                           rw [if_pos c137] at H
                           have c137b0 : decide (t372 ≤ 10000) = true := decide_eq_true c137
                           (try simp only [c137b0, Bool.not_true, Bool.not_false])
                           clear c137
                           have H' := Aside0.mk H
                           clear H
                           have H := H'.out
                           clear H'
                           by_cases c138 : t374 ≤ 10000
                           rotate_left
                           ·as_aux_lemma =>
                            rw [if_neg c138] at H
                            have c138b0 : decide (t374 ≤ 10000) = false := decide_eq_false c138
                            (try simp only [c138b0, Bool.not_true, Bool.not_false])
                            clear c138
                            have H' := Aside0.mk H
                            clear H
                            go_wp2
                            (refine Met.intro ?_; go_step; refine Cut_mk (by kernel_rfl) ?rel33)
                            case rel33 => exact ⟨_, (false), (by first | rfl | (simp; done) | (simp [*]; done)), H', ⟨by first | exact Nat.le_refl _ | exact Nat.le_of_succ_le HJ126.out | exact Nat.le_of_succ_le (Nat.le_trans HJ126.out (Nat.le_of_succ_le HJ97.out)) | exact Nat.le_of_succ_le (Nat.le_trans (Nat.le_trans HJ126.out (Nat.le_of_succ_le HJ97.out)) (Nat.le_of_succ_le HJ60.out)) | exact Nat.le_of_succ_le (Nat.le_trans (Nat.le_trans (Nat.le_trans HJ126.out (Nat.le_of_succ_le HJ97.out)) (Nat.le_of_succ_le HJ60.out)) (Nat.le_of_succ_le HJ49.out)) | exact Nat.le_of_succ_le (Nat.le_trans (Nat.le_trans (Nat.le_trans (Nat.le_trans HJ126.out (Nat.le_of_succ_le HJ97.out)) (Nat.le_of_succ_le HJ60.out)) (Nat.le_of_succ_le HJ49.out)) (Nat.le_of_succ_le HJ40.out)) | exact Nat.le_of_succ_le (Nat.le_trans (Nat.le_trans (Nat.le_trans (Nat.le_trans (Nat.le_trans HJ126.out (Nat.le_of_succ_le HJ97.out)) (Nat.le_of_succ_le HJ60.out)) (Nat.le_of_succ_le HJ49.out)) (Nat.le_of_succ_le HJ40.out)) (Nat.le_of_succ_le HJ23.out)) | exact Nat.le_of_succ_le (Nat.le_trans (Nat.le_trans (Nat.le_trans (Nat.le_trans (Nat.le_trans (Nat.le_trans HJ126.out (Nat.le_of_succ_le HJ97.out)) (Nat.le_of_succ_le HJ60.out)) (Nat.le_of_succ_le HJ49.out)) (Nat.le_of_succ_le HJ40.out)) (Nat.le_of_succ_le HJ23.out)) (Nat.le_of_succ_le HJ21.out)) | (have := HJ7.out; have := HJ21.out; have := HJ23.out; have := HJ40.out; have := HJ49.out; have := HJ60.out; have := HJ97.out; have := HJ126.out; omega)⟩, ⟨bk BK346⟩, ⟨bk BK350⟩, ⟨bk BK359⟩, ⟨bk BK378⟩, ⟨bk BK379⟩, ⟨bk BK380⟩, ⟨bw HB⟩⟩
                           rw [if_pos c138] at H
                           have c138b0 : decide (t374 ≤ 10000) = true := decide_eq_true c138
                           (try simp only [c138b0, Bool.not_true, Bool.not_false])
                           clear c138
                           have H' := Aside0.mk H
                           clear H
                           have H := H'.out
                           clear H'
                           by_cases c139 : t376 ≤ 1000
                           rotate_left
                           ·as_aux_lemma =>
                            rw [if_neg c139] at H
                            have c139b0 : decide (t376 ≤ 1000) = false := decide_eq_false c139
                            (try simp only [c139b0, Bool.not_true, Bool.not_false])
                            clear c139
                            have H' := Aside0.mk H
                            clear H
                            go_wp2
                            (refine Met.intro ?_; go_step; refine Cut_mk (by kernel_rfl) ?rel34)
                            case rel34 => exact ⟨_, (false), (by first | rfl | (simp; done) | (simp [*]; done)), H', ⟨by first | exact Nat.le_refl _ | exact Nat.le_of_succ_le HJ126.out | exact Nat.le_of_succ_le (Nat.le_trans HJ126.out (Nat.le_of_succ_le HJ97.out)) | exact Nat.le_of_succ_le (Nat.le_trans (Nat.le_trans HJ126.out (Nat.le_of_succ_le HJ97.out)) (Nat.le_of_succ_le HJ60.out)) | exact Nat.le_of_succ_le (Nat.le_trans (Nat.le_trans (Nat.le_trans HJ126.out (Nat.le_of_succ_le HJ97.out)) (Nat.le_of_succ_le HJ60.out)) (Nat.le_of_succ_le HJ49.out)) | exact Nat.le_of_succ_le (Nat.le_trans (Nat.le_trans (Nat.le_trans (Nat.le_trans HJ126.out (Nat.le_of_succ_le HJ97.out)) (Nat.le_of_succ_le HJ60.out)) (Nat.le_of_succ_le HJ49.out)) (Nat.le_of_succ_le HJ40.out)) | exact Nat.le_of_succ_le (Nat.le_trans (Nat.le_trans (Nat.le_trans (Nat.le_trans (Nat.le_trans HJ126.out (Nat.le_of_succ_le HJ97.out)) (Nat.le_of_succ_le HJ60.out)) (Nat.le_of_succ_le HJ49.out)) (Nat.le_of_succ_le HJ40.out)) (Nat.le_of_succ_le HJ23.out)) | exact Nat.le_of_succ_le (Nat.le_trans (Nat.le_trans (Nat.le_trans (Nat.le_trans (Nat.le_trans (Nat.le_trans HJ126.out (Nat.le_of_succ_le HJ97.out)) (Nat.le_of_succ_le HJ60.out)) (Nat.le_of_succ_le HJ49.out)) (Nat.le_of_succ_le HJ40.out)) (Nat.le_of_succ_le HJ23.out)) (Nat.le_of_succ_le HJ21.out)) | (have := HJ7.out; have := HJ21.out; have := HJ23.out; have := HJ40.out; have := HJ49.out; have := HJ60.out; have := HJ97.out; have := HJ126.out; omega)⟩, ⟨bk BK346⟩, ⟨bk BK350⟩, ⟨bk BK359⟩, ⟨bk BK378⟩, ⟨bk BK379⟩, ⟨bk BK380⟩, ⟨bw HB⟩⟩
                           rw [if_pos c139] at H
                           have c139b0 : decide (t376 ≤ 1000) = true := decide_eq_true c139
                           (try simp only [c139b0, Bool.not_true, Bool.not_false])
                           clear c139
                           have H' := Aside0.mk H
                           clear H
                           have H := H'.out
                           clear H'
                           by_cases c140 : t372 ≥ (-10000)
                           rotate_left
                           ·as_aux_lemma =>
                            rw [if_neg c140] at H
                            have c140b0 : decide ((-10000) ≤ t372) = false := decide_eq_false c140
                            (try simp only [c140b0, Bool.not_true, Bool.not_false])
                            clear c140
                            have H' := Aside0.mk H
                            clear H
                            go_wp2
                            (refine Met.intro ?_; go_step; refine Cut_mk (by kernel_rfl) ?rel35)
                            case rel35 => exact ⟨_, (false), (by first | rfl | (simp; done) | (simp [*]; done)), H', ⟨by first | exact Nat.le_refl _ | exact Nat.le_of_succ_le HJ126.out | exact Nat.le_of_succ_le (Nat.le_trans HJ126.out (Nat.le_of_succ_le HJ97.out)) | exact Nat.le_of_succ_le (Nat.le_trans (Nat.le_trans HJ126.out (Nat.le_of_succ_le HJ97.out)) (Nat.le_of_succ_le HJ60.out)) | exact Nat.le_of_succ_le (Nat.le_trans (Nat.le_trans (Nat.le_trans HJ126.out (Nat.le_of_succ_le HJ97.out)) (Nat.le_of_succ_le HJ60.out)) (Nat.le_of_succ_le HJ49.out)) | exact Nat.le_of_succ_le (Nat.le_trans (Nat.le_trans (Nat.le_trans (Nat.le_trans HJ126.out (Nat.le_of_succ_le HJ97.out)) (Nat.le_of_succ_le HJ60.out)) (Nat.le_of_succ_le HJ49.out)) (Nat.le_of_succ_le HJ40.out)) | exact Nat.le_of_succ_le (Nat.le_trans (Nat.le_trans (Nat.le_trans (Nat.le_trans (Nat.le_trans HJ126.out (Nat.le_of_succ_le HJ97.out)) (Nat.le_of_succ_le HJ60.out)) (Nat.le_of_succ_le HJ49.out)) (Nat.le_of_succ_le HJ40.out)) (Nat.le_of_succ_le HJ23.out)) | exact Nat.le_of_succ_le (Nat.le_trans (Nat.le_trans (Nat.le_trans (Nat.le_trans (Nat.le_trans (Nat.le_trans HJ126.out (Nat.le_of_succ_le HJ97.out)) (Nat.le_of_succ_le HJ60.out)) (Nat.le_of_succ_le HJ49.out)) (Nat.le_of_succ_le HJ40.out)) (Nat.le_of_succ_le HJ23.out)) (Nat.le_of_succ_le HJ21.out)) | (have := HJ7.out; have := HJ21.out; have := HJ23.out; have := HJ40.out; have := HJ49.out; have := HJ60.out; have := HJ97.out; have := HJ126.out; omega)⟩, ⟨bk BK346⟩, ⟨bk BK350⟩, ⟨bk BK359⟩, ⟨bk BK378⟩, ⟨bk BK379⟩, ⟨bk BK380⟩, ⟨bw HB⟩⟩
                           rw [if_pos c140] at H
                           have c140b0 : decide ((-10000) ≤ t372) = true := decide_eq_true c140
                           (try simp only [c140b0, Bool.not_true, Bool.not_false])
                           clear c140
                           have H' := Aside0.mk H
                           clear H
                           have H := H'.out
                           clear H'
                           by_cases c141 : t374 ≥ (-10000)
                           rotate_left
                           ·as_aux_lemma =>
                            rw [if_neg c141] at H
                            have c141b0 : decide ((-10000) ≤ t374) = false := decide_eq_false c141
                            (try simp only [c141b0, Bool.not_true, Bool.not_false])
                            clear c141
                            have H' := Aside0.mk H
                            clear H
                            go_wp2
                            (refine Met.intro ?_; go_step; refine Cut_mk (by kernel_rfl) ?rel36)
                            case rel36 => exact ⟨_, (false), (by first | rfl | (simp; done) | (simp [*]; done)), H', ⟨by first | exact Nat.le_refl _ | exact Nat.le_of_succ_le HJ126.out | exact Nat.le_of_succ_le (Nat.le_trans HJ126.out (Nat.le_of_succ_le HJ97.out)) | exact Nat.le_of_succ_le (Nat.le_trans (Nat.le_trans HJ126.out (Nat.le_of_succ_le HJ97.out)) (Nat.le_of_succ_le HJ60.out)) | exact Nat.le_of_succ_le (Nat.le_trans (Nat.le_trans (Nat.le_trans HJ126.out (Nat.le_of_succ_le HJ97.out)) (Nat.le_of_succ_le HJ60.out)) (Nat.le_of_succ_le HJ49.out)) | exact Nat.le_of_succ_le (Nat.le_trans (Nat.le_trans (Nat.le_trans (Nat.le_trans HJ126.out (Nat.le_of_succ_le HJ97.out)) (Nat.le_of_succ_le HJ60.out)) (Nat.le_of_succ_le HJ49.out)) (Nat.le_of_succ_le HJ40.out)) | exact Nat.le_of_succ_le (Nat.le_trans (Nat.le_trans (Nat.le_trans (Nat.le_trans (Nat.le_trans HJ126.out (Nat.le_of_succ_le HJ97.out)) (Nat.le_of_succ_le HJ60.out)) (Nat.le_of_succ_le HJ49.out)) (Nat.le_of_succ_le HJ40.out)) (Nat.le_of_succ_le HJ23.out)) | exact Nat.le_of_succ_le (Nat.le_trans (Nat.le_trans (Nat.le_trans (Nat.le_trans (Nat.le_trans (Nat.le_trans HJ126.out (Nat.le_of_succ_le HJ97.out)) (Nat.le_of_succ_le HJ60.out)) (Nat.le_of_succ_le HJ49.out)) (Nat.le_of_succ_le HJ40.out)) (Nat.le_of_succ_le HJ23.out)) (Nat.le_of_succ_le HJ21.out)) | (have := HJ7.out; have := HJ21.out; have := HJ23.out; have := HJ40.out; have := HJ49.out; have := HJ60.out; have := HJ97.out; have := HJ126.out; omega)⟩, ⟨bk BK346⟩, ⟨bk BK350⟩, ⟨bk BK359⟩, ⟨bk BK378⟩, ⟨bk BK379⟩, ⟨bk BK380⟩, ⟨bw HB⟩⟩
                           rw [if_pos c141] at H
                           have c141b0 : decide ((-10000) ≤ t374) = true := decide_eq_true c141
                           (try simp only [c141b0, Bool.not_true, Bool.not_false])
                           clear c141
                           have H' := Aside0.mk H
                           clear H
                           go_wp2
                           (refine Met.intro ?_; go_step; refine Cut_mk (by kernel_rfl) ?rel37)
                           case rel37 => exact ⟨_, (decide (t376 ≥ (-1000))), (by first | rfl | (simp; done) | (simp [*]; done)), H', ⟨by first | exact Nat.le_refl _ | exact Nat.le_of_succ_le HJ126.out | exact Nat.le_of_succ_le (Nat.le_trans HJ126.out (Nat.le_of_succ_le HJ97.out)) | exact Nat.le_of_succ_le (Nat.le_trans (Nat.le_trans HJ126.out (Nat.le_of_succ_le HJ97.out)) (Nat.le_of_succ_le HJ60.out)) | exact Nat.le_of_succ_le (Nat.le_trans (Nat.le_trans (Nat.le_trans HJ126.out (Nat.le_of_succ_le HJ97.out)) (Nat.le_of_succ_le HJ60.out)) (Nat.le_of_succ_le HJ49.out)) | exact Nat.le_of_succ_le (Nat.le_trans (Nat.le_trans (Nat.le_trans (Nat.le_trans HJ126.out (Nat.le_of_succ_le HJ97.out)) (Nat.le_of_succ_le HJ60.out)) (Nat.le_of_succ_le HJ49.out)) (Nat.le_of_succ_le HJ40.out)) | exact Nat.le_of_succ_le (Nat.le_trans (Nat.le_trans (Nat.le_trans (Nat.le_trans (Nat.le_trans HJ126.out (Nat.le_of_succ_le HJ97.out)) (Nat.le_of_succ_le HJ60.out)) (Nat.le_of_succ_le HJ49.out)) (Nat.le_of_succ_le HJ40.out)) (Nat.le_of_succ_le HJ23.out)) | exact Nat.le_of_succ_le (Nat.le_trans (Nat.le_trans (Nat.le_trans (Nat.le_trans (Nat.le_trans (Nat.le_trans HJ126.out (Nat.le_of_succ_le HJ97.out)) (Nat.le_of_succ_le HJ60.out)) (Nat.le_of_succ_le HJ49.out)) (Nat.le_of_succ_le HJ40.out)) (Nat.le_of_succ_le HJ23.out)) (Nat.le_of_succ_le HJ21.out)) | (have := HJ7.out; have := HJ21.out; have := HJ23.out; have := HJ40.out; have := HJ49.out; have := HJ60.out; have := HJ97.out; have := HJ126.out; omega)⟩, ⟨bk BK346⟩, ⟨bk BK350⟩, ⟨bk BK359⟩, ⟨bk BK378⟩, ⟨bk BK379⟩, ⟨bk BK380⟩, ⟨bw HB⟩⟩
                         case rest26 =>
                           intro u_ wc hcut l_ hl_; (simp only [rl, List.reduceReplicate, List.cons_append, List.nil_append, List.append_nil, Bool.not_true, Bool.not_false, fu, Nat.reduceAdd] at hl_); subst hl_; generalize u_ 285 = v285 at hcut ⊢
                           clear HC131
                           try clear c1
                           try clear c4
                           try clear c21
                           try clear c46
                           try clear c60
                           try clear c125
                           try clear c126
                           try clear c130
                           try clear hcz108_0
                           try clear hcz108_1
                           try clear hcz113_0
                           try clear hcz113_1
                           try clear hcz117_0
                           try clear hcz117_1
                           try clear hcz119_0
                           try clear hcz119_1
                           try clear hcz120_0
                           try clear hcz120_1
                           try clear hcz121_0
                           try clear hcz121_1
                           try clear hcz12_0
                           try clear hcz12_1
                           try clear hcz16_0
                           try clear hcz16_1
                           try clear hcz55_0
                           try clear hcz55_1
                           try clear hcz57_0
                           try clear hcz57_1
                           try clear hfz108_0
                           try clear hfz108_1
                           try clear hfz113_0
                           try clear hfz113_1
                           try clear hfz117_0
                           try clear hfz117_1
                           try clear hfz119_0
                           try clear hfz119_1
                           try clear hfz120_0
                           try clear hfz120_1
                           try clear hfz121_0
                           try clear hfz121_1
                           try clear hfz12_0
                           try clear hfz12_1
                           try clear hfz16_0
                           try clear hfz16_1
                           try clear hfz55_0
                           try clear hfz55_1
                           try clear hfz57_0
                           try clear hfz57_1
                           obtain ⟨kq, x285_130, rfl, HA, HJ130, BK346, BK350, BK359, BK378, BK379, BK380, HB⟩ := hcut
                           cases kq with
                           | zero => exact absurd HA.out (by simp [laws_FnThinnedAndBlended.j9])
                           | succ kj130 =>
                            have H := HA.out
                            clear HA
                            simp only [laws_FnThinnedAndBlended.j9] at H
                            by_cases c264 : x285_130 = true
                            rotate_left
                            ·replace c264 := Bool.eq_false_iff.mpr c264
                             subst c264
                             have H1 : ((impl_BlendAmounts.f kj130 t374 t375 t372 t373 t376 t377).bind fun bt390 => (if bt390.2.2 = true then (if (!(t372 == t374) || (!(t373 == t375))) = true then (if bt390.1 = t382 then (if bt390.2.1 = t381 then (some true) else (some false)) else (some false)) else (some true)) else (some false))) = some r := by rw [if_neg (show ¬ (false = true) by decide)] at H; exact H
                             clear H
                             have H := H1
                             clear H1
                             replace H := Option.bind_eq_some_iff.mp H
                             obtain ⟨⟨t390, t391, t392⟩, A3070, H⟩ := H
                             replace H : (if t392 = true then (if (!(t372 == t374) || (!(t373 == t375))) = true then (if t390 = t382 then (if t391 = t381 then (some true) else (some false)) else (some false)) else (some true)) else (some false)) = some r := H
                             have A307 := Aside0.mk A3070
                             clear A3070
                             by_cases c308 : t392 = true
                             rotate_left
                             ·replace c308 := Bool.eq_false_iff.mpr c308
                              subst c308
                              have H1 : (some false) = some r := by rw [if_neg (show ¬ (false = true) by decide)] at H; exact H
                              clear H
                              have H := H1
                              clear H1
                              exact absurd ((Option.some.inj H).trans hrt.out) (by decide)
                             subst c308
                             have H1 : (if (!(t372 == t374) || (!(t373 == t375))) = true then (if t390 = t382 then (if t391 = t381 then (some true) else (some false)) else (some false)) else (some true)) = some r := by rw [if_pos rfl] at H; exact H
                             clear H
                             have H := H1
                             clear H1
                             by_cases c309 : (!(t372 == t374) || (!(t373 == t375))) = true
                             rotate_left
                             ·rw [if_neg c309] at H
                              have c309b0 : (!(t372 == t374) || (!(t373 == t375))) = false := by simpa using c309
                              clear c309
                              obtain rfl := Option.some.inj H
                              have hnb330 := NB379_346.out
                              have hnc330 := NB346_379.out
                              have hnb331 := NB379_350.out
                              have hnc331 := NB350_379.out
                              have hnb332 := NB379_359.out
                              have hnc332 := NB359_379.out
                              have hnb333 := NB379_378.out
                              have hnc333 := NB378_379.out
                              have hnb334 := NB379_380.out
                              have hnc334 := NB380_379.out
                              have hcz335_0 := bc0 BK379
                              have hcz335_1 := bc1 BK379
                              have hfz335_0 := blk_frozen BK379.out 0
                              have hfz335_1 := blk_frozen BK379.out 1
                              have hnb336 := NB378_346.out
                              have hnc336 := NB346_378.out
                              have hnb337 := NB378_350.out
                              have hnc337 := NB350_378.out
                              have hnb338 := NB378_359.out
                              have hnc338 := NB359_378.out
                              have hnb339 := NB378_380.out
                              have hnc339 := NB380_378.out
                              have hcz340_0 := bc0 BK378
                              have hcz340_1 := bc1 BK378
                              have hfz340_0 := blk_frozen BK378.out 0
                              have hfz340_1 := blk_frozen BK378.out 1
                              have hnb341 := NB380_346.out
                              have hnc341 := NB346_380.out
                              have hnb342 := NB380_350.out
                              have hnc342 := NB350_380.out
                              have hnb343 := NB380_359.out
                              have hnc343 := NB359_380.out
                              have hcz344_0 := bc0 BK380
                              have hcz344_1 := bc1 BK380
                              have hfz344_0 := blk_frozen BK380.out 0
                              have hfz344_1 := blk_frozen BK380.out 1
                              go_wp2_with (first | ((with_reducible refine gate_callee (f := 77) rfl ?_); refine gl 321 Try.func77 #[.agg #[.int .i64 t374, .int .i64 t375], .agg #[.int .i64 t372, .int .i64 t373], .agg #[.int .i64 t376, .int .i64 t377]] ?_; (with_reducible refine (impl_BlendAmounts.calls kj130 t374 t375 t372 t373 t376 t377 t390 t391 true _ A307.out).mono ?_); rintro e w345 ⟨rfl, hb⟩; refine ⟨_, rfl, ?_⟩; replace BK346 := bb BK346 hb; replace BK350 := bb BK350 hb; replace BK359 := bb BK359 hb; replace BK378 := bb BK378 hb; replace BK379 := bb BK379 hb; replace BK380 := bb BK380 hb; replace HB := bs HB hb; (try clear hb); have hcz346_0 := bc0 BK378; have hcz346_1 := bc1 BK378; have hfz346_0 := blk_frozen BK378.out 0; have hfz346_1 := blk_frozen BK378.out 1; have hcz347_0 := bc0 BK379; have hcz347_1 := bc1 BK379; have hfz347_0 := blk_frozen BK379.out 0; have hfz347_1 := blk_frozen BK379.out 1))
                              go_ret
                              exact ⟨by first | rfl | (simp [errW_none, errW_some] <;> rfl) | (simp [*, errW_none, errW_some] <;> rfl), bw HB⟩
                             rw [if_pos c309] at H
                             have c309b0 : (!(t372 == t374) || (!(t373 == t375))) = true := c309
                             clear c309
                             by_cases c310 : t390 = t382
                             rotate_left
                             ·rw [if_neg c310] at H
                              have c310b0 : (t390 == t382) = false := beq_eq_false_iff_ne.mpr c310
                              have c310b1 : (t390 != t382) = true := bne_iff_ne.mpr c310
                              exact absurd ((Option.some.inj H).trans hrt.out) (by decide)
                             rw [if_pos c310] at H
                             have c310b0 : (t390 == t382) = true := beq_iff_eq.mpr c310
                             have c310b1 : (t390 != t382) = false := bne_eq_false_iff_eq.mpr c310
                             clear c310
                             by_cases c311 : t391 = t381
                             rotate_left
                             ·rw [if_neg c311] at H
                              have c311b0 : (t391 == t381) = false := beq_eq_false_iff_ne.mpr c311
                              have c311b1 : (t391 != t381) = true := bne_iff_ne.mpr c311
                              exact absurd ((Option.some.inj H).trans hrt.out) (by decide)
                             rw [if_pos c311] at H
                             have c311b0 : (t391 == t381) = true := beq_iff_eq.mpr c311
                             have c311b1 : (t391 != t381) = false := bne_eq_false_iff_eq.mpr c311
                             clear c311
                             obtain rfl := Option.some.inj H
                             have hnb312 := NB379_346.out
                             have hnc312 := NB346_379.out
                             have hnb313 := NB379_350.out
                             have hnc313 := NB350_379.out
                             have hnb314 := NB379_359.out
                             have hnc314 := NB359_379.out
                             have hnb315 := NB379_378.out
                             have hnc315 := NB378_379.out
                             have hnb316 := NB379_380.out
                             have hnc316 := NB380_379.out
                             have hcz317_0 := bc0 BK379
                             have hcz317_1 := bc1 BK379
                             have hfz317_0 := blk_frozen BK379.out 0
                             have hfz317_1 := blk_frozen BK379.out 1
                             have hnb318 := NB378_346.out
                             have hnc318 := NB346_378.out
                             have hnb319 := NB378_350.out
                             have hnc319 := NB350_378.out
                             have hnb320 := NB378_359.out
                             have hnc320 := NB359_378.out
                             have hnb321 := NB378_380.out
                             have hnc321 := NB380_378.out
                             have hcz322_0 := bc0 BK378
                             have hcz322_1 := bc1 BK378
                             have hfz322_0 := blk_frozen BK378.out 0
                             have hfz322_1 := blk_frozen BK378.out 1
                             have hnb323 := NB380_346.out
                             have hnc323 := NB346_380.out
                             have hnb324 := NB380_350.out
                             have hnc324 := NB350_380.out
                             have hnb325 := NB380_359.out
                             have hnc325 := NB359_380.out
                             have hcz326_0 := bc0 BK380
                             have hcz326_1 := bc1 BK380
                             have hfz326_0 := blk_frozen BK380.out 0
                             have hfz326_1 := blk_frozen BK380.out 1
                             go_wp2_with (first | ((with_reducible refine gate_callee (f := 77) rfl ?_); refine gl 321 Try.func77 #[.agg #[.int .i64 t374, .int .i64 t375], .agg #[.int .i64 t372, .int .i64 t373], .agg #[.int .i64 t376, .int .i64 t377]] ?_; (with_reducible refine (impl_BlendAmounts.calls kj130 t374 t375 t372 t373 t376 t377 t390 t391 true _ A307.out).mono ?_); rintro e w327 ⟨rfl, hb⟩; refine ⟨_, rfl, ?_⟩; replace BK346 := bb BK346 hb; replace BK350 := bb BK350 hb; replace BK359 := bb BK359 hb; replace BK378 := bb BK378 hb; replace BK379 := bb BK379 hb; replace BK380 := bb BK380 hb; replace HB := bs HB hb; (try clear hb); have hcz328_0 := bc0 BK378; have hcz328_1 := bc1 BK378; have hfz328_0 := blk_frozen BK378.out 0; have hfz328_1 := blk_frozen BK378.out 1; have hcz329_0 := bc0 BK379; have hcz329_1 := bc1 BK379; have hfz329_0 := blk_frozen BK379.out 0; have hfz329_1 := blk_frozen BK379.out 1))
                             go_ret
                             exact ⟨by first | rfl | (simp [errW_none, errW_some] <;> rfl) | (simp [*, errW_none, errW_some] <;> rfl), bw HB⟩
                            subst c264
                            have H1 : (if (wrap64 ((wrap64 ((wrap64 ((wrap64 (t381 * t372)) * t375)) + (wrap64 ((wrap64 (t382 * t374)) * t373)))) * t377)) = (wrap64 ((wrap64 ((wrap64 (t376 * (wrap64 (t381 + t382)))) * t373)) * t375)) then ((impl_BlendAmounts.f kj130 t374 t375 t372 t373 t376 t377).bind fun bt387 => (if bt387.2.2 = true then (if (!(t372 == t374) || (!(t373 == t375))) = true then (if bt387.1 = t382 then (if bt387.2.1 = t381 then (some true) else (some false)) else (some false)) else (some true)) else (some false))) else (some false)) = some r := by rw [if_pos rfl] at H; exact H
                            clear H
                            have H := H1
                            clear H1
                            by_cases c265 : (wrap64 ((wrap64 ((wrap64 ((wrap64 (t381 * t372)) * t375)) + (wrap64 ((wrap64 (t382 * t374)) * t373)))) * t377)) = (wrap64 ((wrap64 ((wrap64 (t376 * (wrap64 (t381 + t382)))) * t373)) * t375))
                            rotate_left
                            ·rw [if_neg c265] at H
                             have c265b0 : ((wrap64 ((wrap64 ((wrap64 ((wrap64 (t381 * t372)) * t375)) + (wrap64 ((wrap64 (t382 * t374)) * t373)))) * t377)) == (wrap64 ((wrap64 ((wrap64 (t376 * (wrap64 (t381 + t382)))) * t373)) * t375))) = false := beq_eq_false_iff_ne.mpr c265
                             have c265b1 : ((wrap64 ((wrap64 ((wrap64 ((wrap64 (t381 * t372)) * t375)) + (wrap64 ((wrap64 (t382 * t374)) * t373)))) * t377)) != (wrap64 ((wrap64 ((wrap64 (t376 * (wrap64 (t381 + t382)))) * t373)) * t375))) = true := bne_iff_ne.mpr c265
                             exact absurd ((Option.some.inj H).trans hrt.out) (by decide)
                            rw [if_pos c265] at H
                            have c265b0 : ((wrap64 ((wrap64 ((wrap64 ((wrap64 (t381 * t372)) * t375)) + (wrap64 ((wrap64 (t382 * t374)) * t373)))) * t377)) == (wrap64 ((wrap64 ((wrap64 (t376 * (wrap64 (t381 + t382)))) * t373)) * t375))) = true := beq_iff_eq.mpr c265
                            have c265b1 : ((wrap64 ((wrap64 ((wrap64 ((wrap64 (t381 * t372)) * t375)) + (wrap64 ((wrap64 (t382 * t374)) * t373)))) * t377)) != (wrap64 ((wrap64 ((wrap64 (t376 * (wrap64 (t381 + t382)))) * t373)) * t375))) = false := bne_eq_false_iff_eq.mpr c265
                            clear c265
                            replace H := Option.bind_eq_some_iff.mp H
                            obtain ⟨⟨t387, t388, t389⟩, A2660, H⟩ := H
                            replace H : (if t389 = true then (if (!(t372 == t374) || (!(t373 == t375))) = true then (if t387 = t382 then (if t388 = t381 then (some true) else (some false)) else (some false)) else (some true)) else (some false)) = some r := H
                            have A266 := Aside0.mk A2660
                            clear A2660
                            by_cases c267 : t389 = true
                            rotate_left
                            ·replace c267 := Bool.eq_false_iff.mpr c267
                             subst c267
                             have H1 : (some false) = some r := by rw [if_neg (show ¬ (false = true) by decide)] at H; exact H
                             clear H
                             have H := H1
                             clear H1
                             exact absurd ((Option.some.inj H).trans hrt.out) (by decide)
                            subst c267
                            have H1 : (if (!(t372 == t374) || (!(t373 == t375))) = true then (if t387 = t382 then (if t388 = t381 then (some true) else (some false)) else (some false)) else (some true)) = some r := by rw [if_pos rfl] at H; exact H
                            clear H
                            have H := H1
                            clear H1
                            by_cases c268 : (!(t372 == t374) || (!(t373 == t375))) = true
                            rotate_left
                            ·rw [if_neg c268] at H
                             have c268b0 : (!(t372 == t374) || (!(t373 == t375))) = false := by simpa using c268
                             clear c268
                             obtain rfl := Option.some.inj H
                             have hnb289 := NB378_346.out
                             have hnc289 := NB346_378.out
                             have hnb290 := NB378_350.out
                             have hnc290 := NB350_378.out
                             have hnb291 := NB378_359.out
                             have hnc291 := NB359_378.out
                             have hnb292 := NB378_379.out
                             have hnc292 := NB379_378.out
                             have hnb293 := NB378_380.out
                             have hnc293 := NB380_378.out
                             have hcz294_0 := bc0 BK378
                             have hcz294_1 := bc1 BK378
                             have hfz294_0 := blk_frozen BK378.out 0
                             have hfz294_1 := blk_frozen BK378.out 1
                             have hnb295 := NB379_346.out
                             have hnc295 := NB346_379.out
                             have hnb296 := NB379_350.out
                             have hnc296 := NB350_379.out
                             have hnb297 := NB379_359.out
                             have hnc297 := NB359_379.out
                             have hnb298 := NB379_380.out
                             have hnc298 := NB380_379.out
                             have hcz299_0 := bc0 BK379
                             have hcz299_1 := bc1 BK379
                             have hfz299_0 := blk_frozen BK379.out 0
                             have hfz299_1 := blk_frozen BK379.out 1
                             have hnb300 := NB380_346.out
                             have hnc300 := NB346_380.out
                             have hnb301 := NB380_350.out
                             have hnc301 := NB350_380.out
                             have hnb302 := NB380_359.out
                             have hnc302 := NB359_380.out
                             have hcz303_0 := bc0 BK380
                             have hcz303_1 := bc1 BK380
                             have hfz303_0 := blk_frozen BK380.out 0
                             have hfz303_1 := blk_frozen BK380.out 1
                             go_wp2_with (first | ((with_reducible refine gate_callee (f := 77) rfl ?_); refine gl 321 Try.func77 #[.agg #[.int .i64 t374, .int .i64 t375], .agg #[.int .i64 t372, .int .i64 t373], .agg #[.int .i64 t376, .int .i64 t377]] ?_; (with_reducible refine (impl_BlendAmounts.calls kj130 t374 t375 t372 t373 t376 t377 t387 t388 true _ A266.out).mono ?_); rintro e w304 ⟨rfl, hb⟩; refine ⟨_, rfl, ?_⟩; replace BK346 := bb BK346 hb; replace BK350 := bb BK350 hb; replace BK359 := bb BK359 hb; replace BK378 := bb BK378 hb; replace BK379 := bb BK379 hb; replace BK380 := bb BK380 hb; replace HB := bs HB hb; (try clear hb); have hcz305_0 := bc0 BK378; have hcz305_1 := bc1 BK378; have hfz305_0 := blk_frozen BK378.out 0; have hfz305_1 := blk_frozen BK378.out 1; have hcz306_0 := bc0 BK379; have hcz306_1 := bc1 BK379; have hfz306_0 := blk_frozen BK379.out 0; have hfz306_1 := blk_frozen BK379.out 1))
                             go_ret
                             exact ⟨by first | rfl | (simp [errW_none, errW_some] <;> rfl) | (simp [*, errW_none, errW_some] <;> rfl), bw HB⟩
                            rw [if_pos c268] at H
                            have c268b0 : (!(t372 == t374) || (!(t373 == t375))) = true := c268
                            clear c268
                            by_cases c269 : t387 = t382
                            rotate_left
                            ·rw [if_neg c269] at H
                             have c269b0 : (t387 == t382) = false := beq_eq_false_iff_ne.mpr c269
                             have c269b1 : (t387 != t382) = true := bne_iff_ne.mpr c269
                             exact absurd ((Option.some.inj H).trans hrt.out) (by decide)
                            rw [if_pos c269] at H
                            have c269b0 : (t387 == t382) = true := beq_iff_eq.mpr c269
                            have c269b1 : (t387 != t382) = false := bne_eq_false_iff_eq.mpr c269
                            clear c269
                            by_cases c270 : t388 = t381
                            rotate_left
                            ·rw [if_neg c270] at H
                             have c270b0 : (t388 == t381) = false := beq_eq_false_iff_ne.mpr c270
                             have c270b1 : (t388 != t381) = true := bne_iff_ne.mpr c270
                             exact absurd ((Option.some.inj H).trans hrt.out) (by decide)
                            rw [if_pos c270] at H
                            have c270b0 : (t388 == t381) = true := beq_iff_eq.mpr c270
                            have c270b1 : (t388 != t381) = false := bne_eq_false_iff_eq.mpr c270
                            clear c270
                            obtain rfl := Option.some.inj H
                            have hnb271 := NB378_346.out
                            have hnc271 := NB346_378.out
                            have hnb272 := NB378_350.out
                            have hnc272 := NB350_378.out
                            have hnb273 := NB378_359.out
                            have hnc273 := NB359_378.out
                            have hnb274 := NB378_379.out
                            have hnc274 := NB379_378.out
                            have hnb275 := NB378_380.out
                            have hnc275 := NB380_378.out
                            have hcz276_0 := bc0 BK378
                            have hcz276_1 := bc1 BK378
                            have hfz276_0 := blk_frozen BK378.out 0
                            have hfz276_1 := blk_frozen BK378.out 1
                            have hnb277 := NB379_346.out
                            have hnc277 := NB346_379.out
                            have hnb278 := NB379_350.out
                            have hnc278 := NB350_379.out
                            have hnb279 := NB379_359.out
                            have hnc279 := NB359_379.out
                            have hnb280 := NB379_380.out
                            have hnc280 := NB380_379.out
                            have hcz281_0 := bc0 BK379
                            have hcz281_1 := bc1 BK379
                            have hfz281_0 := blk_frozen BK379.out 0
                            have hfz281_1 := blk_frozen BK379.out 1
                            have hnb282 := NB380_346.out
                            have hnc282 := NB346_380.out
                            have hnb283 := NB380_350.out
                            have hnc283 := NB350_380.out
                            have hnb284 := NB380_359.out
                            have hnc284 := NB359_380.out
                            have hcz285_0 := bc0 BK380
                            have hcz285_1 := bc1 BK380
                            have hfz285_0 := blk_frozen BK380.out 0
                            have hfz285_1 := blk_frozen BK380.out 1
                            go_wp2_with (first | ((with_reducible refine gate_callee (f := 77) rfl ?_); refine gl 321 Try.func77 #[.agg #[.int .i64 t374, .int .i64 t375], .agg #[.int .i64 t372, .int .i64 t373], .agg #[.int .i64 t376, .int .i64 t377]] ?_; (with_reducible refine (impl_BlendAmounts.calls kj130 t374 t375 t372 t373 t376 t377 t387 t388 true _ A266.out).mono ?_); rintro e w286 ⟨rfl, hb⟩; refine ⟨_, rfl, ?_⟩; replace BK346 := bb BK346 hb; replace BK350 := bb BK350 hb; replace BK359 := bb BK359 hb; replace BK378 := bb BK378 hb; replace BK379 := bb BK379 hb; replace BK380 := bb BK380 hb; replace HB := bs HB hb; (try clear hb); have hcz287_0 := bc0 BK378; have hcz287_1 := bc1 BK378; have hfz287_0 := blk_frozen BK378.out 0; have hfz287_1 := blk_frozen BK378.out 1; have hcz288_0 := bc0 BK379; have hcz288_1 := bc1 BK379; have hfz288_0 := blk_frozen BK379.out 0; have hfz288_1 := blk_frozen BK379.out 1))
                            go_ret
                            exact ⟨by first | rfl | (simp [errW_none, errW_some] <;> rfl) | (simp [*, errW_none, errW_some] <;> rfl), bw HB⟩
         
         /-- THE ONE PURE STATEMENT of laws_FnThinnedAndBlended: yours. -/
def laws_FnThinnedAndBlended.Pure : Prop := ∀ (l0 : List Int) (l1 : List Int), l0.length ≤ maxLen → l0.length * 1 ≤ 140737488351232 → (∀ x ∈ l0, (Lit.int .u8 x).wf = true) → l1.length ≤ maxLen → l1.length * 1 ≤ 140737488351232 → (∀ x ∈ l1, (Lit.int .u8 x).wf = true) → ∃ k, laws_FnThinnedAndBlended.f k l0 l1 = some true
theorem laws_FnThinnedAndBlended.walk (P : laws_FnThinnedAndBlended.Pure) (a0 : Option Addr) (len0 cap0 : Nat) (z0 : List Int) (a1 : Option Addr) (len1 cap1 : Nat) (z1 : List Int) (w : World) (w0 : (a0 = none ∧ len0 = 0 ∧ cap0 = 0 ∧ z0 = []) ∨ ∃ x, a0 = some x ∧ len0 ≤ cap0 ∧ cap0 ≤ maxLen ∧ z0.length = cap0 ∧ (∀ i, i < z0.length → w.cell? (x.add i) = some (.int .u8 (z0.getD i 0))) ∧ ∀ n ∈ z0, (Lit.int .u8 n).wf = true) (y0 : len0 * 1 ≤ 140737488351232) (w1 : (a1 = none ∧ len1 = 0 ∧ cap1 = 0 ∧ z1 = []) ∨ ∃ x, a1 = some x ∧ len1 ≤ cap1 ∧ cap1 ≤ maxLen ∧ z1.length = cap1 ∧ (∀ i, i < z1.length → w.cell? (x.add i) = some (.int .u8 (z1.getD i 0))) ∧ ∀ n ∈ z1, (Lit.int .u8 n).wf = true) (y1 : len1 * 1 ≤ 140737488351232) :
  Calls Try.prog 6 #[.slice a0 len0 cap0, .slice a1 len1 cap1] w fun e w' => e = .returned (.bool true) ∧ Below w.heap.size w w' := by
 obtain ⟨l0, rfl, hr0, hm0, hw0, hc0⟩ := ReadsInt.ofRowC w0
 obtain ⟨l1, rfl, hr1, hm1, hw1, hc1⟩ := ReadsInt.ofRowC w1
 obtain ⟨k, h⟩ := P l0 l1 hm0 y0 hw0 hm1 y1 hw1
 refine (laws_FnThinnedAndBlended.calls k _ _ l0 _ _ l1 true w (Kd.C_of_reads (d := (0 : Int)) (h1 := fun _ => rfl) hr0) hc0 (Kd.C_of_reads (d := (0 : Int)) (h1 := fun _ => rfl) hr1) hc1 ⟨rfl⟩ h).mono ?_
 rintro e w' ⟨rfl, hd⟩
 exact ⟨rfl, hd⟩

end Go.Proofs.Ytmlkdkeocbhajaa.T
