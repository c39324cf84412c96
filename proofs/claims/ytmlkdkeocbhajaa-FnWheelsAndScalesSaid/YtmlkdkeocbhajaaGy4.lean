-- Functions of the program as plain functions, and that the calls come to them. Written by a program (ownprint.py); nothing here is trusted: Lean checks it.
import Derived.Test.YtmlkdkeocbhajaaGvCut
import Derived.Test.YtmlkdkeocbhajaaGx0
import Derived.Test.YtmlkdkeocbhajaaGx2
import Derived.Test.YtmlkdkeocbhajaaGx3
namespace Go.Proofs.Ytmlkdkeocbhajaa.G
open Go.RowKit Go.Proofs.YtmlkdkeocbhajaaW.PrintWords Go.Proofs.YtmlkdkeocbhajaaW.PrintLast Go.Proofs.YtmlkdkeocbhajaaW.PrintMore Go.Proofs.Ytmlkdkeocbhajaa.Sq
attribute [local go_sem] max2_int min2_int max_two min_two max_three min_three max_four min_four   -- for this text's walks alone
set_option linter.unusedVariables false
set_option linter.unusedSimpArgs false

/-! ### laws_FnWheelsAndScales: function 3 -/
mutual
def laws_FnWheelsAndScales.j0 : Nat → List Int → Int → Int → Int → Bool → Int → Int → Bool → Int → Int → Int → Option (Bool)
 | 0, _, _, _, _, _, _, _, _, _, _, _ => none
 | k + 1, x1, x6, x7, x8, x9, x13, x17, x160, x348000, x348001, x348002 => if x160 = true then (some false) else (if x9 = true then (if x7 < 0 then (laws_FnWheelsAndScales.j1 k x1 x6 x7 x8 x13 x17 true x348000 x348001 x348002) else (if x7 ≥ x348000 then (laws_FnWheelsAndScales.j1 k x1 x6 x7 x8 x13 x17 true x348000 x348001 x348002) else (if x8 < 0 then (laws_FnWheelsAndScales.j1 k x1 x6 x7 x8 x13 x17 true x348000 x348001 x348002) else (if x8 ≥ x348001 then (laws_FnWheelsAndScales.j1 k x1 x6 x7 x8 x13 x17 true x348000 x348001 x348002) else (laws_FnWheelsAndScales.j1 k x1 x6 x7 x8 x13 x17 (decide (x13 < 0)) x348000 x348001 x348002))))) else (laws_FnWheelsAndScales.j5 k x1))
def laws_FnWheelsAndScales.j5 : Nat → List Int → Option (Bool)
 | 0, _ => none
 | k + 1, x1 => (spec_DrawTimesOfScoop.f x1).bind fun bt377 => ((impl_TimesOfScoop.f k bt377.1 bt377.2.1 bt377.2.2.1 bt377.2.2.2.1 bt377.2.2.2.2).bind fun bt383 => ((spec_TimesOfScoop.f k bt377.1 bt377.2.1 bt377.2.2.1 bt377.2.2.2.1 bt377.2.2.2.2).bind fun bt387 => ((spec_DrawScaleEvents.f x1).bind fun bt391 => ((impl_ScaleEvents.f k bt391.1 bt391.2.1 bt391.2.2.1 bt391.2.2.2).bind fun bt396 => ((spec_ScaleEvents.f k bt391.1 bt391.2.1 bt391.2.2.1 bt391.2.2.2).bind fun bt398 => ((spec_DrawPeriodOfScale.f x1).bind fun bt400 => ((impl_PeriodOfScale.f k bt400.1 bt400.2.1 bt400.2.2).bind fun bt404 => ((spec_PeriodOfScale.f k bt400.1 bt400.2.1 bt400.2.2).bind fun bt407 => (if (bt383.2 != bt387.2) = true then (laws_FnWheelsAndScales.j6 k bt391.2.2.2 bt396.1 bt396.2 bt404.1 bt404.2.1 bt404.2.2 true bt391.1 bt391.2.1 bt391.2.2.1 bt400.1 bt400.2.1 bt400.2.2) else ((laws_eSame.f k bt383.1 bt387.1).bind fun t410 => (if t410 = true then (if (bt396.2 != bt398.2) = true then (laws_FnWheelsAndScales.j6 k bt391.2.2.2 bt396.1 bt396.2 bt404.1 bt404.2.1 bt404.2.2 true bt391.1 bt391.2.1 bt391.2.2.1 bt400.1 bt400.2.1 bt400.2.2) else (if bt396.1.toList = bt398.1.toList then (if (bt404.2.2 != bt407.2.2) = true then (laws_FnWheelsAndScales.j6 k bt391.2.2.2 bt396.1 bt396.2 bt404.1 bt404.2.1 bt404.2.2 true bt391.1 bt391.2.1 bt391.2.2.1 bt400.1 bt400.2.1 bt400.2.2) else (if bt404.1 = bt407.1 then (if bt404.2.1 = bt407.2.1 then (if bt404.2.2 = true then (if bt404.2.1 < 0 then (laws_FnWheelsAndScales.j6 k bt391.2.2.2 bt396.1 bt396.2 bt404.1 bt404.2.1 bt404.2.2 true bt391.1 bt391.2.1 bt391.2.2.1 bt400.1 bt400.2.1 bt400.2.2) else (laws_FnWheelsAndScales.j6 k bt391.2.2.2 bt396.1 bt396.2 bt404.1 bt404.2.1 bt404.2.2 (decide (bt404.2.1 ≥ bt404.1)) bt391.1 bt391.2.1 bt391.2.2.1 bt400.1 bt400.2.1 bt400.2.2)) else (laws_FnWheelsAndScales.j6 k bt391.2.2.2 bt396.1 bt396.2 bt404.1 bt404.2.1 bt404.2.2 false bt391.1 bt391.2.1 bt391.2.2.1 bt400.1 bt400.2.1 bt400.2.2)) else (laws_FnWheelsAndScales.j6 k bt391.2.2.2 bt396.1 bt396.2 bt404.1 bt404.2.1 bt404.2.2 true bt391.1 bt391.2.1 bt391.2.2.1 bt400.1 bt400.2.1 bt400.2.2)) else (laws_FnWheelsAndScales.j6 k bt391.2.2.2 bt396.1 bt396.2 bt404.1 bt404.2.1 bt404.2.2 true bt391.1 bt391.2.1 bt391.2.2.1 bt400.1 bt400.2.1 bt400.2.2))) else (laws_FnWheelsAndScales.j6 k bt391.2.2.2 bt396.1 bt396.2 bt404.1 bt404.2.1 bt404.2.2 true bt391.1 bt391.2.1 bt391.2.2.1 bt400.1 bt400.2.1 bt400.2.2))) else (laws_FnWheelsAndScales.j6 k bt391.2.2.2 bt396.1 bt396.2 bt404.1 bt404.2.1 bt404.2.2 true bt391.1 bt391.2.1 bt391.2.2.1 bt400.1 bt400.2.1 bt400.2.2))))))))))))
def laws_FnWheelsAndScales.j6 : Nat → Int → ByteArray → Bool → Int → Int → Bool → Bool → Int → Int → Int → Int → Int → Int → Option (Bool)
 | 0, _, _, _, _, _, _, _, _, _, _, _, _, _ => none
 | k + 1, x40, x41, x42, x46, x47, x48, x390, x396000, x396001, x396002, x404000, x404001, x404002 => if x390 = true then (some false) else (if x42 = true then (if (x41.size : Int) = x40 then (laws_FnWheelsAndScales.l1 k x41 x46 x47 x48 0 0 0 x396000 x396001 x396002 x404000 x404001 x404002) else (some false)) else (laws_FnWheelsAndScales.j8 k x46 x47 x48 x404000 x404001 x404002))
def laws_FnWheelsAndScales.j8 : Nat → Int → Int → Bool → Int → Int → Int → Option (Bool)
 | 0, _, _, _, _, _, _ => none
 | k + 1, x46, x47, x48, x404000, x404001, x404002 => if x48 = true then (laws_FnWheelsAndScales.j9 k x46 x47 (decide ((wrap64 (x46 + (wrap64 (2 * (wrap64 (x46 - x47)))))) ≤ 200)) x404000 x404001 x404002) else (laws_FnWheelsAndScales.j9 k x46 x47 false x404000 x404001 x404002)
def laws_FnWheelsAndScales.j9 : Nat → Int → Int → Bool → Int → Int → Int → Option (Bool)
 | 0, _, _, _, _, _, _ => none
 | k + 1, x46, x47, x438, x404000, x404001, x404002 => if x438 = true then ((impl_ScaleEvents.f k x404000 x404001 x404002 (wrap64 (x46 + (wrap64 (2 * (wrap64 (x46 - x47))))))).bind fun bt411 => (if bt411.2 = true then (laws_FnWheelsAndScales.l2 k x46 x47 bt411.1 x46) else (some false))) else (some true)
def laws_FnWheelsAndScales.l2 : Nat → Int → Int → ByteArray → Int → Option (Bool)
 | 0, _, _, _, _ => none
 | k + 1, x46, x47, x56, x58 => if x58 < (x56.size : Int) then (if 0 ≤ x58 then (if 0 ≤ (wrap64 (x58 - (wrap64 (x46 - x47)))) then (if (wrap64 (x58 - (wrap64 (x46 - x47)))) < (x56.size : Int) then (if (bt x56 x58) = (bt x56 (wrap64 (x58 - (wrap64 (x46 - x47))))) then (laws_FnWheelsAndScales.l2 k x46 x47 x56 (wrap64 (x58 + 1))) else (some false)) else (none)) else (none)) else (none)) else (some true)
def laws_FnWheelsAndScales.l1 : Nat → ByteArray → Int → Int → Bool → Int → Int → Int → Int → Int → Int → Int → Int → Int → Option (Bool)
 | 0, _, _, _, _, _, _, _, _, _, _, _, _, _ => none
 | k + 1, x41, x46, x47, x48, x52, x53, x54, x396000, x396001, x396002, x404000, x404001, x404002 => if x54 < (x41.size : Int) then (if (wrap64 (x52 + x396000)) ≥ (wrap64 ((wrap64 (x53 + x396001)) + x396002)) then (if 0 ≤ x54 then (if x54 ≤ (wrap64 (x54 + 1)) then (if (wrap64 (x54 + 1)) ≤ (x41.size : Int) then (if (x41.extract (x54 : Int).toNat ((wrap64 (x54 + 1)) : Int).toNat).toList = ([108] : List UInt8) then (laws_FnWheelsAndScales.l1 k x41 x46 x47 x48 0 (wrap64 (x53 + x396001)) (wrap64 (x54 + 1)) x396000 x396001 x396002 x404000 x404001 x404002) else (some false)) else (none)) else (none)) else (none)) else (if (wrap64 (x53 + x396001)) ≥ (wrap64 ((wrap64 (x52 + x396000)) + x396002)) then (if 0 ≤ x54 then (if x54 ≤ (wrap64 (x54 + 1)) then (if (wrap64 (x54 + 1)) ≤ (x41.size : Int) then (if (x41.extract (x54 : Int).toNat ((wrap64 (x54 + 1)) : Int).toNat).toList = ([114] : List UInt8) then (laws_FnWheelsAndScales.l1 k x41 x46 x47 x48 (wrap64 (x52 + x396000)) 0 (wrap64 (x54 + 1)) x396000 x396001 x396002 x404000 x404001 x404002) else (some false)) else (none)) else (none)) else (none)) else (if 0 ≤ x54 then (if x54 ≤ (wrap64 (x54 + 1)) then (if (wrap64 (x54 + 1)) ≤ (x41.size : Int) then (if (x41.extract (x54 : Int).toNat ((wrap64 (x54 + 1)) : Int).toNat).toList = ([45] : List UInt8) then (laws_FnWheelsAndScales.l1 k x41 x46 x47 x48 (wrap64 (x52 + x396000)) (wrap64 (x53 + x396001)) (wrap64 (x54 + 1)) x396000 x396001 x396002 x404000 x404001 x404002) else (some false)) else (none)) else (none)) else (none)))) else (laws_FnWheelsAndScales.j8 k x46 x47 x48 x404000 x404001 x404002)
def laws_FnWheelsAndScales.j1 : Nat → List Int → Int → Int → Int → Int → Int → Bool → Int → Int → Int → Option (Bool)
 | 0, _, _, _, _, _, _, _, _, _, _ => none
 | k + 1, x1, x6, x7, x8, x13, x17, x183, x348000, x348001, x348002 => if x183 = true then (some false) else (if x348000 = 0 then (none) else (if (wrap64 (Int.tdiv x17 x348000)) = 0 then (none) else (if (wrap64 (x6 * x348002)) = (wrap64 ((wrap64 ((wrap64 ((wrap64 (Int.tdiv x6 (wrap64 (Int.tdiv x17 x348000)))) * x348001)) + x13)) + x8)) then (laws_FnWheelsAndScales.j2 k x1 x6 x7 x8 x17 (x7 != (Int.tmod (wrap64 (Int.tdiv x6 (wrap64 (Int.tdiv x17 x348000)))) x348000)) x348000 x348001 x348002) else (laws_FnWheelsAndScales.j2 k x1 x6 x7 x8 x17 true x348000 x348001 x348002))))
def laws_FnWheelsAndScales.j2 : Nat → List Int → Int → Int → Int → Int → Bool → Int → Int → Int → Option (Bool)
 | 0, _, _, _, _, _, _, _, _, _ => none
 | k + 1, x1, x6, x7, x8, x17, x210, x348000, x348001, x348002 => if x210 = true then (some false) else (if (wrap64 (x6 + x17)) ≤ 10000 then ((impl_WheelAfter.f x348000 x348001 x348002 (wrap64 (x6 + x17))).bind fun bt365 => (if bt365.2.2 = true then (if bt365.1 = x7 then (if bt365.2.1 = x8 then (laws_FnWheelsAndScales.j3 k x1 x6 x7 x17 x348000 x348001 x348002) else (some false)) else (some false)) else (some false))) else (laws_FnWheelsAndScales.j3 k x1 x6 x7 x17 x348000 x348001 x348002))
def laws_FnWheelsAndScales.j3 : Nat → List Int → Int → Int → Int → Int → Int → Int → Option (Bool)
 | 0, _, _, _, _, _, _, _ => none
 | k + 1, x1, x6, x7, x17, x348000, x348001, x348002 => (impl_TimesOfScoop.f k x348000 x348001 x348002 x7 x6).bind fun bt368 => (if bt368.2 = true then (laws_FnWheelsAndScales.l0 k x1 x6 x7 x17 bt368.1 bt368.1 (bt368.1.length : Int) 0 x348000 x348001 x348002) else (laws_FnWheelsAndScales.j5 k x1))
def laws_FnWheelsAndScales.l0 : Nat → List Int → Int → Int → Int → List Int → List Int → Int → Int → Int → Int → Int → Option (Bool)
 | 0, _, _, _, _, _, _, _, _, _, _, _ => none
 | k + 1, x1, x6, x7, x17, x25, x244, x245, x246, x348000, x348001, x348002 => if x246 < x245 then (if 0 ≤ x246 then (if x246 < (x244.length : Int) then ((impl_WheelAfter.f x348000 x348001 x348002 (rd x244 x246)).bind fun bt373 => (if bt373.2.2 = true then (if (rd x244 x246) > x6 then (some false) else (if bt373.2.1 = 0 then (if x348000 = 0 then (none) else (if bt373.1 = (Int.tmod (wrap64 (x7 + 1)) x348000) then (if x246 > 0 then (if 0 ≤ (wrap64 (x246 - 1)) then (if (wrap64 (x246 - 1)) < (x25.length : Int) then (if (wrap64 ((rd x244 x246) - (rd x25 (wrap64 (x246 - 1))))) = x17 then (laws_FnWheelsAndScales.l0 k x1 x6 x7 x17 x25 x244 x245 (wrap64 (x246 + 1)) x348000 x348001 x348002) else (some false)) else (none)) else (none)) else (laws_FnWheelsAndScales.l0 k x1 x6 x7 x17 x25 x244 x245 (wrap64 (x246 + 1)) x348000 x348001 x348002)) else (some false))) else (some false))) else (some false))) else (none)) else (none)) else (laws_FnWheelsAndScales.j5 k x1)
end
def laws_FnWheelsAndScales.f (k : Nat) (l0 : List Int) (l1 : List Int) : Option (Bool) := (laws_big.f l0 l1).bind fun t342 => (if t342 = true then (some true) else ((spec_DrawWheelAfter.f l0).bind fun bt343 => ((impl_WheelAfter.f bt343.1 bt343.2.1 bt343.2.2.1 bt343.2.2.2).bind fun bt348 => ((spec_WheelAfter.f k bt343.1 bt343.2.1 bt343.2.2.1 bt343.2.2.2).bind fun bt351 => ((impl_SpiltByWheel.f bt343.1 bt343.2.1 bt343.2.2.1 bt343.2.2.2).bind fun bt354 => ((spec_SpiltByWheel.f k bt343.1 bt343.2.1 bt343.2.2.1 bt343.2.2.2).bind fun bt356 => ((impl_TurnTime.f bt343.1 bt343.2.1 bt343.2.2.1).bind fun bt358 => ((spec_TurnTime.f bt343.1 bt343.2.1 bt343.2.2.1).bind fun bt360 => (if (bt348.2.2 != bt351.2.2) = true then (laws_FnWheelsAndScales.j0 k l1 bt343.2.2.2 bt348.1 bt348.2.1 bt348.2.2 bt354.1 bt358.1 true bt343.1 bt343.2.1 bt343.2.2.1) else (if bt348.1 = bt351.1 then (if bt348.2.1 = bt351.2.1 then (if (bt354.2 != bt356.2) = true then (laws_FnWheelsAndScales.j0 k l1 bt343.2.2.2 bt348.1 bt348.2.1 bt348.2.2 bt354.1 bt358.1 true bt343.1 bt343.2.1 bt343.2.2.1) else (if bt354.1 = bt356.1 then (if (bt358.2 != bt360.2) = true then (laws_FnWheelsAndScales.j0 k l1 bt343.2.2.2 bt348.1 bt348.2.1 bt348.2.2 bt354.1 bt358.1 true bt343.1 bt343.2.1 bt343.2.2.1) else (if bt358.1 = bt360.1 then (if (bt354.2 != bt348.2.2) = true then (laws_FnWheelsAndScales.j0 k l1 bt343.2.2.2 bt348.1 bt348.2.1 bt348.2.2 bt354.1 bt358.1 true bt343.1 bt343.2.1 bt343.2.2.1) else ((impl_IsWheel.f bt343.1 bt343.2.1 bt343.2.2.1).bind fun t362 => (if (bt358.2 != t362) = true then (laws_FnWheelsAndScales.j0 k l1 bt343.2.2.2 bt348.1 bt348.2.1 bt348.2.2 bt354.1 bt358.1 true bt343.1 bt343.2.1 bt343.2.2.1) else ((impl_IsWheel.f bt343.1 bt343.2.1 bt343.2.2.1).bind fun t363 => ((spec_IsWheel.f bt343.1 bt343.2.1 bt343.2.2.1).bind fun t364 => (if (t363 != t364) = true then (laws_FnWheelsAndScales.j0 k l1 bt343.2.2.2 bt348.1 bt348.2.1 bt348.2.2 bt354.1 bt358.1 true bt343.1 bt343.2.1 bt343.2.2.1) else (if bt348.2.2 = true then (laws_FnWheelsAndScales.j0 k l1 bt343.2.2.2 bt348.1 bt348.2.1 bt348.2.2 bt354.1 bt358.1 (!bt358.2) bt343.1 bt343.2.1 bt343.2.2.1) else (laws_FnWheelsAndScales.j0 k l1 bt343.2.2.2 bt348.1 bt348.2.1 bt348.2.2 bt354.1 bt358.1 false bt343.1 bt343.2.1 bt343.2.2.1)))))))) else (laws_FnWheelsAndScales.j0 k l1 bt343.2.2.2 bt348.1 bt348.2.1 bt348.2.2 bt354.1 bt358.1 true bt343.1 bt343.2.1 bt343.2.2.1))) else (laws_FnWheelsAndScales.j0 k l1 bt343.2.2.2 bt348.1 bt348.2.1 bt348.2.2 bt354.1 bt358.1 true bt343.1 bt343.2.1 bt343.2.2.1))) else (laws_FnWheelsAndScales.j0 k l1 bt343.2.2.2 bt348.1 bt348.2.1 bt348.2.2 bt354.1 bt358.1 true bt343.1 bt343.2.1 bt343.2.2.1)) else (laws_FnWheelsAndScales.j0 k l1 bt343.2.2.2 bt348.1 bt348.2.1 bt348.2.2 bt354.1 bt358.1 true bt343.1 bt343.2.1 bt343.2.2.1)))))))))))
theorem laws_FnWheelsAndScales.mono_l : ∀ k, (∀ y0 y1 y2 y3 y4 y5 y6 y7 y8 y9 y10, LeO (laws_FnWheelsAndScales.j0 k y0 y1 y2 y3 y4 y5 y6 y7 y8 y9 y10) (laws_FnWheelsAndScales.j0 (k + 1) y0 y1 y2 y3 y4 y5 y6 y7 y8 y9 y10)) ∧ (∀ y0, LeO (laws_FnWheelsAndScales.j5 k y0) (laws_FnWheelsAndScales.j5 (k + 1) y0)) ∧ (∀ y0 y1 y2 y3 y4 y5 y6 y7 y8 y9 y10 y11 y12, LeO (laws_FnWheelsAndScales.j6 k y0 y1 y2 y3 y4 y5 y6 y7 y8 y9 y10 y11 y12) (laws_FnWheelsAndScales.j6 (k + 1) y0 y1 y2 y3 y4 y5 y6 y7 y8 y9 y10 y11 y12)) ∧ (∀ y0 y1 y2 y3 y4 y5, LeO (laws_FnWheelsAndScales.j8 k y0 y1 y2 y3 y4 y5) (laws_FnWheelsAndScales.j8 (k + 1) y0 y1 y2 y3 y4 y5)) ∧ (∀ y0 y1 y2 y3 y4 y5, LeO (laws_FnWheelsAndScales.j9 k y0 y1 y2 y3 y4 y5) (laws_FnWheelsAndScales.j9 (k + 1) y0 y1 y2 y3 y4 y5)) ∧ (∀ y0 y1 y2 y3, LeO (laws_FnWheelsAndScales.l2 k y0 y1 y2 y3) (laws_FnWheelsAndScales.l2 (k + 1) y0 y1 y2 y3)) ∧ (∀ y0 y1 y2 y3 y4 y5 y6 y7 y8 y9 y10 y11 y12, LeO (laws_FnWheelsAndScales.l1 k y0 y1 y2 y3 y4 y5 y6 y7 y8 y9 y10 y11 y12) (laws_FnWheelsAndScales.l1 (k + 1) y0 y1 y2 y3 y4 y5 y6 y7 y8 y9 y10 y11 y12)) ∧ (∀ y0 y1 y2 y3 y4 y5 y6 y7 y8 y9, LeO (laws_FnWheelsAndScales.j1 k y0 y1 y2 y3 y4 y5 y6 y7 y8 y9) (laws_FnWheelsAndScales.j1 (k + 1) y0 y1 y2 y3 y4 y5 y6 y7 y8 y9)) ∧ (∀ y0 y1 y2 y3 y4 y5 y6 y7 y8, LeO (laws_FnWheelsAndScales.j2 k y0 y1 y2 y3 y4 y5 y6 y7 y8) (laws_FnWheelsAndScales.j2 (k + 1) y0 y1 y2 y3 y4 y5 y6 y7 y8)) ∧ (∀ y0 y1 y2 y3 y4 y5 y6, LeO (laws_FnWheelsAndScales.j3 k y0 y1 y2 y3 y4 y5 y6) (laws_FnWheelsAndScales.j3 (k + 1) y0 y1 y2 y3 y4 y5 y6)) ∧ (∀ y0 y1 y2 y3 y4 y5 y6 y7 y8 y9 y10, LeO (laws_FnWheelsAndScales.l0 k y0 y1 y2 y3 y4 y5 y6 y7 y8 y9 y10) (laws_FnWheelsAndScales.l0 (k + 1) y0 y1 y2 y3 y4 y5 y6 y7 y8 y9 y10))
 | 0 => ⟨fun _ _ _ _ _ _ _ _ _ _ _ r h => by simp [laws_FnWheelsAndScales.j0] at h, fun _ r h => by simp [laws_FnWheelsAndScales.j5] at h, fun _ _ _ _ _ _ _ _ _ _ _ _ _ r h => by simp [laws_FnWheelsAndScales.j6] at h, fun _ _ _ _ _ _ r h => by simp [laws_FnWheelsAndScales.j8] at h, fun _ _ _ _ _ _ r h => by simp [laws_FnWheelsAndScales.j9] at h, fun _ _ _ _ r h => by simp [laws_FnWheelsAndScales.l2] at h, fun _ _ _ _ _ _ _ _ _ _ _ _ _ r h => by simp [laws_FnWheelsAndScales.l1] at h, fun _ _ _ _ _ _ _ _ _ _ r h => by simp [laws_FnWheelsAndScales.j1] at h, fun _ _ _ _ _ _ _ _ _ r h => by simp [laws_FnWheelsAndScales.j2] at h, fun _ _ _ _ _ _ _ r h => by simp [laws_FnWheelsAndScales.j3] at h, fun _ _ _ _ _ _ _ _ _ _ _ r h => by simp [laws_FnWheelsAndScales.l0] at h⟩
 | k + 1 => by
  obtain ⟨ih0, ih1, ih2, ih3, ih4, ih5, ih6, ih7, ih8, ih9, ih10⟩ := laws_FnWheelsAndScales.mono_l k
  refine ⟨?_, ?_, ?_, ?_, ?_, ?_, ?_, ?_, ?_, ?_, ?_⟩
  ·intro y0 y1 y2 y3 y4 y5 y6 y7 y8 y9 y10
   unfold laws_FnWheelsAndScales.j0
   repeat' first
   | (with_reducible exact ih0 _ _ _ _ _ _ _ _ _ _ _)
   | (with_reducible exact ih1 _)
   | (with_reducible exact ih2 _ _ _ _ _ _ _ _ _ _ _ _ _)
   | (with_reducible exact ih3 _ _ _ _ _ _)
   | (with_reducible exact ih4 _ _ _ _ _ _)
   | (with_reducible exact ih5 _ _ _ _)
   | (with_reducible exact ih6 _ _ _ _ _ _ _ _ _ _ _ _ _)
   | (with_reducible exact ih7 _ _ _ _ _ _ _ _ _ _)
   | (with_reducible exact ih8 _ _ _ _ _ _ _ _ _)
   | (with_reducible exact ih9 _ _ _ _ _ _ _)
   | (with_reducible exact ih10 _ _ _ _ _ _ _ _ _ _ _)
   | (with_reducible exact impl_PeriodOfScale.mono _ _ _ _)
   | (with_reducible exact impl_ScaleEvents.mono _ _ _ _ _)
   | (with_reducible exact impl_TimesOfScoop.mono _ _ _ _ _ _)
   | (with_reducible exact laws_eSame.mono _ _ _)
   | (with_reducible exact spec_PeriodOfScale.mono _ _ _ _)
   | (with_reducible exact spec_ScaleEvents.mono _ _ _ _ _)
   | (with_reducible exact spec_SpiltByWheel.mono _ _ _ _ _)
   | (with_reducible exact spec_TimesOfScoop.mono _ _ _ _ _ _)
   | (with_reducible exact spec_WheelAfter.mono _ _ _ _ _)
   | (with_reducible exact LeO.refl _)
   | (with_reducible exact LeO.none _)
   | (with_reducible refine LeO.ite ?_ ?_)
   | (with_reducible refine LeO.bind ?_ (fun _ => ?_))
   | exact ih0 _ _ _ _ _ _ _ _ _ _ _
   | exact ih1 _
   | exact ih2 _ _ _ _ _ _ _ _ _ _ _ _ _
   | exact ih3 _ _ _ _ _ _
   | exact ih4 _ _ _ _ _ _
   | exact ih5 _ _ _ _
   | exact ih6 _ _ _ _ _ _ _ _ _ _ _ _ _
   | exact ih7 _ _ _ _ _ _ _ _ _ _
   | exact ih8 _ _ _ _ _ _ _ _ _
   | exact ih9 _ _ _ _ _ _ _
   | exact ih10 _ _ _ _ _ _ _ _ _ _ _
   | exact impl_PeriodOfScale.mono _ _ _ _
   | exact impl_ScaleEvents.mono _ _ _ _ _
   | exact impl_TimesOfScoop.mono _ _ _ _ _ _
   | exact laws_eSame.mono _ _ _
   | exact spec_PeriodOfScale.mono _ _ _ _
   | exact spec_ScaleEvents.mono _ _ _ _ _
   | exact spec_SpiltByWheel.mono _ _ _ _ _
   | exact spec_TimesOfScoop.mono _ _ _ _ _ _
   | exact spec_WheelAfter.mono _ _ _ _ _
   | exact LeO.none _
   | refine LeO.ite ?_ ?_
   | refine LeO.bind ?_ (fun _ => ?_)
  ·intro y0
   unfold laws_FnWheelsAndScales.j5
   repeat' first
   | (with_reducible exact ih0 _ _ _ _ _ _ _ _ _ _ _)
   | (with_reducible exact ih1 _)
   | (with_reducible exact ih2 _ _ _ _ _ _ _ _ _ _ _ _ _)
   | (with_reducible exact ih3 _ _ _ _ _ _)
   | (with_reducible exact ih4 _ _ _ _ _ _)
   | (with_reducible exact ih5 _ _ _ _)
   | (with_reducible exact ih6 _ _ _ _ _ _ _ _ _ _ _ _ _)
   | (with_reducible exact ih7 _ _ _ _ _ _ _ _ _ _)
   | (with_reducible exact ih8 _ _ _ _ _ _ _ _ _)
   | (with_reducible exact ih9 _ _ _ _ _ _ _)
   | (with_reducible exact ih10 _ _ _ _ _ _ _ _ _ _ _)
   | (with_reducible exact impl_PeriodOfScale.mono _ _ _ _)
   | (with_reducible exact impl_ScaleEvents.mono _ _ _ _ _)
   | (with_reducible exact impl_TimesOfScoop.mono _ _ _ _ _ _)
   | (with_reducible exact laws_eSame.mono _ _ _)
   | (with_reducible exact spec_PeriodOfScale.mono _ _ _ _)
   | (with_reducible exact spec_ScaleEvents.mono _ _ _ _ _)
   | (with_reducible exact spec_SpiltByWheel.mono _ _ _ _ _)
   | (with_reducible exact spec_TimesOfScoop.mono _ _ _ _ _ _)
   | (with_reducible exact spec_WheelAfter.mono _ _ _ _ _)
   | (with_reducible exact LeO.refl _)
   | (with_reducible exact LeO.none _)
   | (with_reducible refine LeO.ite ?_ ?_)
   | (with_reducible refine LeO.bind ?_ (fun _ => ?_))
   | exact ih0 _ _ _ _ _ _ _ _ _ _ _
   | exact ih1 _
   | exact ih2 _ _ _ _ _ _ _ _ _ _ _ _ _
   | exact ih3 _ _ _ _ _ _
   | exact ih4 _ _ _ _ _ _
   | exact ih5 _ _ _ _
   | exact ih6 _ _ _ _ _ _ _ _ _ _ _ _ _
   | exact ih7 _ _ _ _ _ _ _ _ _ _
   | exact ih8 _ _ _ _ _ _ _ _ _
   | exact ih9 _ _ _ _ _ _ _
   | exact ih10 _ _ _ _ _ _ _ _ _ _ _
   | exact impl_PeriodOfScale.mono _ _ _ _
   | exact impl_ScaleEvents.mono _ _ _ _ _
   | exact impl_TimesOfScoop.mono _ _ _ _ _ _
   | exact laws_eSame.mono _ _ _
   | exact spec_PeriodOfScale.mono _ _ _ _
   | exact spec_ScaleEvents.mono _ _ _ _ _
   | exact spec_SpiltByWheel.mono _ _ _ _ _
   | exact spec_TimesOfScoop.mono _ _ _ _ _ _
   | exact spec_WheelAfter.mono _ _ _ _ _
   | exact LeO.none _
   | refine LeO.ite ?_ ?_
   | refine LeO.bind ?_ (fun _ => ?_)
  ·intro y0 y1 y2 y3 y4 y5 y6 y7 y8 y9 y10 y11 y12
   unfold laws_FnWheelsAndScales.j6
   repeat' first
   | (with_reducible exact ih0 _ _ _ _ _ _ _ _ _ _ _)
   | (with_reducible exact ih1 _)
   | (with_reducible exact ih2 _ _ _ _ _ _ _ _ _ _ _ _ _)
   | (with_reducible exact ih3 _ _ _ _ _ _)
   | (with_reducible exact ih4 _ _ _ _ _ _)
   | (with_reducible exact ih5 _ _ _ _)
   | (with_reducible exact ih6 _ _ _ _ _ _ _ _ _ _ _ _ _)
   | (with_reducible exact ih7 _ _ _ _ _ _ _ _ _ _)
   | (with_reducible exact ih8 _ _ _ _ _ _ _ _ _)
   | (with_reducible exact ih9 _ _ _ _ _ _ _)
   | (with_reducible exact ih10 _ _ _ _ _ _ _ _ _ _ _)
   | (with_reducible exact impl_PeriodOfScale.mono _ _ _ _)
   | (with_reducible exact impl_ScaleEvents.mono _ _ _ _ _)
   | (with_reducible exact impl_TimesOfScoop.mono _ _ _ _ _ _)
   | (with_reducible exact laws_eSame.mono _ _ _)
   | (with_reducible exact spec_PeriodOfScale.mono _ _ _ _)
   | (with_reducible exact spec_ScaleEvents.mono _ _ _ _ _)
   | (with_reducible exact spec_SpiltByWheel.mono _ _ _ _ _)
   | (with_reducible exact spec_TimesOfScoop.mono _ _ _ _ _ _)
   | (with_reducible exact spec_WheelAfter.mono _ _ _ _ _)
   | (with_reducible exact LeO.refl _)
   | (with_reducible exact LeO.none _)
   | (with_reducible refine LeO.ite ?_ ?_)
   | (with_reducible refine LeO.bind ?_ (fun _ => ?_))
   | exact ih0 _ _ _ _ _ _ _ _ _ _ _
   | exact ih1 _
   | exact ih2 _ _ _ _ _ _ _ _ _ _ _ _ _
   | exact ih3 _ _ _ _ _ _
   | exact ih4 _ _ _ _ _ _
   | exact ih5 _ _ _ _
   | exact ih6 _ _ _ _ _ _ _ _ _ _ _ _ _
   | exact ih7 _ _ _ _ _ _ _ _ _ _
   | exact ih8 _ _ _ _ _ _ _ _ _
   | exact ih9 _ _ _ _ _ _ _
   | exact ih10 _ _ _ _ _ _ _ _ _ _ _
   | exact impl_PeriodOfScale.mono _ _ _ _
   | exact impl_ScaleEvents.mono _ _ _ _ _
   | exact impl_TimesOfScoop.mono _ _ _ _ _ _
   | exact laws_eSame.mono _ _ _
   | exact spec_PeriodOfScale.mono _ _ _ _
   | exact spec_ScaleEvents.mono _ _ _ _ _
   | exact spec_SpiltByWheel.mono _ _ _ _ _
   | exact spec_TimesOfScoop.mono _ _ _ _ _ _
   | exact spec_WheelAfter.mono _ _ _ _ _
   | exact LeO.none _
   | refine LeO.ite ?_ ?_
   | refine LeO.bind ?_ (fun _ => ?_)
  ·intro y0 y1 y2 y3 y4 y5
   unfold laws_FnWheelsAndScales.j8
   repeat' first
   | (with_reducible exact ih0 _ _ _ _ _ _ _ _ _ _ _)
   | (with_reducible exact ih1 _)
   | (with_reducible exact ih2 _ _ _ _ _ _ _ _ _ _ _ _ _)
   | (with_reducible exact ih3 _ _ _ _ _ _)
   | (with_reducible exact ih4 _ _ _ _ _ _)
   | (with_reducible exact ih5 _ _ _ _)
   | (with_reducible exact ih6 _ _ _ _ _ _ _ _ _ _ _ _ _)
   | (with_reducible exact ih7 _ _ _ _ _ _ _ _ _ _)
   | (with_reducible exact ih8 _ _ _ _ _ _ _ _ _)
   | (with_reducible exact ih9 _ _ _ _ _ _ _)
   | (with_reducible exact ih10 _ _ _ _ _ _ _ _ _ _ _)
   | (with_reducible exact impl_PeriodOfScale.mono _ _ _ _)
   | (with_reducible exact impl_ScaleEvents.mono _ _ _ _ _)
   | (with_reducible exact impl_TimesOfScoop.mono _ _ _ _ _ _)
   | (with_reducible exact laws_eSame.mono _ _ _)
   | (with_reducible exact spec_PeriodOfScale.mono _ _ _ _)
   | (with_reducible exact spec_ScaleEvents.mono _ _ _ _ _)
   | (with_reducible exact spec_SpiltByWheel.mono _ _ _ _ _)
   | (with_reducible exact spec_TimesOfScoop.mono _ _ _ _ _ _)
   | (with_reducible exact spec_WheelAfter.mono _ _ _ _ _)
   | (with_reducible exact LeO.refl _)
   | (with_reducible exact LeO.none _)
   | (with_reducible refine LeO.ite ?_ ?_)
   | (with_reducible refine LeO.bind ?_ (fun _ => ?_))
   | exact ih0 _ _ _ _ _ _ _ _ _ _ _
   | exact ih1 _
   | exact ih2 _ _ _ _ _ _ _ _ _ _ _ _ _
   | exact ih3 _ _ _ _ _ _
   | exact ih4 _ _ _ _ _ _
   | exact ih5 _ _ _ _
   | exact ih6 _ _ _ _ _ _ _ _ _ _ _ _ _
   | exact ih7 _ _ _ _ _ _ _ _ _ _
   | exact ih8 _ _ _ _ _ _ _ _ _
   | exact ih9 _ _ _ _ _ _ _
   | exact ih10 _ _ _ _ _ _ _ _ _ _ _
   | exact impl_PeriodOfScale.mono _ _ _ _
   | exact impl_ScaleEvents.mono _ _ _ _ _
   | exact impl_TimesOfScoop.mono _ _ _ _ _ _
   | exact laws_eSame.mono _ _ _
   | exact spec_PeriodOfScale.mono _ _ _ _
   | exact spec_ScaleEvents.mono _ _ _ _ _
   | exact spec_SpiltByWheel.mono _ _ _ _ _
   | exact spec_TimesOfScoop.mono _ _ _ _ _ _
   | exact spec_WheelAfter.mono _ _ _ _ _
   | exact LeO.none _
   | refine LeO.ite ?_ ?_
   | refine LeO.bind ?_ (fun _ => ?_)
  ·intro y0 y1 y2 y3 y4 y5
   unfold laws_FnWheelsAndScales.j9
   repeat' first
   | (with_reducible exact ih0 _ _ _ _ _ _ _ _ _ _ _)
   | (with_reducible exact ih1 _)
   | (with_reducible exact ih2 _ _ _ _ _ _ _ _ _ _ _ _ _)
   | (with_reducible exact ih3 _ _ _ _ _ _)
   | (with_reducible exact ih4 _ _ _ _ _ _)
   | (with_reducible exact ih5 _ _ _ _)
   | (with_reducible exact ih6 _ _ _ _ _ _ _ _ _ _ _ _ _)
   | (with_reducible exact ih7 _ _ _ _ _ _ _ _ _ _)
   | (with_reducible exact ih8 _ _ _ _ _ _ _ _ _)
   | (with_reducible exact ih9 _ _ _ _ _ _ _)
   | (with_reducible exact ih10 _ _ _ _ _ _ _ _ _ _ _)
   | (with_reducible exact impl_PeriodOfScale.mono _ _ _ _)
   | (with_reducible exact impl_ScaleEvents.mono _ _ _ _ _)
   | (with_reducible exact impl_TimesOfScoop.mono _ _ _ _ _ _)
   | (with_reducible exact laws_eSame.mono _ _ _)
   | (with_reducible exact spec_PeriodOfScale.mono _ _ _ _)
   | (with_reducible exact spec_ScaleEvents.mono _ _ _ _ _)
   | (with_reducible exact spec_SpiltByWheel.mono _ _ _ _ _)
   | (with_reducible exact spec_TimesOfScoop.mono _ _ _ _ _ _)
   | (with_reducible exact spec_WheelAfter.mono _ _ _ _ _)
   | (with_reducible exact LeO.refl _)
   | (with_reducible exact LeO.none _)
   | (with_reducible refine LeO.ite ?_ ?_)
   | (with_reducible refine LeO.bind ?_ (fun _ => ?_))
   | exact ih0 _ _ _ _ _ _ _ _ _ _ _
   | exact ih1 _
   | exact ih2 _ _ _ _ _ _ _ _ _ _ _ _ _
   | exact ih3 _ _ _ _ _ _
   | exact ih4 _ _ _ _ _ _
   | exact ih5 _ _ _ _
   | exact ih6 _ _ _ _ _ _ _ _ _ _ _ _ _
   | exact ih7 _ _ _ _ _ _ _ _ _ _
   | exact ih8 _ _ _ _ _ _ _ _ _
   | exact ih9 _ _ _ _ _ _ _
   | exact ih10 _ _ _ _ _ _ _ _ _ _ _
   | exact impl_PeriodOfScale.mono _ _ _ _
   | exact impl_ScaleEvents.mono _ _ _ _ _
   | exact impl_TimesOfScoop.mono _ _ _ _ _ _
   | exact laws_eSame.mono _ _ _
   | exact spec_PeriodOfScale.mono _ _ _ _
   | exact spec_ScaleEvents.mono _ _ _ _ _
   | exact spec_SpiltByWheel.mono _ _ _ _ _
   | exact spec_TimesOfScoop.mono _ _ _ _ _ _
   | exact spec_WheelAfter.mono _ _ _ _ _
   | exact LeO.none _
   | refine LeO.ite ?_ ?_
   | refine LeO.bind ?_ (fun _ => ?_)
  ·intro y0 y1 y2 y3
   unfold laws_FnWheelsAndScales.l2
   repeat' first
   | (with_reducible exact ih0 _ _ _ _ _ _ _ _ _ _ _)
   | (with_reducible exact ih1 _)
   | (with_reducible exact ih2 _ _ _ _ _ _ _ _ _ _ _ _ _)
   | (with_reducible exact ih3 _ _ _ _ _ _)
   | (with_reducible exact ih4 _ _ _ _ _ _)
   | (with_reducible exact ih5 _ _ _ _)
   | (with_reducible exact ih6 _ _ _ _ _ _ _ _ _ _ _ _ _)
   | (with_reducible exact ih7 _ _ _ _ _ _ _ _ _ _)
   | (with_reducible exact ih8 _ _ _ _ _ _ _ _ _)
   | (with_reducible exact ih9 _ _ _ _ _ _ _)
   | (with_reducible exact ih10 _ _ _ _ _ _ _ _ _ _ _)
   | (with_reducible exact impl_PeriodOfScale.mono _ _ _ _)
   | (with_reducible exact impl_ScaleEvents.mono _ _ _ _ _)
   | (with_reducible exact impl_TimesOfScoop.mono _ _ _ _ _ _)
   | (with_reducible exact laws_eSame.mono _ _ _)
   | (with_reducible exact spec_PeriodOfScale.mono _ _ _ _)
   | (with_reducible exact spec_ScaleEvents.mono _ _ _ _ _)
   | (with_reducible exact spec_SpiltByWheel.mono _ _ _ _ _)
   | (with_reducible exact spec_TimesOfScoop.mono _ _ _ _ _ _)
   | (with_reducible exact spec_WheelAfter.mono _ _ _ _ _)
   | (with_reducible exact LeO.refl _)
   | (with_reducible exact LeO.none _)
   | (with_reducible refine LeO.ite ?_ ?_)
   | (with_reducible refine LeO.bind ?_ (fun _ => ?_))
   | exact ih0 _ _ _ _ _ _ _ _ _ _ _
   | exact ih1 _
   | exact ih2 _ _ _ _ _ _ _ _ _ _ _ _ _
   | exact ih3 _ _ _ _ _ _
   | exact ih4 _ _ _ _ _ _
   | exact ih5 _ _ _ _
   | exact ih6 _ _ _ _ _ _ _ _ _ _ _ _ _
   | exact ih7 _ _ _ _ _ _ _ _ _ _
   | exact ih8 _ _ _ _ _ _ _ _ _
   | exact ih9 _ _ _ _ _ _ _
   | exact ih10 _ _ _ _ _ _ _ _ _ _ _
   | exact impl_PeriodOfScale.mono _ _ _ _
   | exact impl_ScaleEvents.mono _ _ _ _ _
   | exact impl_TimesOfScoop.mono _ _ _ _ _ _
   | exact laws_eSame.mono _ _ _
   | exact spec_PeriodOfScale.mono _ _ _ _
   | exact spec_ScaleEvents.mono _ _ _ _ _
   | exact spec_SpiltByWheel.mono _ _ _ _ _
   | exact spec_TimesOfScoop.mono _ _ _ _ _ _
   | exact spec_WheelAfter.mono _ _ _ _ _
   | exact LeO.none _
   | refine LeO.ite ?_ ?_
   | refine LeO.bind ?_ (fun _ => ?_)
  ·intro y0 y1 y2 y3 y4 y5 y6 y7 y8 y9 y10 y11 y12
   unfold laws_FnWheelsAndScales.l1
   repeat' first
   | (with_reducible exact ih0 _ _ _ _ _ _ _ _ _ _ _)
   | (with_reducible exact ih1 _)
   | (with_reducible exact ih2 _ _ _ _ _ _ _ _ _ _ _ _ _)
   | (with_reducible exact ih3 _ _ _ _ _ _)
   | (with_reducible exact ih4 _ _ _ _ _ _)
   | (with_reducible exact ih5 _ _ _ _)
   | (with_reducible exact ih6 _ _ _ _ _ _ _ _ _ _ _ _ _)
   | (with_reducible exact ih7 _ _ _ _ _ _ _ _ _ _)
   | (with_reducible exact ih8 _ _ _ _ _ _ _ _ _)
   | (with_reducible exact ih9 _ _ _ _ _ _ _)
   | (with_reducible exact ih10 _ _ _ _ _ _ _ _ _ _ _)
   | (with_reducible exact impl_PeriodOfScale.mono _ _ _ _)
   | (with_reducible exact impl_ScaleEvents.mono _ _ _ _ _)
   | (with_reducible exact impl_TimesOfScoop.mono _ _ _ _ _ _)
   | (with_reducible exact laws_eSame.mono _ _ _)
   | (with_reducible exact spec_PeriodOfScale.mono _ _ _ _)
   | (with_reducible exact spec_ScaleEvents.mono _ _ _ _ _)
   | (with_reducible exact spec_SpiltByWheel.mono _ _ _ _ _)
   | (with_reducible exact spec_TimesOfScoop.mono _ _ _ _ _ _)
   | (with_reducible exact spec_WheelAfter.mono _ _ _ _ _)
   | (with_reducible exact LeO.refl _)
   | (with_reducible exact LeO.none _)
   | (with_reducible refine LeO.ite ?_ ?_)
   | (with_reducible refine LeO.bind ?_ (fun _ => ?_))
   | exact ih0 _ _ _ _ _ _ _ _ _ _ _
   | exact ih1 _
   | exact ih2 _ _ _ _ _ _ _ _ _ _ _ _ _
   | exact ih3 _ _ _ _ _ _
   | exact ih4 _ _ _ _ _ _
   | exact ih5 _ _ _ _
   | exact ih6 _ _ _ _ _ _ _ _ _ _ _ _ _
   | exact ih7 _ _ _ _ _ _ _ _ _ _
   | exact ih8 _ _ _ _ _ _ _ _ _
   | exact ih9 _ _ _ _ _ _ _
   | exact ih10 _ _ _ _ _ _ _ _ _ _ _
   | exact impl_PeriodOfScale.mono _ _ _ _
   | exact impl_ScaleEvents.mono _ _ _ _ _
   | exact impl_TimesOfScoop.mono _ _ _ _ _ _
   | exact laws_eSame.mono _ _ _
   | exact spec_PeriodOfScale.mono _ _ _ _
   | exact spec_ScaleEvents.mono _ _ _ _ _
   | exact spec_SpiltByWheel.mono _ _ _ _ _
   | exact spec_TimesOfScoop.mono _ _ _ _ _ _
   | exact spec_WheelAfter.mono _ _ _ _ _
   | exact LeO.none _
   | refine LeO.ite ?_ ?_
   | refine LeO.bind ?_ (fun _ => ?_)
  ·intro y0 y1 y2 y3 y4 y5 y6 y7 y8 y9
   unfold laws_FnWheelsAndScales.j1
   repeat' first
   | (with_reducible exact ih0 _ _ _ _ _ _ _ _ _ _ _)
   | (with_reducible exact ih1 _)
   | (with_reducible exact ih2 _ _ _ _ _ _ _ _ _ _ _ _ _)
   | (with_reducible exact ih3 _ _ _ _ _ _)
   | (with_reducible exact ih4 _ _ _ _ _ _)
   | (with_reducible exact ih5 _ _ _ _)
   | (with_reducible exact ih6 _ _ _ _ _ _ _ _ _ _ _ _ _)
   | (with_reducible exact ih7 _ _ _ _ _ _ _ _ _ _)
   | (with_reducible exact ih8 _ _ _ _ _ _ _ _ _)
   | (with_reducible exact ih9 _ _ _ _ _ _ _)
   | (with_reducible exact ih10 _ _ _ _ _ _ _ _ _ _ _)
   | (with_reducible exact impl_PeriodOfScale.mono _ _ _ _)
   | (with_reducible exact impl_ScaleEvents.mono _ _ _ _ _)
   | (with_reducible exact impl_TimesOfScoop.mono _ _ _ _ _ _)
   | (with_reducible exact laws_eSame.mono _ _ _)
   | (with_reducible exact spec_PeriodOfScale.mono _ _ _ _)
   | (with_reducible exact spec_ScaleEvents.mono _ _ _ _ _)
   | (with_reducible exact spec_SpiltByWheel.mono _ _ _ _ _)
   | (with_reducible exact spec_TimesOfScoop.mono _ _ _ _ _ _)
   | (with_reducible exact spec_WheelAfter.mono _ _ _ _ _)
   | (with_reducible exact LeO.refl _)
   | (with_reducible exact LeO.none _)
   | (with_reducible refine LeO.ite ?_ ?_)
   | (with_reducible refine LeO.bind ?_ (fun _ => ?_))
   | exact ih0 _ _ _ _ _ _ _ _ _ _ _
   | exact ih1 _
   | exact ih2 _ _ _ _ _ _ _ _ _ _ _ _ _
   | exact ih3 _ _ _ _ _ _
   | exact ih4 _ _ _ _ _ _
   | exact ih5 _ _ _ _
   | exact ih6 _ _ _ _ _ _ _ _ _ _ _ _ _
   | exact ih7 _ _ _ _ _ _ _ _ _ _
   | exact ih8 _ _ _ _ _ _ _ _ _
   | exact ih9 _ _ _ _ _ _ _
   | exact ih10 _ _ _ _ _ _ _ _ _ _ _
   | exact impl_PeriodOfScale.mono _ _ _ _
   | exact impl_ScaleEvents.mono _ _ _ _ _
   | exact impl_TimesOfScoop.mono _ _ _ _ _ _
   | exact laws_eSame.mono _ _ _
   | exact spec_PeriodOfScale.mono _ _ _ _
   | exact spec_ScaleEvents.mono _ _ _ _ _
   | exact spec_SpiltByWheel.mono _ _ _ _ _
   | exact spec_TimesOfScoop.mono _ _ _ _ _ _
   | exact spec_WheelAfter.mono _ _ _ _ _
   | exact LeO.none _
   | refine LeO.ite ?_ ?_
   | refine LeO.bind ?_ (fun _ => ?_)
  ·intro y0 y1 y2 y3 y4 y5 y6 y7 y8
   unfold laws_FnWheelsAndScales.j2
   repeat' first
   | (with_reducible exact ih0 _ _ _ _ _ _ _ _ _ _ _)
   | (with_reducible exact ih1 _)
   | (with_reducible exact ih2 _ _ _ _ _ _ _ _ _ _ _ _ _)
   | (with_reducible exact ih3 _ _ _ _ _ _)
   | (with_reducible exact ih4 _ _ _ _ _ _)
   | (with_reducible exact ih5 _ _ _ _)
   | (with_reducible exact ih6 _ _ _ _ _ _ _ _ _ _ _ _ _)
   | (with_reducible exact ih7 _ _ _ _ _ _ _ _ _ _)
   | (with_reducible exact ih8 _ _ _ _ _ _ _ _ _)
   | (with_reducible exact ih9 _ _ _ _ _ _ _)
   | (with_reducible exact ih10 _ _ _ _ _ _ _ _ _ _ _)
   | (with_reducible exact impl_PeriodOfScale.mono _ _ _ _)
   | (with_reducible exact impl_ScaleEvents.mono _ _ _ _ _)
   | (with_reducible exact impl_TimesOfScoop.mono _ _ _ _ _ _)
   | (with_reducible exact laws_eSame.mono _ _ _)
   | (with_reducible exact spec_PeriodOfScale.mono _ _ _ _)
   | (with_reducible exact spec_ScaleEvents.mono _ _ _ _ _)
   | (with_reducible exact spec_SpiltByWheel.mono _ _ _ _ _)
   | (with_reducible exact spec_TimesOfScoop.mono _ _ _ _ _ _)
   | (with_reducible exact spec_WheelAfter.mono _ _ _ _ _)
   | (with_reducible exact LeO.refl _)
   | (with_reducible exact LeO.none _)
   | (with_reducible refine LeO.ite ?_ ?_)
   | (with_reducible refine LeO.bind ?_ (fun _ => ?_))
   | exact ih0 _ _ _ _ _ _ _ _ _ _ _
   | exact ih1 _
   | exact ih2 _ _ _ _ _ _ _ _ _ _ _ _ _
   | exact ih3 _ _ _ _ _ _
   | exact ih4 _ _ _ _ _ _
   | exact ih5 _ _ _ _
   | exact ih6 _ _ _ _ _ _ _ _ _ _ _ _ _
   | exact ih7 _ _ _ _ _ _ _ _ _ _
   | exact ih8 _ _ _ _ _ _ _ _ _
   | exact ih9 _ _ _ _ _ _ _
   | exact ih10 _ _ _ _ _ _ _ _ _ _ _
   | exact impl_PeriodOfScale.mono _ _ _ _
   | exact impl_ScaleEvents.mono _ _ _ _ _
   | exact impl_TimesOfScoop.mono _ _ _ _ _ _
   | exact laws_eSame.mono _ _ _
   | exact spec_PeriodOfScale.mono _ _ _ _
   | exact spec_ScaleEvents.mono _ _ _ _ _
   | exact spec_SpiltByWheel.mono _ _ _ _ _
   | exact spec_TimesOfScoop.mono _ _ _ _ _ _
   | exact spec_WheelAfter.mono _ _ _ _ _
   | exact LeO.none _
   | refine LeO.ite ?_ ?_
   | refine LeO.bind ?_ (fun _ => ?_)
  ·intro y0 y1 y2 y3 y4 y5 y6
   unfold laws_FnWheelsAndScales.j3
   repeat' first
   | (with_reducible exact ih0 _ _ _ _ _ _ _ _ _ _ _)
   | (with_reducible exact ih1 _)
   | (with_reducible exact ih2 _ _ _ _ _ _ _ _ _ _ _ _ _)
   | (with_reducible exact ih3 _ _ _ _ _ _)
   | (with_reducible exact ih4 _ _ _ _ _ _)
   | (with_reducible exact ih5 _ _ _ _)
   | (with_reducible exact ih6 _ _ _ _ _ _ _ _ _ _ _ _ _)
   | (with_reducible exact ih7 _ _ _ _ _ _ _ _ _ _)
   | (with_reducible exact ih8 _ _ _ _ _ _ _ _ _)
   | (with_reducible exact ih9 _ _ _ _ _ _ _)
   | (with_reducible exact ih10 _ _ _ _ _ _ _ _ _ _ _)
   | (with_reducible exact impl_PeriodOfScale.mono _ _ _ _)
   | (with_reducible exact impl_ScaleEvents.mono _ _ _ _ _)
   | (with_reducible exact impl_TimesOfScoop.mono _ _ _ _ _ _)
   | (with_reducible exact laws_eSame.mono _ _ _)
   | (with_reducible exact spec_PeriodOfScale.mono _ _ _ _)
   | (with_reducible exact spec_ScaleEvents.mono _ _ _ _ _)
   | (with_reducible exact spec_SpiltByWheel.mono _ _ _ _ _)
   | (with_reducible exact spec_TimesOfScoop.mono _ _ _ _ _ _)
   | (with_reducible exact spec_WheelAfter.mono _ _ _ _ _)
   | (with_reducible exact LeO.refl _)
   | (with_reducible exact LeO.none _)
   | (with_reducible refine LeO.ite ?_ ?_)
   | (with_reducible refine LeO.bind ?_ (fun _ => ?_))
   | exact ih0 _ _ _ _ _ _ _ _ _ _ _
   | exact ih1 _
   | exact ih2 _ _ _ _ _ _ _ _ _ _ _ _ _
   | exact ih3 _ _ _ _ _ _
   | exact ih4 _ _ _ _ _ _
   | exact ih5 _ _ _ _
   | exact ih6 _ _ _ _ _ _ _ _ _ _ _ _ _
   | exact ih7 _ _ _ _ _ _ _ _ _ _
   | exact ih8 _ _ _ _ _ _ _ _ _
   | exact ih9 _ _ _ _ _ _ _
   | exact ih10 _ _ _ _ _ _ _ _ _ _ _
   | exact impl_PeriodOfScale.mono _ _ _ _
   | exact impl_ScaleEvents.mono _ _ _ _ _
   | exact impl_TimesOfScoop.mono _ _ _ _ _ _
   | exact laws_eSame.mono _ _ _
   | exact spec_PeriodOfScale.mono _ _ _ _
   | exact spec_ScaleEvents.mono _ _ _ _ _
   | exact spec_SpiltByWheel.mono _ _ _ _ _
   | exact spec_TimesOfScoop.mono _ _ _ _ _ _
   | exact spec_WheelAfter.mono _ _ _ _ _
   | exact LeO.none _
   | refine LeO.ite ?_ ?_
   | refine LeO.bind ?_ (fun _ => ?_)
  ·intro y0 y1 y2 y3 y4 y5 y6 y7 y8 y9 y10
   unfold laws_FnWheelsAndScales.l0
   repeat' first
   | (with_reducible exact ih0 _ _ _ _ _ _ _ _ _ _ _)
   | (with_reducible exact ih1 _)
   | (with_reducible exact ih2 _ _ _ _ _ _ _ _ _ _ _ _ _)
   | (with_reducible exact ih3 _ _ _ _ _ _)
   | (with_reducible exact ih4 _ _ _ _ _ _)
   | (with_reducible exact ih5 _ _ _ _)
   | (with_reducible exact ih6 _ _ _ _ _ _ _ _ _ _ _ _ _)
   | (with_reducible exact ih7 _ _ _ _ _ _ _ _ _ _)
   | (with_reducible exact ih8 _ _ _ _ _ _ _ _ _)
   | (with_reducible exact ih9 _ _ _ _ _ _ _)
   | (with_reducible exact ih10 _ _ _ _ _ _ _ _ _ _ _)
   | (with_reducible exact impl_PeriodOfScale.mono _ _ _ _)
   | (with_reducible exact impl_ScaleEvents.mono _ _ _ _ _)
   | (with_reducible exact impl_TimesOfScoop.mono _ _ _ _ _ _)
   | (with_reducible exact laws_eSame.mono _ _ _)
   | (with_reducible exact spec_PeriodOfScale.mono _ _ _ _)
   | (with_reducible exact spec_ScaleEvents.mono _ _ _ _ _)
   | (with_reducible exact spec_SpiltByWheel.mono _ _ _ _ _)
   | (with_reducible exact spec_TimesOfScoop.mono _ _ _ _ _ _)
   | (with_reducible exact spec_WheelAfter.mono _ _ _ _ _)
   | (with_reducible exact LeO.refl _)
   | (with_reducible exact LeO.none _)
   | (with_reducible refine LeO.ite ?_ ?_)
   | (with_reducible refine LeO.bind ?_ (fun _ => ?_))
   | exact ih0 _ _ _ _ _ _ _ _ _ _ _
   | exact ih1 _
   | exact ih2 _ _ _ _ _ _ _ _ _ _ _ _ _
   | exact ih3 _ _ _ _ _ _
   | exact ih4 _ _ _ _ _ _
   | exact ih5 _ _ _ _
   | exact ih6 _ _ _ _ _ _ _ _ _ _ _ _ _
   | exact ih7 _ _ _ _ _ _ _ _ _ _
   | exact ih8 _ _ _ _ _ _ _ _ _
   | exact ih9 _ _ _ _ _ _ _
   | exact ih10 _ _ _ _ _ _ _ _ _ _ _
   | exact impl_PeriodOfScale.mono _ _ _ _
   | exact impl_ScaleEvents.mono _ _ _ _ _
   | exact impl_TimesOfScoop.mono _ _ _ _ _ _
   | exact laws_eSame.mono _ _ _
   | exact spec_PeriodOfScale.mono _ _ _ _
   | exact spec_ScaleEvents.mono _ _ _ _ _
   | exact spec_SpiltByWheel.mono _ _ _ _ _
   | exact spec_TimesOfScoop.mono _ _ _ _ _ _
   | exact spec_WheelAfter.mono _ _ _ _ _
   | exact LeO.none _
   | refine LeO.ite ?_ ?_
   | refine LeO.bind ?_ (fun _ => ?_)
theorem laws_FnWheelsAndScales.mono : ∀ a0 a1 k, LeO (laws_FnWheelsAndScales.f k a0 a1) (laws_FnWheelsAndScales.f (k + 1) a0 a1) := by
 intro a0 a1 k
 obtain ⟨ih0, ih1, ih2, ih3, ih4, ih5, ih6, ih7, ih8, ih9, ih10⟩ := laws_FnWheelsAndScales.mono_l k
 unfold laws_FnWheelsAndScales.f
 repeat' first
   | (with_reducible exact ih0 _ _ _ _ _ _ _ _ _ _ _)
   | (with_reducible exact ih1 _)
   | (with_reducible exact ih2 _ _ _ _ _ _ _ _ _ _ _ _ _)
   | (with_reducible exact ih3 _ _ _ _ _ _)
   | (with_reducible exact ih4 _ _ _ _ _ _)
   | (with_reducible exact ih5 _ _ _ _)
   | (with_reducible exact ih6 _ _ _ _ _ _ _ _ _ _ _ _ _)
   | (with_reducible exact ih7 _ _ _ _ _ _ _ _ _ _)
   | (with_reducible exact ih8 _ _ _ _ _ _ _ _ _)
   | (with_reducible exact ih9 _ _ _ _ _ _ _)
   | (with_reducible exact ih10 _ _ _ _ _ _ _ _ _ _ _)
   | (with_reducible exact impl_PeriodOfScale.mono _ _ _ _)
   | (with_reducible exact impl_ScaleEvents.mono _ _ _ _ _)
   | (with_reducible exact impl_TimesOfScoop.mono _ _ _ _ _ _)
   | (with_reducible exact laws_eSame.mono _ _ _)
   | (with_reducible exact spec_PeriodOfScale.mono _ _ _ _)
   | (with_reducible exact spec_ScaleEvents.mono _ _ _ _ _)
   | (with_reducible exact spec_SpiltByWheel.mono _ _ _ _ _)
   | (with_reducible exact spec_TimesOfScoop.mono _ _ _ _ _ _)
   | (with_reducible exact spec_WheelAfter.mono _ _ _ _ _)
   | (with_reducible exact LeO.refl _)
   | (with_reducible exact LeO.none _)
   | (with_reducible refine LeO.ite ?_ ?_)
   | (with_reducible refine LeO.bind ?_ (fun _ => ?_))
   | exact ih0 _ _ _ _ _ _ _ _ _ _ _
   | exact ih1 _
   | exact ih2 _ _ _ _ _ _ _ _ _ _ _ _ _
   | exact ih3 _ _ _ _ _ _
   | exact ih4 _ _ _ _ _ _
   | exact ih5 _ _ _ _
   | exact ih6 _ _ _ _ _ _ _ _ _ _ _ _ _
   | exact ih7 _ _ _ _ _ _ _ _ _ _
   | exact ih8 _ _ _ _ _ _ _ _ _
   | exact ih9 _ _ _ _ _ _ _
   | exact ih10 _ _ _ _ _ _ _ _ _ _ _
   | exact impl_PeriodOfScale.mono _ _ _ _
   | exact impl_ScaleEvents.mono _ _ _ _ _
   | exact impl_TimesOfScoop.mono _ _ _ _ _ _
   | exact laws_eSame.mono _ _ _
   | exact spec_PeriodOfScale.mono _ _ _ _
   | exact spec_ScaleEvents.mono _ _ _ _ _
   | exact spec_SpiltByWheel.mono _ _ _ _ _
   | exact spec_TimesOfScoop.mono _ _ _ _ _ _
   | exact spec_WheelAfter.mono _ _ _ _ _
   | exact LeO.none _
   | refine LeO.ite ?_ ?_
   | refine LeO.bind ?_ (fun _ => ?_)
def laws_FnWheelsAndScales.T10 : Bool × List (List Nat × List Nat) := (true, [([], []), ([], []), ([0, 1], [0, 1]), ([2], [2]), ([3], [3]), ([3], [3]), ([4, 5, 3], [3, 4, 5]), ([3, 6], [3, 6]), ([7, 3], [7]), ([8], [8]), ([8], [8]), ([9, 10, 8], [8, 9, 10]), ([8, 11], [8, 11]), ([12, 8], [12]), ([13], [13]), ([13], [13]), ([14, 15, 13], [13, 14, 15]), ([13, 16], [13, 16]), ([17, 13], [17]), ([18], [18]), ([18], [18]), ([19, 20, 18], [18, 19, 20]), ([18, 21], [18, 21]), ([22, 18], [22]), ([23], [23]), ([23], [23]), ([24, 25, 23], [23, 24, 25]), ([23, 26], [23, 26]), ([27, 23], [27]), ([28], [28]), ([28], [28]), ([29, 30, 28], [28, 29, 30]), ([28, 31], [28, 31]), ([32, 28], [32]), ([33], [33]), ([33], [33]), ([34, 35, 33], [33, 34, 35]), ([33, 36], [33, 36]), ([37, 33], [37]), ([38], [38]), ([38], [38]), ([40, 38, 38], [38, 40]), ([39, 41, 38], [38, 39, 41]), ([38, 42], [38, 42]), ([43, 41], [43]), ([44], [44]), ([45, 44, 44], [44, 45]), ([44], [44]), ([47, 46, 44], [44, 47]), ([46, 48, 44], [44, 46, 48]), ([44, 49], [44, 49]), ([50, 48], [50]), ([51], [51]), ([52, 51, 51], [51, 52]), ([53], [53]), ([54, 53], [53, 54]), ([53, 55, 51], [51, 53, 55]), ([51, 56], [51, 56])])
def laws_FnWheelsAndScales.B10 : List Nat := [0, 0, 3, 7, 15, 15, 63, 127, 255, 511, 511, 2047, 4095, 8191, 16383, 16383, 65535, 131071, 262143, 524287, 524287, 2097151, 4194303, 8388607, 16777215, 16777215, 67108863, 134217727, 268435455, 536870911, 536870911, 2147483647, 4294967295, 8589934591, 17179869183, 17179869183, 68719476735, 137438953471, 274877906943, 549755813887, 549755813887, 1649267441663, 4398046511103, 8796093022207, 17592186044415, 35184372088831, 70368744177663, 35184372088831, 281474976710655, 562949953421311, 1125899906842623, 2251799813685247, 4503599627370495, 9007199254740991, 18014398509481983, 36028797018963967, 72057594037927935, 144115188075855871]
theorem laws_FnWheelsAndScales.tab10 : rtab .any (opsOf Try.f3 10) = laws_FnWheelsAndScales.T10 := by kernel_rfl
theorem laws_FnWheelsAndScales.bits10 : waitsOk laws_FnWheelsAndScales.T10.2 laws_FnWheelsAndScales.B10 = true := by kernel_rfl
def laws_FnWheelsAndScales.T67 : Bool × List (List Nat × List Nat) := (true, [([], []), ([], []), ([0, 1], [0, 1]), ([], []), ([], []), ([], []), ([], []), ([5, 6], [5, 6]), ([4, 7], [4, 7]), ([3, 8], [3, 8]), ([2, 9], [2, 9])])
def laws_FnWheelsAndScales.B67 : List Nat := [0, 0, 3, 0, 0, 0, 0, 96, 240, 504, 1023]
theorem laws_FnWheelsAndScales.tab67 : rtab .any (opsOf Try.f3 67) = laws_FnWheelsAndScales.T67 := by kernel_rfl
theorem laws_FnWheelsAndScales.bits67 : waitsOk laws_FnWheelsAndScales.T67.2 laws_FnWheelsAndScales.B67 = true := by kernel_rfl
set_option maxHeartbeats 80000000 in
set_option maxRecDepth 100000 in
theorem laws_FnWheelsAndScales.calls (k : Nat) (A0 : Option Addr) (c0 : Nat) (l0 : List Int) (A1 : Option Addr) (c1 : Nat) (l1 : List Int) (r : Bool) (w : World) (hr0 : Kd.C (Kd.int .u8) w A0 l0.length l0) (hc0 : l0.length ≤ c0) (hr1 : Kd.C (Kd.int .u8) w A1 l1.length l1) (hc1 : l1.length ≤ c1) (hrt : Aside0 (r = true)) (h : laws_FnWheelsAndScales.f k l0 l1 = some r) :
  Calls Try.prog 3 #[.slice A0 l0.length c0, .slice A1 l1.length c1] w fun e w' => e = .returned (.bool r) ∧ Below w.heap.size w w' := by
 have hu25 := Try.underlying25
 have hu40 := Try.underlying40
 have HR0 := Aside0.mk hr0
 have HC0 := Aside0.mk hc0
 clear hr0 hc0
 have HR1 := Aside0.mk hr1
 have HC1 := Aside0.mk hc1
 clear hr1 hc1
 have HB := Aside0.mk (Below.refl w.heap.size w)
 have H : ((laws_big.f l0 l1).bind fun t342 => (if t342 = true then (some true) else ((spec_DrawWheelAfter.f l0).bind fun bt343 => ((impl_WheelAfter.f bt343.1 bt343.2.1 bt343.2.2.1 bt343.2.2.2).bind fun bt348 => ((spec_WheelAfter.f k bt343.1 bt343.2.1 bt343.2.2.1 bt343.2.2.2).bind fun bt351 => ((impl_SpiltByWheel.f bt343.1 bt343.2.1 bt343.2.2.1 bt343.2.2.2).bind fun bt354 => ((spec_SpiltByWheel.f k bt343.1 bt343.2.1 bt343.2.2.1 bt343.2.2.2).bind fun bt356 => ((impl_TurnTime.f bt343.1 bt343.2.1 bt343.2.2.1).bind fun bt358 => ((spec_TurnTime.f bt343.1 bt343.2.1 bt343.2.2.1).bind fun bt360 => (if (bt348.2.2 != bt351.2.2) = true then (laws_FnWheelsAndScales.j0 k l1 bt343.2.2.2 bt348.1 bt348.2.1 bt348.2.2 bt354.1 bt358.1 true bt343.1 bt343.2.1 bt343.2.2.1) else (if bt348.1 = bt351.1 then (if bt348.2.1 = bt351.2.1 then (if (bt354.2 != bt356.2) = true then (laws_FnWheelsAndScales.j0 k l1 bt343.2.2.2 bt348.1 bt348.2.1 bt348.2.2 bt354.1 bt358.1 true bt343.1 bt343.2.1 bt343.2.2.1) else (if bt354.1 = bt356.1 then (if (bt358.2 != bt360.2) = true then (laws_FnWheelsAndScales.j0 k l1 bt343.2.2.2 bt348.1 bt348.2.1 bt348.2.2 bt354.1 bt358.1 true bt343.1 bt343.2.1 bt343.2.2.1) else (if bt358.1 = bt360.1 then (if (bt354.2 != bt348.2.2) = true then (laws_FnWheelsAndScales.j0 k l1 bt343.2.2.2 bt348.1 bt348.2.1 bt348.2.2 bt354.1 bt358.1 true bt343.1 bt343.2.1 bt343.2.2.1) else ((impl_IsWheel.f bt343.1 bt343.2.1 bt343.2.2.1).bind fun t362 => (if (bt358.2 != t362) = true then (laws_FnWheelsAndScales.j0 k l1 bt343.2.2.2 bt348.1 bt348.2.1 bt348.2.2 bt354.1 bt358.1 true bt343.1 bt343.2.1 bt343.2.2.1) else ((impl_IsWheel.f bt343.1 bt343.2.1 bt343.2.2.1).bind fun t363 => ((spec_IsWheel.f bt343.1 bt343.2.1 bt343.2.2.1).bind fun t364 => (if (t363 != t364) = true then (laws_FnWheelsAndScales.j0 k l1 bt343.2.2.2 bt348.1 bt348.2.1 bt348.2.2 bt354.1 bt358.1 true bt343.1 bt343.2.1 bt343.2.2.1) else (if bt348.2.2 = true then (laws_FnWheelsAndScales.j0 k l1 bt343.2.2.2 bt348.1 bt348.2.1 bt348.2.2 bt354.1 bt358.1 (!bt358.2) bt343.1 bt343.2.1 bt343.2.2.1) else (laws_FnWheelsAndScales.j0 k l1 bt343.2.2.2 bt348.1 bt348.2.1 bt348.2.2 bt354.1 bt358.1 false bt343.1 bt343.2.1 bt343.2.2.1)))))))) else (laws_FnWheelsAndScales.j0 k l1 bt343.2.2.2 bt348.1 bt348.2.1 bt348.2.2 bt354.1 bt358.1 true bt343.1 bt343.2.1 bt343.2.2.1))) else (laws_FnWheelsAndScales.j0 k l1 bt343.2.2.2 bt348.1 bt348.2.1 bt348.2.2 bt354.1 bt358.1 true bt343.1 bt343.2.1 bt343.2.2.1))) else (laws_FnWheelsAndScales.j0 k l1 bt343.2.2.2 bt348.1 bt348.2.1 bt348.2.2 bt354.1 bt358.1 true bt343.1 bt343.2.1 bt343.2.2.1)) else (laws_FnWheelsAndScales.j0 k l1 bt343.2.2.2 bt348.1 bt348.2.1 bt348.2.2 bt354.1 bt358.1 true bt343.1 bt343.2.1 bt343.2.2.1)))))))))))) = some r := h
 clear h
 replace H := Option.bind_eq_some_iff.mp H
 obtain ⟨t342, A30, H⟩ := H
 replace H : (if t342 = true then (some true) else ((spec_DrawWheelAfter.f l0).bind fun bt343 => ((impl_WheelAfter.f bt343.1 bt343.2.1 bt343.2.2.1 bt343.2.2.2).bind fun bt348 => ((spec_WheelAfter.f k bt343.1 bt343.2.1 bt343.2.2.1 bt343.2.2.2).bind fun bt351 => ((impl_SpiltByWheel.f bt343.1 bt343.2.1 bt343.2.2.1 bt343.2.2.2).bind fun bt354 => ((spec_SpiltByWheel.f k bt343.1 bt343.2.1 bt343.2.2.1 bt343.2.2.2).bind fun bt356 => ((impl_TurnTime.f bt343.1 bt343.2.1 bt343.2.2.1).bind fun bt358 => ((spec_TurnTime.f bt343.1 bt343.2.1 bt343.2.2.1).bind fun bt360 => (if (bt348.2.2 != bt351.2.2) = true then (laws_FnWheelsAndScales.j0 k l1 bt343.2.2.2 bt348.1 bt348.2.1 bt348.2.2 bt354.1 bt358.1 true bt343.1 bt343.2.1 bt343.2.2.1) else (if bt348.1 = bt351.1 then (if bt348.2.1 = bt351.2.1 then (if (bt354.2 != bt356.2) = true then (laws_FnWheelsAndScales.j0 k l1 bt343.2.2.2 bt348.1 bt348.2.1 bt348.2.2 bt354.1 bt358.1 true bt343.1 bt343.2.1 bt343.2.2.1) else (if bt354.1 = bt356.1 then (if (bt358.2 != bt360.2) = true then (laws_FnWheelsAndScales.j0 k l1 bt343.2.2.2 bt348.1 bt348.2.1 bt348.2.2 bt354.1 bt358.1 true bt343.1 bt343.2.1 bt343.2.2.1) else (if bt358.1 = bt360.1 then (if (bt354.2 != bt348.2.2) = true then (laws_FnWheelsAndScales.j0 k l1 bt343.2.2.2 bt348.1 bt348.2.1 bt348.2.2 bt354.1 bt358.1 true bt343.1 bt343.2.1 bt343.2.2.1) else ((impl_IsWheel.f bt343.1 bt343.2.1 bt343.2.2.1).bind fun t362 => (if (bt358.2 != t362) = true then (laws_FnWheelsAndScales.j0 k l1 bt343.2.2.2 bt348.1 bt348.2.1 bt348.2.2 bt354.1 bt358.1 true bt343.1 bt343.2.1 bt343.2.2.1) else ((impl_IsWheel.f bt343.1 bt343.2.1 bt343.2.2.1).bind fun t363 => ((spec_IsWheel.f bt343.1 bt343.2.1 bt343.2.2.1).bind fun t364 => (if (t363 != t364) = true then (laws_FnWheelsAndScales.j0 k l1 bt343.2.2.2 bt348.1 bt348.2.1 bt348.2.2 bt354.1 bt358.1 true bt343.1 bt343.2.1 bt343.2.2.1) else (if bt348.2.2 = true then (laws_FnWheelsAndScales.j0 k l1 bt343.2.2.2 bt348.1 bt348.2.1 bt348.2.2 bt354.1 bt358.1 (!bt358.2) bt343.1 bt343.2.1 bt343.2.2.1) else (laws_FnWheelsAndScales.j0 k l1 bt343.2.2.2 bt348.1 bt348.2.1 bt348.2.2 bt354.1 bt358.1 false bt343.1 bt343.2.1 bt343.2.2.1)))))))) else (laws_FnWheelsAndScales.j0 k l1 bt343.2.2.2 bt348.1 bt348.2.1 bt348.2.2 bt354.1 bt358.1 true bt343.1 bt343.2.1 bt343.2.2.1))) else (laws_FnWheelsAndScales.j0 k l1 bt343.2.2.2 bt348.1 bt348.2.1 bt348.2.2 bt354.1 bt358.1 true bt343.1 bt343.2.1 bt343.2.2.1))) else (laws_FnWheelsAndScales.j0 k l1 bt343.2.2.2 bt348.1 bt348.2.1 bt348.2.2 bt354.1 bt358.1 true bt343.1 bt343.2.1 bt343.2.2.1)) else (laws_FnWheelsAndScales.j0 k l1 bt343.2.2.2 bt348.1 bt348.2.1 bt348.2.2 bt354.1 bt358.1 true bt343.1 bt343.2.1 bt343.2.2.1))))))))))) = some r := H
 have A3 := Aside0.mk A30
 clear A30
 by_cases c4 : t342 = true
 ·subst c4
  have H1 : (some true) = some r := by rw [if_pos rfl] at H; exact H
  clear H
  have H := H1
  clear H1
  obtain rfl := Option.some.inj H
  go_enter Try.func3, Try.ntmps3
  go_wp2_with (first | ((with_reducible refine gate_callee (f := 10) rfl ?_); refine gl 61 Try.func10 #[.slice A0 l0.length c0, .slice A1 l1.length c1] ?_; (with_reducible refine (laws_big.calls _ _ l0 _ _ l1 true _ ?side1 ?side2 ?side3 ?side4 A3.out).mono ?_); (case side1 => repeat (first | exact HR0.out | (with_reducible refine Kd.C_alloc ?_ _) | (with_reducible refine Kd.C_drewN ?_ _) | (with_reducible refine Kd.C_drew ?_))); (case side2 => exact HC0.out); (case side3 => repeat (first | exact HR1.out | (with_reducible refine Kd.C_alloc ?_ _) | (with_reducible refine Kd.C_drewN ?_ _) | (with_reducible refine Kd.C_drew ?_))); (case side4 => exact HC1.out); rintro e w' ⟨rfl, ⟨nd, rfl⟩⟩; refine ⟨_, rfl, ?_⟩))
  go_ret
  exact ⟨by first | rfl | (simp [errW_none, errW_some] <;> rfl) | (simp [*, errW_none, errW_some] <;> rfl), bw HB⟩
 replace c4 := Bool.eq_false_iff.mpr c4
 subst c4
 have H1 : ((spec_DrawWheelAfter.f l0).bind fun bt343 => ((impl_WheelAfter.f bt343.1 bt343.2.1 bt343.2.2.1 bt343.2.2.2).bind fun bt348 => ((spec_WheelAfter.f k bt343.1 bt343.2.1 bt343.2.2.1 bt343.2.2.2).bind fun bt351 => ((impl_SpiltByWheel.f bt343.1 bt343.2.1 bt343.2.2.1 bt343.2.2.2).bind fun bt354 => ((spec_SpiltByWheel.f k bt343.1 bt343.2.1 bt343.2.2.1 bt343.2.2.2).bind fun bt356 => ((impl_TurnTime.f bt343.1 bt343.2.1 bt343.2.2.1).bind fun bt358 => ((spec_TurnTime.f bt343.1 bt343.2.1 bt343.2.2.1).bind fun bt360 => (if (bt348.2.2 != bt351.2.2) = true then (laws_FnWheelsAndScales.j0 k l1 bt343.2.2.2 bt348.1 bt348.2.1 bt348.2.2 bt354.1 bt358.1 true bt343.1 bt343.2.1 bt343.2.2.1) else (if bt348.1 = bt351.1 then (if bt348.2.1 = bt351.2.1 then (if (bt354.2 != bt356.2) = true then (laws_FnWheelsAndScales.j0 k l1 bt343.2.2.2 bt348.1 bt348.2.1 bt348.2.2 bt354.1 bt358.1 true bt343.1 bt343.2.1 bt343.2.2.1) else (if bt354.1 = bt356.1 then (if (bt358.2 != bt360.2) = true then (laws_FnWheelsAndScales.j0 k l1 bt343.2.2.2 bt348.1 bt348.2.1 bt348.2.2 bt354.1 bt358.1 true bt343.1 bt343.2.1 bt343.2.2.1) else (if bt358.1 = bt360.1 then (if (bt354.2 != bt348.2.2) = true then (laws_FnWheelsAndScales.j0 k l1 bt343.2.2.2 bt348.1 bt348.2.1 bt348.2.2 bt354.1 bt358.1 true bt343.1 bt343.2.1 bt343.2.2.1) else ((impl_IsWheel.f bt343.1 bt343.2.1 bt343.2.2.1).bind fun t362 => (if (bt358.2 != t362) = true then (laws_FnWheelsAndScales.j0 k l1 bt343.2.2.2 bt348.1 bt348.2.1 bt348.2.2 bt354.1 bt358.1 true bt343.1 bt343.2.1 bt343.2.2.1) else ((impl_IsWheel.f bt343.1 bt343.2.1 bt343.2.2.1).bind fun t363 => ((spec_IsWheel.f bt343.1 bt343.2.1 bt343.2.2.1).bind fun t364 => (if (t363 != t364) = true then (laws_FnWheelsAndScales.j0 k l1 bt343.2.2.2 bt348.1 bt348.2.1 bt348.2.2 bt354.1 bt358.1 true bt343.1 bt343.2.1 bt343.2.2.1) else (if bt348.2.2 = true then (laws_FnWheelsAndScales.j0 k l1 bt343.2.2.2 bt348.1 bt348.2.1 bt348.2.2 bt354.1 bt358.1 (!bt358.2) bt343.1 bt343.2.1 bt343.2.2.1) else (laws_FnWheelsAndScales.j0 k l1 bt343.2.2.2 bt348.1 bt348.2.1 bt348.2.2 bt354.1 bt358.1 false bt343.1 bt343.2.1 bt343.2.2.1)))))))) else (laws_FnWheelsAndScales.j0 k l1 bt343.2.2.2 bt348.1 bt348.2.1 bt348.2.2 bt354.1 bt358.1 true bt343.1 bt343.2.1 bt343.2.2.1))) else (laws_FnWheelsAndScales.j0 k l1 bt343.2.2.2 bt348.1 bt348.2.1 bt348.2.2 bt354.1 bt358.1 true bt343.1 bt343.2.1 bt343.2.2.1))) else (laws_FnWheelsAndScales.j0 k l1 bt343.2.2.2 bt348.1 bt348.2.1 bt348.2.2 bt354.1 bt358.1 true bt343.1 bt343.2.1 bt343.2.2.1)) else (laws_FnWheelsAndScales.j0 k l1 bt343.2.2.2 bt348.1 bt348.2.1 bt348.2.2 bt354.1 bt358.1 true bt343.1 bt343.2.1 bt343.2.2.1)))))))))) = some r := by rw [if_neg (show ¬ (false = true) by decide)] at H; exact H
 clear H
 have H := H1
 clear H1
 replace H := Option.bind_eq_some_iff.mp H
 obtain ⟨⟨t343, t344, t345, t346⟩, A50, H⟩ := H
 replace H : ((impl_WheelAfter.f t343 t344 t345 t346).bind fun bt348 => ((spec_WheelAfter.f k t343 t344 t345 t346).bind fun bt351 => ((impl_SpiltByWheel.f t343 t344 t345 t346).bind fun bt354 => ((spec_SpiltByWheel.f k t343 t344 t345 t346).bind fun bt356 => ((impl_TurnTime.f t343 t344 t345).bind fun bt358 => ((spec_TurnTime.f t343 t344 t345).bind fun bt360 => (if (bt348.2.2 != bt351.2.2) = true then (laws_FnWheelsAndScales.j0 k l1 t346 bt348.1 bt348.2.1 bt348.2.2 bt354.1 bt358.1 true t343 t344 t345) else (if bt348.1 = bt351.1 then (if bt348.2.1 = bt351.2.1 then (if (bt354.2 != bt356.2) = true then (laws_FnWheelsAndScales.j0 k l1 t346 bt348.1 bt348.2.1 bt348.2.2 bt354.1 bt358.1 true t343 t344 t345) else (if bt354.1 = bt356.1 then (if (bt358.2 != bt360.2) = true then (laws_FnWheelsAndScales.j0 k l1 t346 bt348.1 bt348.2.1 bt348.2.2 bt354.1 bt358.1 true t343 t344 t345) else (if bt358.1 = bt360.1 then (if (bt354.2 != bt348.2.2) = true then (laws_FnWheelsAndScales.j0 k l1 t346 bt348.1 bt348.2.1 bt348.2.2 bt354.1 bt358.1 true t343 t344 t345) else ((impl_IsWheel.f t343 t344 t345).bind fun t362 => (if (bt358.2 != t362) = true then (laws_FnWheelsAndScales.j0 k l1 t346 bt348.1 bt348.2.1 bt348.2.2 bt354.1 bt358.1 true t343 t344 t345) else ((impl_IsWheel.f t343 t344 t345).bind fun t363 => ((spec_IsWheel.f t343 t344 t345).bind fun t364 => (if (t363 != t364) = true then (laws_FnWheelsAndScales.j0 k l1 t346 bt348.1 bt348.2.1 bt348.2.2 bt354.1 bt358.1 true t343 t344 t345) else (if bt348.2.2 = true then (laws_FnWheelsAndScales.j0 k l1 t346 bt348.1 bt348.2.1 bt348.2.2 bt354.1 bt358.1 (!bt358.2) t343 t344 t345) else (laws_FnWheelsAndScales.j0 k l1 t346 bt348.1 bt348.2.1 bt348.2.2 bt354.1 bt358.1 false t343 t344 t345)))))))) else (laws_FnWheelsAndScales.j0 k l1 t346 bt348.1 bt348.2.1 bt348.2.2 bt354.1 bt358.1 true t343 t344 t345))) else (laws_FnWheelsAndScales.j0 k l1 t346 bt348.1 bt348.2.1 bt348.2.2 bt354.1 bt358.1 true t343 t344 t345))) else (laws_FnWheelsAndScales.j0 k l1 t346 bt348.1 bt348.2.1 bt348.2.2 bt354.1 bt358.1 true t343 t344 t345)) else (laws_FnWheelsAndScales.j0 k l1 t346 bt348.1 bt348.2.1 bt348.2.2 bt354.1 bt358.1 true t343 t344 t345))))))))) = some r := H
 have A5 := Aside0.mk A50
 clear A50
 replace H := Option.bind_eq_some_iff.mp H
 obtain ⟨⟨t348, t349, t350⟩, A60, H⟩ := H
 replace H : ((spec_WheelAfter.f k t343 t344 t345 t346).bind fun bt351 => ((impl_SpiltByWheel.f t343 t344 t345 t346).bind fun bt354 => ((spec_SpiltByWheel.f k t343 t344 t345 t346).bind fun bt356 => ((impl_TurnTime.f t343 t344 t345).bind fun bt358 => ((spec_TurnTime.f t343 t344 t345).bind fun bt360 => (if (t350 != bt351.2.2) = true then (laws_FnWheelsAndScales.j0 k l1 t346 t348 t349 t350 bt354.1 bt358.1 true t343 t344 t345) else (if t348 = bt351.1 then (if t349 = bt351.2.1 then (if (bt354.2 != bt356.2) = true then (laws_FnWheelsAndScales.j0 k l1 t346 t348 t349 t350 bt354.1 bt358.1 true t343 t344 t345) else (if bt354.1 = bt356.1 then (if (bt358.2 != bt360.2) = true then (laws_FnWheelsAndScales.j0 k l1 t346 t348 t349 t350 bt354.1 bt358.1 true t343 t344 t345) else (if bt358.1 = bt360.1 then (if (bt354.2 != t350) = true then (laws_FnWheelsAndScales.j0 k l1 t346 t348 t349 t350 bt354.1 bt358.1 true t343 t344 t345) else ((impl_IsWheel.f t343 t344 t345).bind fun t362 => (if (bt358.2 != t362) = true then (laws_FnWheelsAndScales.j0 k l1 t346 t348 t349 t350 bt354.1 bt358.1 true t343 t344 t345) else ((impl_IsWheel.f t343 t344 t345).bind fun t363 => ((spec_IsWheel.f t343 t344 t345).bind fun t364 => (if (t363 != t364) = true then (laws_FnWheelsAndScales.j0 k l1 t346 t348 t349 t350 bt354.1 bt358.1 true t343 t344 t345) else (if t350 = true then (laws_FnWheelsAndScales.j0 k l1 t346 t348 t349 t350 bt354.1 bt358.1 (!bt358.2) t343 t344 t345) else (laws_FnWheelsAndScales.j0 k l1 t346 t348 t349 t350 bt354.1 bt358.1 false t343 t344 t345)))))))) else (laws_FnWheelsAndScales.j0 k l1 t346 t348 t349 t350 bt354.1 bt358.1 true t343 t344 t345))) else (laws_FnWheelsAndScales.j0 k l1 t346 t348 t349 t350 bt354.1 bt358.1 true t343 t344 t345))) else (laws_FnWheelsAndScales.j0 k l1 t346 t348 t349 t350 bt354.1 bt358.1 true t343 t344 t345)) else (laws_FnWheelsAndScales.j0 k l1 t346 t348 t349 t350 bt354.1 bt358.1 true t343 t344 t345)))))))) = some r := H
 have A6 := Aside0.mk A60
 clear A60
 replace H := Option.bind_eq_some_iff.mp H
 obtain ⟨⟨t351, t352, t353⟩, A70, H⟩ := H
 replace H : ((impl_SpiltByWheel.f t343 t344 t345 t346).bind fun bt354 => ((spec_SpiltByWheel.f k t343 t344 t345 t346).bind fun bt356 => ((impl_TurnTime.f t343 t344 t345).bind fun bt358 => ((spec_TurnTime.f t343 t344 t345).bind fun bt360 => (if (t350 != t353) = true then (laws_FnWheelsAndScales.j0 k l1 t346 t348 t349 t350 bt354.1 bt358.1 true t343 t344 t345) else (if t348 = t351 then (if t349 = t352 then (if (bt354.2 != bt356.2) = true then (laws_FnWheelsAndScales.j0 k l1 t346 t348 t349 t350 bt354.1 bt358.1 true t343 t344 t345) else (if bt354.1 = bt356.1 then (if (bt358.2 != bt360.2) = true then (laws_FnWheelsAndScales.j0 k l1 t346 t348 t349 t350 bt354.1 bt358.1 true t343 t344 t345) else (if bt358.1 = bt360.1 then (if (bt354.2 != t350) = true then (laws_FnWheelsAndScales.j0 k l1 t346 t348 t349 t350 bt354.1 bt358.1 true t343 t344 t345) else ((impl_IsWheel.f t343 t344 t345).bind fun t362 => (if (bt358.2 != t362) = true then (laws_FnWheelsAndScales.j0 k l1 t346 t348 t349 t350 bt354.1 bt358.1 true t343 t344 t345) else ((impl_IsWheel.f t343 t344 t345).bind fun t363 => ((spec_IsWheel.f t343 t344 t345).bind fun t364 => (if (t363 != t364) = true then (laws_FnWheelsAndScales.j0 k l1 t346 t348 t349 t350 bt354.1 bt358.1 true t343 t344 t345) else (if t350 = true then (laws_FnWheelsAndScales.j0 k l1 t346 t348 t349 t350 bt354.1 bt358.1 (!bt358.2) t343 t344 t345) else (laws_FnWheelsAndScales.j0 k l1 t346 t348 t349 t350 bt354.1 bt358.1 false t343 t344 t345)))))))) else (laws_FnWheelsAndScales.j0 k l1 t346 t348 t349 t350 bt354.1 bt358.1 true t343 t344 t345))) else (laws_FnWheelsAndScales.j0 k l1 t346 t348 t349 t350 bt354.1 bt358.1 true t343 t344 t345))) else (laws_FnWheelsAndScales.j0 k l1 t346 t348 t349 t350 bt354.1 bt358.1 true t343 t344 t345)) else (laws_FnWheelsAndScales.j0 k l1 t346 t348 t349 t350 bt354.1 bt358.1 true t343 t344 t345))))))) = some r := H
 have A7 := Aside0.mk A70
 clear A70
 replace H := Option.bind_eq_some_iff.mp H
 obtain ⟨⟨t354, t355⟩, A80, H⟩ := H
 replace H : ((spec_SpiltByWheel.f k t343 t344 t345 t346).bind fun bt356 => ((impl_TurnTime.f t343 t344 t345).bind fun bt358 => ((spec_TurnTime.f t343 t344 t345).bind fun bt360 => (if (t350 != t353) = true then (laws_FnWheelsAndScales.j0 k l1 t346 t348 t349 t350 t354 bt358.1 true t343 t344 t345) else (if t348 = t351 then (if t349 = t352 then (if (t355 != bt356.2) = true then (laws_FnWheelsAndScales.j0 k l1 t346 t348 t349 t350 t354 bt358.1 true t343 t344 t345) else (if t354 = bt356.1 then (if (bt358.2 != bt360.2) = true then (laws_FnWheelsAndScales.j0 k l1 t346 t348 t349 t350 t354 bt358.1 true t343 t344 t345) else (if bt358.1 = bt360.1 then (if (t355 != t350) = true then (laws_FnWheelsAndScales.j0 k l1 t346 t348 t349 t350 t354 bt358.1 true t343 t344 t345) else ((impl_IsWheel.f t343 t344 t345).bind fun t362 => (if (bt358.2 != t362) = true then (laws_FnWheelsAndScales.j0 k l1 t346 t348 t349 t350 t354 bt358.1 true t343 t344 t345) else ((impl_IsWheel.f t343 t344 t345).bind fun t363 => ((spec_IsWheel.f t343 t344 t345).bind fun t364 => (if (t363 != t364) = true then (laws_FnWheelsAndScales.j0 k l1 t346 t348 t349 t350 t354 bt358.1 true t343 t344 t345) else (if t350 = true then (laws_FnWheelsAndScales.j0 k l1 t346 t348 t349 t350 t354 bt358.1 (!bt358.2) t343 t344 t345) else (laws_FnWheelsAndScales.j0 k l1 t346 t348 t349 t350 t354 bt358.1 false t343 t344 t345)))))))) else (laws_FnWheelsAndScales.j0 k l1 t346 t348 t349 t350 t354 bt358.1 true t343 t344 t345))) else (laws_FnWheelsAndScales.j0 k l1 t346 t348 t349 t350 t354 bt358.1 true t343 t344 t345))) else (laws_FnWheelsAndScales.j0 k l1 t346 t348 t349 t350 t354 bt358.1 true t343 t344 t345)) else (laws_FnWheelsAndScales.j0 k l1 t346 t348 t349 t350 t354 bt358.1 true t343 t344 t345)))))) = some r := H
 have A8 := Aside0.mk A80
 clear A80
 replace H := Option.bind_eq_some_iff.mp H
 obtain ⟨⟨t356, t357⟩, A90, H⟩ := H
 replace H : ((impl_TurnTime.f t343 t344 t345).bind fun bt358 => ((spec_TurnTime.f t343 t344 t345).bind fun bt360 => (if (t350 != t353) = true then (laws_FnWheelsAndScales.j0 k l1 t346 t348 t349 t350 t354 bt358.1 true t343 t344 t345) else (if t348 = t351 then (if t349 = t352 then (if (t355 != t357) = true then (laws_FnWheelsAndScales.j0 k l1 t346 t348 t349 t350 t354 bt358.1 true t343 t344 t345) else (if t354 = t356 then (if (bt358.2 != bt360.2) = true then (laws_FnWheelsAndScales.j0 k l1 t346 t348 t349 t350 t354 bt358.1 true t343 t344 t345) else (if bt358.1 = bt360.1 then (if (t355 != t350) = true then (laws_FnWheelsAndScales.j0 k l1 t346 t348 t349 t350 t354 bt358.1 true t343 t344 t345) else ((impl_IsWheel.f t343 t344 t345).bind fun t362 => (if (bt358.2 != t362) = true then (laws_FnWheelsAndScales.j0 k l1 t346 t348 t349 t350 t354 bt358.1 true t343 t344 t345) else ((impl_IsWheel.f t343 t344 t345).bind fun t363 => ((spec_IsWheel.f t343 t344 t345).bind fun t364 => (if (t363 != t364) = true then (laws_FnWheelsAndScales.j0 k l1 t346 t348 t349 t350 t354 bt358.1 true t343 t344 t345) else (if t350 = true then (laws_FnWheelsAndScales.j0 k l1 t346 t348 t349 t350 t354 bt358.1 (!bt358.2) t343 t344 t345) else (laws_FnWheelsAndScales.j0 k l1 t346 t348 t349 t350 t354 bt358.1 false t343 t344 t345)))))))) else (laws_FnWheelsAndScales.j0 k l1 t346 t348 t349 t350 t354 bt358.1 true t343 t344 t345))) else (laws_FnWheelsAndScales.j0 k l1 t346 t348 t349 t350 t354 bt358.1 true t343 t344 t345))) else (laws_FnWheelsAndScales.j0 k l1 t346 t348 t349 t350 t354 bt358.1 true t343 t344 t345)) else (laws_FnWheelsAndScales.j0 k l1 t346 t348 t349 t350 t354 bt358.1 true t343 t344 t345))))) = some r := H
 have A9 := Aside0.mk A90
 clear A90
 replace H := Option.bind_eq_some_iff.mp H
 obtain ⟨⟨t358, t359⟩, A100, H⟩ := H
 replace H : ((spec_TurnTime.f t343 t344 t345).bind fun bt360 => (if (t350 != t353) = true then (laws_FnWheelsAndScales.j0 k l1 t346 t348 t349 t350 t354 t358 true t343 t344 t345) else (if t348 = t351 then (if t349 = t352 then (if (t355 != t357) = true then (laws_FnWheelsAndScales.j0 k l1 t346 t348 t349 t350 t354 t358 true t343 t344 t345) else (if t354 = t356 then (if (t359 != bt360.2) = true then (laws_FnWheelsAndScales.j0 k l1 t346 t348 t349 t350 t354 t358 true t343 t344 t345) else (if t358 = bt360.1 then (if (t355 != t350) = true then (laws_FnWheelsAndScales.j0 k l1 t346 t348 t349 t350 t354 t358 true t343 t344 t345) else ((impl_IsWheel.f t343 t344 t345).bind fun t362 => (if (t359 != t362) = true then (laws_FnWheelsAndScales.j0 k l1 t346 t348 t349 t350 t354 t358 true t343 t344 t345) else ((impl_IsWheel.f t343 t344 t345).bind fun t363 => ((spec_IsWheel.f t343 t344 t345).bind fun t364 => (if (t363 != t364) = true then (laws_FnWheelsAndScales.j0 k l1 t346 t348 t349 t350 t354 t358 true t343 t344 t345) else (if t350 = true then (laws_FnWheelsAndScales.j0 k l1 t346 t348 t349 t350 t354 t358 (!t359) t343 t344 t345) else (laws_FnWheelsAndScales.j0 k l1 t346 t348 t349 t350 t354 t358 false t343 t344 t345)))))))) else (laws_FnWheelsAndScales.j0 k l1 t346 t348 t349 t350 t354 t358 true t343 t344 t345))) else (laws_FnWheelsAndScales.j0 k l1 t346 t348 t349 t350 t354 t358 true t343 t344 t345))) else (laws_FnWheelsAndScales.j0 k l1 t346 t348 t349 t350 t354 t358 true t343 t344 t345)) else (laws_FnWheelsAndScales.j0 k l1 t346 t348 t349 t350 t354 t358 true t343 t344 t345)))) = some r := H
 have A10 := Aside0.mk A100
 clear A100
 replace H := Option.bind_eq_some_iff.mp H
 obtain ⟨⟨t360, t361⟩, A110, H⟩ := H
 replace H : (if (t350 != t353) = true then (laws_FnWheelsAndScales.j0 k l1 t346 t348 t349 t350 t354 t358 true t343 t344 t345) else (if t348 = t351 then (if t349 = t352 then (if (t355 != t357) = true then (laws_FnWheelsAndScales.j0 k l1 t346 t348 t349 t350 t354 t358 true t343 t344 t345) else (if t354 = t356 then (if (t359 != t361) = true then (laws_FnWheelsAndScales.j0 k l1 t346 t348 t349 t350 t354 t358 true t343 t344 t345) else (if t358 = t360 then (if (t355 != t350) = true then (laws_FnWheelsAndScales.j0 k l1 t346 t348 t349 t350 t354 t358 true t343 t344 t345) else ((impl_IsWheel.f t343 t344 t345).bind fun t362 => (if (t359 != t362) = true then (laws_FnWheelsAndScales.j0 k l1 t346 t348 t349 t350 t354 t358 true t343 t344 t345) else ((impl_IsWheel.f t343 t344 t345).bind fun t363 => ((spec_IsWheel.f t343 t344 t345).bind fun t364 => (if (t363 != t364) = true then (laws_FnWheelsAndScales.j0 k l1 t346 t348 t349 t350 t354 t358 true t343 t344 t345) else (if t350 = true then (laws_FnWheelsAndScales.j0 k l1 t346 t348 t349 t350 t354 t358 (!t359) t343 t344 t345) else (laws_FnWheelsAndScales.j0 k l1 t346 t348 t349 t350 t354 t358 false t343 t344 t345)))))))) else (laws_FnWheelsAndScales.j0 k l1 t346 t348 t349 t350 t354 t358 true t343 t344 t345))) else (laws_FnWheelsAndScales.j0 k l1 t346 t348 t349 t350 t354 t358 true t343 t344 t345))) else (laws_FnWheelsAndScales.j0 k l1 t346 t348 t349 t350 t354 t358 true t343 t344 t345)) else (laws_FnWheelsAndScales.j0 k l1 t346 t348 t349 t350 t354 t358 true t343 t344 t345))) = some r := H
 have A11 := Aside0.mk A110
 clear A110
 have HC12 := Aside0.mk H
 clear H
 go_enter Try.func3, Try.ntmps3
 go_upto_region 10 with (first | ((with_reducible refine gate_callee (f := 10) rfl ?_); refine gl 61 Try.func10 #[.slice A0 l0.length c0, .slice A1 l1.length c1] ?_; (with_reducible refine (laws_big.calls _ _ l0 _ _ l1 false _ ?side1 ?side2 ?side3 ?side4 A3.out).mono ?_); (case side1 => repeat (first | exact HR0.out | (with_reducible refine Kd.C_alloc ?_ _) | (with_reducible refine Kd.C_drewN ?_ _) | (with_reducible refine Kd.C_drew ?_))); (case side2 => exact HC0.out); (case side3 => repeat (first | exact HR1.out | (with_reducible refine Kd.C_alloc ?_ _) | (with_reducible refine Kd.C_drewN ?_ _) | (with_reducible refine Kd.C_drew ?_))); (case side4 => exact HC1.out); rintro e w' ⟨rfl, ⟨nd, rfl⟩⟩; refine ⟨_, rfl, ?_⟩) | ((with_reducible refine gate_callee (f := 11) rfl ?_); refine gl 64 Try.func11 #[.slice A0 l0.length c0] ?_; (with_reducible refine (spec_DrawWheelAfter.calls _ _ l0 t343 t344 t345 t346 _ ?side1 ?side2 A5.out).mono ?_); (case side1 => repeat (first | exact HR0.out | (with_reducible refine Kd.C_alloc ?_ _) | (with_reducible refine Kd.C_drewN ?_ _) | (with_reducible refine Kd.C_drew ?_))); (case side2 => exact HC0.out); rintro e w13 ⟨rfl, hb⟩; refine ⟨_, rfl, ?_⟩; replace HB := bs HB hb; (try clear hb)) | ((with_reducible refine gate_dst (N := 5) rfl ?_); refine bx 5 #[.int .i64 0, .int .i64 0, .int .i64 0] 25 ?_; intro gb347 hg w14 hbox hb; have BK347 := Aside0.mk (hbox); have GW347 := ge HB hg; have GE347 := ge HB hg; replace HB := bs HB hb; clear hb hbox hg; have hcz15_0 := bc0 BK347; have hcz15_1 := bc1 BK347; have hcz15_2 := bc2 BK347; have hfz15_0 := blk_frozen BK347.out 0; have hfz15_1 := blk_frozen BK347.out 1; have hfz15_2 := blk_frozen BK347.out 2) | ((with_reducible refine gate_callee (f := 12) rfl ?_); refine gl 70 Try.func12 #[.agg #[.int .i64 t343, .int .i64 t344, .int .i64 t345], .int .i64 t346] ?_; (with_reducible refine (impl_WheelAfter.calls t343 t344 t345 t346 t348 t349 t350 _ A6.out).mono ?_); rintro e w16 ⟨rfl, hb⟩; refine ⟨_, rfl, ?_⟩; replace BK347 := Aside0.mk (blk_below (g := gb347) (o := .cells #[.int .i64 t343, .int .i64 t344, .int .i64 t345] 25 (0, 0)) (by (with_reducible repeat (first | refine blk_drewN ?_ _ | refine blk_drew ?_ | refine blk_alloc ?_ _)); refine blk_put (cs := #[.int .i64 t343, .int .i64 t344, .int .i64 0]) ?_ 2 _ rfl; (with_reducible repeat (first | refine blk_drewN ?_ _ | refine blk_drew ?_ | refine blk_alloc ?_ _)); refine blk_put (cs := #[.int .i64 t343, .int .i64 0, .int .i64 0]) ?_ 1 _ rfl; (with_reducible repeat (first | refine blk_drewN ?_ _ | refine blk_drew ?_ | refine blk_alloc ?_ _)); refine blk_put (cs := #[.int .i64 0, .int .i64 0, .int .i64 0]) ?_ 0 _ rfl; exact bk BK347) hb); replace HB := bs HB hb; (try clear hb); have hcz17_0 := bc0 BK347; have hcz17_1 := bc1 BK347; have hcz17_2 := bc2 BK347; have hfz17_0 := blk_frozen BK347.out 0; have hfz17_1 := blk_frozen BK347.out 1; have hfz17_2 := blk_frozen BK347.out 2) | ((with_reducible refine gate_callee (f := 13) rfl ?_); refine gl 77 Try.func13 #[.agg #[.int .i64 t343, .int .i64 t344, .int .i64 t345], .int .i64 t346] ?_; (with_reducible refine (spec_WheelAfter.calls k t343 t344 t345 t346 t351 t352 t353 _ A7.out).mono ?_); rintro e w18 ⟨rfl, hb⟩; refine ⟨_, rfl, ?_⟩; replace BK347 := bb BK347 hb; replace HB := bs HB hb; (try clear hb); have hcz19_0 := bc0 BK347; have hcz19_1 := bc1 BK347; have hcz19_2 := bc2 BK347; have hfz19_0 := blk_frozen BK347.out 0; have hfz19_1 := blk_frozen BK347.out 1; have hfz19_2 := blk_frozen BK347.out 2) | ((with_reducible refine gate_callee (f := 14) rfl ?_); refine gl 84 Try.func14 #[.agg #[.int .i64 t343, .int .i64 t344, .int .i64 t345], .int .i64 t346] ?_; (with_reducible refine (impl_SpiltByWheel.calls t343 t344 t345 t346 t354 t355 _ A8.out).mono ?_); rintro e w20 ⟨rfl, hb⟩; refine ⟨_, rfl, ?_⟩; replace BK347 := bb BK347 hb; replace HB := bs HB hb; (try clear hb); have hcz21_0 := bc0 BK347; have hcz21_1 := bc1 BK347; have hcz21_2 := bc2 BK347; have hfz21_0 := blk_frozen BK347.out 0; have hfz21_1 := blk_frozen BK347.out 1; have hfz21_2 := blk_frozen BK347.out 2) | ((with_reducible refine gate_callee (f := 15) rfl ?_); refine gl 90 Try.func15 #[.agg #[.int .i64 t343, .int .i64 t344, .int .i64 t345], .int .i64 t346] ?_; (with_reducible refine (spec_SpiltByWheel.calls k t343 t344 t345 t346 t356 t357 _ A9.out).mono ?_); rintro e w22 ⟨rfl, hb⟩; refine ⟨_, rfl, ?_⟩; replace BK347 := bb BK347 hb; replace HB := bs HB hb; (try clear hb); have hcz23_0 := bc0 BK347; have hcz23_1 := bc1 BK347; have hcz23_2 := bc2 BK347; have hfz23_0 := blk_frozen BK347.out 0; have hfz23_1 := blk_frozen BK347.out 1; have hfz23_2 := blk_frozen BK347.out 2) | ((with_reducible refine gate_callee (f := 16) rfl ?_); refine gl 95 Try.func16 #[.agg #[.int .i64 t343, .int .i64 t344, .int .i64 t345]] ?_; (with_reducible refine (impl_TurnTime.calls t343 t344 t345 t358 t359 _ A10.out).mono ?_); rintro e w24 ⟨rfl, hb⟩; refine ⟨_, rfl, ?_⟩; replace BK347 := bb BK347 hb; replace HB := bs HB hb; (try clear hb); have hcz25_0 := bc0 BK347; have hcz25_1 := bc1 BK347; have hcz25_2 := bc2 BK347; have hfz25_0 := blk_frozen BK347.out 0; have hfz25_1 := blk_frozen BK347.out 1; have hfz25_2 := blk_frozen BK347.out 2) | ((with_reducible refine gate_callee (f := 17) rfl ?_); refine gl 100 Try.func17 #[.agg #[.int .i64 t343, .int .i64 t344, .int .i64 t345]] ?_; (with_reducible refine (spec_TurnTime.calls t343 t344 t345 t360 t361 _ A11.out).mono ?_); rintro e w26 ⟨rfl, hb⟩; refine ⟨_, rfl, ?_⟩; replace BK347 := bb BK347 hb; replace HB := bs HB hb; (try clear hb)))
 (try simp only [Act.put, List.setIfInBounds_toArray, List.set_cons_zero, List.set_cons_succ])
 refine cutF (rl [59, 185, 3, 223] false) (fun u_ wc => ∃ (kq : Nat) (x160_11 : Bool), (u_ 160) = .bool x160_11 ∧ Aside0 (laws_FnWheelsAndScales.j0 kq l1 t346 t348 t349 t350 t354 t358 x160_11 t343 t344 t345 = some r) ∧ Aside0 (kq ≤ k) ∧ Aside0 (wc.heap[gb347]? = some (.cells #[.int .i64 t343, .int .i64 t344, .int .i64 t345] 25 (0, 0))) ∧ Aside0 (Below w.heap.size w wc)) ?first1 ?rest1
 case first1 =>
  as_aux_lemma =>
   intro J_ K_ hJ_ hK_
   have H := HC12.out
   clear HC12
   by_cases c27 : (t350 != t353) = true
   ·rw [if_pos c27] at H
    have c27b0 : (t350 != t353) = true := c27
    (try (have c27b1 : decide (t350 = t353) = false := by simpa using c27))
    (try (have c27b2 : (t350 == t353) = false := by simpa using c27))
    (try (have c27b3 : ¬ (t350 = t353) := by simpa using c27))
    clear c27
    (first | rw [c27b0] | (simp only [i64_w, i32_w]; rw [c27b0]) | skip)
    exact absurd H (by rw [hrt.out]; cases k <;> simp [laws_FnWheelsAndScales.j0])
   rw [if_neg c27] at H
   have c27b0 : (t350 != t353) = false := by simpa using c27
   (try (have c27b1 : decide (t350 = t353) = true := by simpa using c27))
   (try (have c27b2 : (t350 == t353) = true := by simpa using c27))
   clear c27
   (first | rw [c27b0] | (simp only [i64_w, i32_w]; rw [c27b0]) | skip)
   by_cases c28 : t348 = t351
   rotate_left
   ·rw [if_neg c28] at H
    have c28b0 : (t348 == t351) = false := beq_eq_false_iff_ne.mpr c28
    have c28b1 : (t348 != t351) = true := bne_iff_ne.mpr c28
    exact absurd H (by rw [hrt.out]; cases k <;> simp [laws_FnWheelsAndScales.j0])
   rw [if_pos c28] at H
   have c28b0 : (t348 == t351) = true := beq_iff_eq.mpr c28
   have c28b1 : (t348 != t351) = false := bne_eq_false_iff_eq.mpr c28
   clear c28
   by_cases c29 : t349 = t352
   rotate_left
   ·rw [if_neg c29] at H
    have c29b0 : (t349 == t352) = false := beq_eq_false_iff_ne.mpr c29
    have c29b1 : (t349 != t352) = true := bne_iff_ne.mpr c29
    exact absurd H (by rw [hrt.out]; cases k <;> simp [laws_FnWheelsAndScales.j0])
   rw [if_pos c29] at H
   have c29b0 : (t349 == t352) = true := beq_iff_eq.mpr c29
   have c29b1 : (t349 != t352) = false := bne_eq_false_iff_eq.mpr c29
   clear c29
   by_cases c30 : (t355 != t357) = true
   ·rw [if_pos c30] at H
    have c30b0 : (t355 != t357) = true := c30
    (try (have c30b1 : decide (t355 = t357) = false := by simpa using c30))
    (try (have c30b2 : (t355 == t357) = false := by simpa using c30))
    (try (have c30b3 : ¬ (t355 = t357) := by simpa using c30))
    clear c30
    exact absurd H (by rw [hrt.out]; cases k <;> simp [laws_FnWheelsAndScales.j0])
   rw [if_neg c30] at H
   have c30b0 : (t355 != t357) = false := by simpa using c30
   (try (have c30b1 : decide (t355 = t357) = true := by simpa using c30))
   (try (have c30b2 : (t355 == t357) = true := by simpa using c30))
   clear c30
   by_cases c31 : t354 = t356
   rotate_left
   ·rw [if_neg c31] at H
    have c31b0 : (t354 == t356) = false := beq_eq_false_iff_ne.mpr c31
    have c31b1 : (t354 != t356) = true := bne_iff_ne.mpr c31
    exact absurd H (by rw [hrt.out]; cases k <;> simp [laws_FnWheelsAndScales.j0])
   rw [if_pos c31] at H
   have c31b0 : (t354 == t356) = true := beq_iff_eq.mpr c31
   have c31b1 : (t354 != t356) = false := bne_eq_false_iff_eq.mpr c31
   clear c31
   by_cases c32 : (t359 != t361) = true
   ·rw [if_pos c32] at H
    have c32b0 : (t359 != t361) = true := c32
    (try (have c32b1 : decide (t359 = t361) = false := by simpa using c32))
    (try (have c32b2 : (t359 == t361) = false := by simpa using c32))
    (try (have c32b3 : ¬ (t359 = t361) := by simpa using c32))
    clear c32
    exact absurd H (by rw [hrt.out]; cases k <;> simp [laws_FnWheelsAndScales.j0])
   rw [if_neg c32] at H
   have c32b0 : (t359 != t361) = false := by simpa using c32
   (try (have c32b1 : decide (t359 = t361) = true := by simpa using c32))
   (try (have c32b2 : (t359 == t361) = true := by simpa using c32))
   clear c32
   by_cases c33 : t358 = t360
   rotate_left
   ·rw [if_neg c33] at H
    have c33b0 : (t358 == t360) = false := beq_eq_false_iff_ne.mpr c33
    have c33b1 : (t358 != t360) = true := bne_iff_ne.mpr c33
    exact absurd H (by rw [hrt.out]; cases k <;> simp [laws_FnWheelsAndScales.j0])
   rw [if_pos c33] at H
   have c33b0 : (t358 == t360) = true := beq_iff_eq.mpr c33
   have c33b1 : (t358 != t360) = false := bne_eq_false_iff_eq.mpr c33
   clear c33
   by_cases c34 : (t355 != t350) = true
   ·rw [if_pos c34] at H
    have c34b0 : (t355 != t350) = true := c34
    (try (have c34b1 : decide (t355 = t350) = false := by simpa using c34))
    (try (have c34b2 : (t355 == t350) = false := by simpa using c34))
    (try (have c34b3 : ¬ (t355 = t350) := by simpa using c34))
    clear c34
    exact absurd H (by rw [hrt.out]; cases k <;> simp [laws_FnWheelsAndScales.j0])
   rw [if_neg c34] at H
   have c34b0 : (t355 != t350) = false := by simpa using c34
   (try (have c34b1 : decide (t355 = t350) = true := by simpa using c34))
   (try (have c34b2 : (t355 == t350) = true := by simpa using c34))
   clear c34
   replace H := Option.bind_eq_some_iff.mp H
   obtain ⟨t362, A350, H⟩ := H
   replace H : (if (t359 != t362) = true then (laws_FnWheelsAndScales.j0 k l1 t346 t348 t349 t350 t354 t358 true t343 t344 t345) else ((impl_IsWheel.f t343 t344 t345).bind fun t363 => ((spec_IsWheel.f t343 t344 t345).bind fun t364 => (if (t363 != t364) = true then (laws_FnWheelsAndScales.j0 k l1 t346 t348 t349 t350 t354 t358 true t343 t344 t345) else (if t350 = true then (laws_FnWheelsAndScales.j0 k l1 t346 t348 t349 t350 t354 t358 (!t359) t343 t344 t345) else (laws_FnWheelsAndScales.j0 k l1 t346 t348 t349 t350 t354 t358 false t343 t344 t345)))))) = some r := H
   have A35 := Aside0.mk A350
   clear A350
   by_cases c36 : (t359 != t362) = true
   ·rw [if_pos c36] at H
    have c36b0 : (t359 != t362) = true := c36
    (try (have c36b1 : decide (t359 = t362) = false := by simpa using c36))
    (try (have c36b2 : (t359 == t362) = false := by simpa using c36))
    (try (have c36b3 : ¬ (t359 = t362) := by simpa using c36))
    clear c36
    exact absurd H (by rw [hrt.out]; cases k <;> simp [laws_FnWheelsAndScales.j0])
   rw [if_neg c36] at H
   have c36b0 : (t359 != t362) = false := by simpa using c36
   (try (have c36b1 : decide (t359 = t362) = true := by simpa using c36))
   (try (have c36b2 : (t359 == t362) = true := by simpa using c36))
   clear c36
   replace H := Option.bind_eq_some_iff.mp H
   obtain ⟨t363, A370, H⟩ := H
   obtain rfl : t362 = t363 := Option.some.inj (A35.out.symm.trans A370)
   replace H : ((spec_IsWheel.f t343 t344 t345).bind fun t364 => (if (t362 != t364) = true then (laws_FnWheelsAndScales.j0 k l1 t346 t348 t349 t350 t354 t358 true t343 t344 t345) else (if t350 = true then (laws_FnWheelsAndScales.j0 k l1 t346 t348 t349 t350 t354 t358 (!t359) t343 t344 t345) else (laws_FnWheelsAndScales.j0 k l1 t346 t348 t349 t350 t354 t358 false t343 t344 t345)))) = some r := H
   have A37 := Aside0.mk A370
   clear A370
   replace H := Option.bind_eq_some_iff.mp H
   obtain ⟨t364, A380, H⟩ := H
   replace H : (if (t362 != t364) = true then (laws_FnWheelsAndScales.j0 k l1 t346 t348 t349 t350 t354 t358 true t343 t344 t345) else (if t350 = true then (laws_FnWheelsAndScales.j0 k l1 t346 t348 t349 t350 t354 t358 (!t359) t343 t344 t345) else (laws_FnWheelsAndScales.j0 k l1 t346 t348 t349 t350 t354 t358 false t343 t344 t345))) = some r := H
   have A38 := Aside0.mk A380
   clear A380
   by_cases c39 : (t362 != t364) = true
   ·rw [if_pos c39] at H
    have c39b0 : (t362 != t364) = true := c39
    (try (have c39b1 : decide (t362 = t364) = false := by simpa using c39))
    (try (have c39b2 : (t362 == t364) = false := by simpa using c39))
    (try (have c39b3 : ¬ (t362 = t364) := by simpa using c39))
    clear c39
    exact absurd H (by rw [hrt.out]; cases k <;> simp [laws_FnWheelsAndScales.j0])
   rw [if_neg c39] at H
   have c39b0 : (t362 != t364) = false := by simpa using c39
   (try (have c39b1 : decide (t362 = t364) = true := by simpa using c39))
   (try (have c39b2 : (t362 == t364) = true := by simpa using c39))
   clear c39
   by_cases c40 : t350 = true
   rotate_left
   ·replace c40 := Bool.eq_false_iff.mpr c40
    subst c40
    have H1 : (laws_FnWheelsAndScales.j0 k l1 t346 t348 t349 false t354 t358 false t343 t344 t345) = some r := by rw [if_neg (show ¬ (false = true) by decide)] at H; exact H
    clear H
    have H := H1
    clear H1
    have H' := Aside0.mk H
    clear H
    try go_wp2
    replace BK347 := Aside0.mk (blk_drew BK347.out)
    replace HB := Aside0.mk (below_drew1 HB.out)
    refine start_ (n := 58) (S := fun w' => w'.cell? ⟨gb347, 0, none⟩ = some (.int .i64 t343) ∧ w'.cell? ⟨gb347, 1, none⟩ = some (.int .i64 t344) ∧ w'.cell? ⟨gb347, 2, none⟩ = some (.int .i64 t345)) (ds := []) (bl 58 0) (by kernel_rfl) rfl rfl ⟨bc0 BK347, bc1 BK347, bc2 BK347⟩ (fun hHeld => ?_); refine with_tabW laws_FnWheelsAndScales.tab10 laws_FnWheelsAndScales.bits10 (fun HT_ HW_ => ?_)
    generalize w26.drew = w45 at BK347 HB hHeld ⊢
    refine pu 0 103 (bl 58 1) HT_.out (v := ?_) (a' := ?_) ?_ ?_ ?_
    rotate_left
    ·intro w'
     go_simp
     with_reducible rfl
    rotate_left
    ·simp only [Act.put, List.setIfInBounds_toArray, List.set_cons_zero, List.set_cons_succ, i64_w, i32_w]
     rfl
    refine pu 1 104 (bl 58 3) HT_.out (v := ?_) (a' := ?_) ?_ ?_ ?_
    rotate_left
    ·intro w'
     go_simp
     with_reducible rfl
    rotate_left
    ·simp only [Act.put, List.setIfInBounds_toArray, List.set_cons_zero, List.set_cons_succ, i64_w, i32_w]
     rfl
    refine pu 2 105 (bl 58 7) HT_.out (v := ?_) (a' := ?_) ?_ ?_ ?_
    rotate_left
    ·intro w'
     go_simp
     with_reducible rfl
    rotate_left
    ·simp only [Act.put, List.setIfInBounds_toArray, List.set_cons_zero, List.set_cons_succ, i64_w, i32_w]
     rfl
    refine pu 3 106 (bl 58 15) HT_.out (v := ?_) (a' := ?_) ?_ ?_ ?_
    rotate_left
    ·intro w'
     go_simp
     with_reducible rfl
    rotate_left
    ·simp only [Act.put, List.setIfInBounds_toArray, List.set_cons_zero, List.set_cons_succ, i64_w, i32_w]
     rfl
    refine pu 4 107 (bl 58 31) HT_.out (v := ?_) (a' := ?_) ?_ ?_ ?_
    rotate_left
    ·intro w'
     go_simp
     with_reducible rfl
    rotate_left
    ·simp only [Act.put, List.setIfInBounds_toArray, List.set_cons_zero, List.set_cons_succ, i64_w, i32_w]
     rfl
    refine pu 5 108 (bl 58 63) HT_.out (v := ?_) (a' := ?_) ?_ ?_ ?_
    rotate_left
    ·intro w'
     go_simp
     with_reducible rfl
    rotate_left
    ·simp only [Act.put, List.setIfInBounds_toArray, List.set_cons_zero, List.set_cons_succ, i64_w, i32_w]
     rfl
    refine pu 6 109 (bl 58 127) HT_.out (v := ?_) (a' := ?_) ?_ ?_ ?_
    rotate_left
    ·intro w'
     go_simp
     with_reducible rfl
    rotate_left
    ·simp only [Act.put, List.setIfInBounds_toArray, List.set_cons_zero, List.set_cons_succ, i64_w, i32_w]
     rfl
    refine pu 7 110 (bl 58 255) HT_.out (v := ?_) (a' := ?_) ?_ ?_ ?_
    rotate_left
    ·intro w'
     go_simp
     with_reducible rfl
    rotate_left
    ·simp only [Act.put, List.setIfInBounds_toArray, List.set_cons_zero, List.set_cons_succ, i64_w, i32_w]
     rfl
    refine pu 8 111 (bl 58 511) HT_.out (v := ?_) (a' := ?_) ?_ ?_ ?_
    rotate_left
    ·intro w'
     go_simp
     with_reducible rfl
    rotate_left
    ·simp only [Act.put, List.setIfInBounds_toArray, List.set_cons_zero, List.set_cons_succ, i64_w, i32_w]
     rfl
    refine pu 9 112 (bl 58 1023) HT_.out (v := ?_) (a' := ?_) ?_ ?_ ?_
    rotate_left
    ·intro w'
     go_simp
     with_reducible rfl
    rotate_left
    ·simp only [Act.put, List.setIfInBounds_toArray, List.set_cons_zero, List.set_cons_succ, i64_w, i32_w]
     rfl
    refine pu 10 113 (bl 58 2047) HT_.out (v := ?_) (a' := ?_) ?_ ?_ ?_
    rotate_left
    ·intro w'
     go_simp
     with_reducible rfl
    rotate_left
    ·simp only [Act.put, List.setIfInBounds_toArray, List.set_cons_zero, List.set_cons_succ, i64_w, i32_w]
     rfl
    refine pu 11 114 (bl 58 4095) HT_.out (v := ?_) (a' := ?_) ?_ ?_ ?_
    rotate_left
    ·intro w'
     go_simp
     with_reducible rfl
    rotate_left
    ·simp only [Act.put, List.setIfInBounds_toArray, List.set_cons_zero, List.set_cons_succ, i64_w, i32_w]
     rfl
    refine pu 12 115 (bl 58 8191) HT_.out (v := ?_) (a' := ?_) ?_ ?_ ?_
    rotate_left
    ·intro w'
     go_simp
     with_reducible rfl
    rotate_left
    ·simp only [Act.put, List.setIfInBounds_toArray, List.set_cons_zero, List.set_cons_succ, i64_w, i32_w]
     rfl
    refine pu 13 116 (bl 58 16383) HT_.out (v := ?_) (a' := ?_) ?_ ?_ ?_
    rotate_left
    ·intro w'
     go_simp
     with_reducible rfl
    rotate_left
    ·simp only [Act.put, List.setIfInBounds_toArray, List.set_cons_zero, List.set_cons_succ, i64_w, i32_w]
     rfl
    refine pu 14 117 (bl 58 32767) HT_.out (v := ?_) (a' := ?_) ?_ ?_ ?_
    rotate_left
    ·intro w'
     go_simp
     with_reducible rfl
    rotate_left
    ·simp only [Act.put, List.setIfInBounds_toArray, List.set_cons_zero, List.set_cons_succ, i64_w, i32_w]
     rfl
    refine pu 15 118 (bl 58 65535) HT_.out (v := ?_) (a' := ?_) ?_ ?_ ?_
    rotate_left
    ·intro w'
     go_simp
     with_reducible rfl
    rotate_left
    ·simp only [Act.put, List.setIfInBounds_toArray, List.set_cons_zero, List.set_cons_succ, i64_w, i32_w]
     rfl
    refine pu 16 119 (bl 58 131071) HT_.out (v := ?_) (a' := ?_) ?_ ?_ ?_
    rotate_left
    ·intro w'
     go_simp
     with_reducible rfl
    rotate_left
    ·simp only [Act.put, List.setIfInBounds_toArray, List.set_cons_zero, List.set_cons_succ, i64_w, i32_w]
     rfl
    refine pu 17 120 (bl 58 262143) HT_.out (v := ?_) (a' := ?_) ?_ ?_ ?_
    rotate_left
    ·intro w'
     go_simp
     with_reducible rfl
    rotate_left
    ·simp only [Act.put, List.setIfInBounds_toArray, List.set_cons_zero, List.set_cons_succ, i64_w, i32_w]
     rfl
    refine pu 18 121 (bl 58 524287) HT_.out (v := ?_) (a' := ?_) ?_ ?_ ?_
    rotate_left
    ·intro w'
     go_simp
     with_reducible rfl
    rotate_left
    ·simp only [Act.put, List.setIfInBounds_toArray, List.set_cons_zero, List.set_cons_succ, i64_w, i32_w]
     rfl
    refine pu 19 122 (bl 58 1048575) HT_.out (v := ?_) (a' := ?_) ?_ ?_ ?_
    rotate_left
    ·intro w'
     go_simp
     with_reducible rfl
    rotate_left
    ·simp only [Act.put, List.setIfInBounds_toArray, List.set_cons_zero, List.set_cons_succ, i64_w, i32_w]
     rfl
    refine pu 20 123 (bl 58 2097151) HT_.out (v := ?_) (a' := ?_) ?_ ?_ ?_
    rotate_left
    ·intro w'
     go_simp
     with_reducible rfl
    rotate_left
    ·simp only [Act.put, List.setIfInBounds_toArray, List.set_cons_zero, List.set_cons_succ, i64_w, i32_w]
     rfl
    refine pu 21 124 (bl 58 4194303) HT_.out (v := ?_) (a' := ?_) ?_ ?_ ?_
    rotate_left
    ·intro w'
     go_simp
     with_reducible rfl
    rotate_left
    ·simp only [Act.put, List.setIfInBounds_toArray, List.set_cons_zero, List.set_cons_succ, i64_w, i32_w]
     rfl
    refine pu 22 125 (bl 58 8388607) HT_.out (v := ?_) (a' := ?_) ?_ ?_ ?_
    rotate_left
    ·intro w'
     go_simp
     with_reducible rfl
    rotate_left
    ·simp only [Act.put, List.setIfInBounds_toArray, List.set_cons_zero, List.set_cons_succ, i64_w, i32_w]
     rfl
    refine pu 23 126 (bl 58 16777215) HT_.out (v := ?_) (a' := ?_) ?_ ?_ ?_
    rotate_left
    ·intro w'
     go_simp
     with_reducible rfl
    rotate_left
    ·simp only [Act.put, List.setIfInBounds_toArray, List.set_cons_zero, List.set_cons_succ, i64_w, i32_w]
     rfl
    refine pu 24 127 (bl 58 33554431) HT_.out (v := ?_) (a' := ?_) ?_ ?_ ?_
    rotate_left
    ·intro w'
     go_simp
     with_reducible rfl
    rotate_left
    ·simp only [Act.put, List.setIfInBounds_toArray, List.set_cons_zero, List.set_cons_succ, i64_w, i32_w]
     rfl
    refine pu 25 128 (bl 58 67108863) HT_.out (v := ?_) (a' := ?_) ?_ ?_ ?_
    rotate_left
    ·intro w'
     go_simp
     with_reducible rfl
    rotate_left
    ·simp only [Act.put, List.setIfInBounds_toArray, List.set_cons_zero, List.set_cons_succ, i64_w, i32_w]
     rfl
    refine pu 26 129 (bl 58 134217727) HT_.out (v := ?_) (a' := ?_) ?_ ?_ ?_
    rotate_left
    ·intro w'
     go_simp
     with_reducible rfl
    rotate_left
    ·simp only [Act.put, List.setIfInBounds_toArray, List.set_cons_zero, List.set_cons_succ, i64_w, i32_w]
     rfl
    refine pu 27 130 (bl 58 268435455) HT_.out (v := ?_) (a' := ?_) ?_ ?_ ?_
    rotate_left
    ·intro w'
     go_simp
     with_reducible rfl
    rotate_left
    ·simp only [Act.put, List.setIfInBounds_toArray, List.set_cons_zero, List.set_cons_succ, i64_w, i32_w]
     rfl
    refine pu 28 131 (bl 58 536870911) HT_.out (v := ?_) (a' := ?_) ?_ ?_ ?_
    rotate_left
    ·intro w'
     go_simp
     with_reducible rfl
    rotate_left
    ·simp only [Act.put, List.setIfInBounds_toArray, List.set_cons_zero, List.set_cons_succ, i64_w, i32_w]
     rfl
    refine pu 29 132 (bl 58 1073741823) HT_.out (v := ?_) (a' := ?_) ?_ ?_ ?_
    rotate_left
    ·intro w'
     go_simp
     with_reducible rfl
    rotate_left
    ·simp only [Act.put, List.setIfInBounds_toArray, List.set_cons_zero, List.set_cons_succ, i64_w, i32_w]
     rfl
    refine pu 30 133 (bl 58 2147483647) HT_.out (v := ?_) (a' := ?_) ?_ ?_ ?_
    rotate_left
    ·intro w'
     go_simp
     with_reducible rfl
    rotate_left
    ·simp only [Act.put, List.setIfInBounds_toArray, List.set_cons_zero, List.set_cons_succ, i64_w, i32_w]
     rfl
    refine pu 31 134 (bl 58 4294967295) HT_.out (v := ?_) (a' := ?_) ?_ ?_ ?_
    rotate_left
    ·intro w'
     go_simp
     with_reducible rfl
    rotate_left
    ·simp only [Act.put, List.setIfInBounds_toArray, List.set_cons_zero, List.set_cons_succ, i64_w, i32_w]
     rfl
    refine pu 32 135 (bl 58 8589934591) HT_.out (v := ?_) (a' := ?_) ?_ ?_ ?_
    rotate_left
    ·intro w'
     go_simp
     with_reducible rfl
    rotate_left
    ·simp only [Act.put, List.setIfInBounds_toArray, List.set_cons_zero, List.set_cons_succ, i64_w, i32_w]
     rfl
    refine pu 33 136 (bl 58 17179869183) HT_.out (v := ?_) (a' := ?_) ?_ ?_ ?_
    rotate_left
    ·intro w'
     go_simp
     with_reducible rfl
    rotate_left
    ·simp only [Act.put, List.setIfInBounds_toArray, List.set_cons_zero, List.set_cons_succ, i64_w, i32_w]
     rfl
    refine pu 34 137 (bl 58 34359738367) HT_.out (v := ?_) (a' := ?_) ?_ ?_ ?_
    rotate_left
    ·intro w'
     go_simp
     with_reducible rfl
    rotate_left
    ·simp only [Act.put, List.setIfInBounds_toArray, List.set_cons_zero, List.set_cons_succ, i64_w, i32_w]
     rfl
    refine pu 35 138 (bl 58 68719476735) HT_.out (v := ?_) (a' := ?_) ?_ ?_ ?_
    rotate_left
    ·intro w'
     go_simp
     with_reducible rfl
    rotate_left
    ·simp only [Act.put, List.setIfInBounds_toArray, List.set_cons_zero, List.set_cons_succ, i64_w, i32_w]
     rfl
    refine pu 36 139 (bl 58 137438953471) HT_.out (v := ?_) (a' := ?_) ?_ ?_ ?_
    rotate_left
    ·intro w'
     go_simp
     with_reducible rfl
    rotate_left
    ·simp only [Act.put, List.setIfInBounds_toArray, List.set_cons_zero, List.set_cons_succ, i64_w, i32_w]
     rfl
    refine pu 37 140 (bl 58 274877906943) HT_.out (v := ?_) (a' := ?_) ?_ ?_ ?_
    rotate_left
    ·intro w'
     go_simp
     with_reducible rfl
    rotate_left
    ·simp only [Act.put, List.setIfInBounds_toArray, List.set_cons_zero, List.set_cons_succ, i64_w, i32_w]
     rfl
    refine pu 38 141 (bl 58 549755813887) HT_.out (v := ?_) (a' := ?_) ?_ ?_ ?_
    rotate_left
    ·intro w'
     go_simp
     with_reducible rfl
    rotate_left
    ·simp only [Act.put, List.setIfInBounds_toArray, List.set_cons_zero, List.set_cons_succ, i64_w, i32_w]
     rfl
    refine pu 39 142 (bl 58 1099511627775) HT_.out (v := ?_) (a' := ?_) ?_ ?_ ?_
    rotate_left
    ·intro w'
     go_simp
     with_reducible rfl
    rotate_left
    ·simp only [Act.put, List.setIfInBounds_toArray, List.set_cons_zero, List.set_cons_succ, i64_w, i32_w]
     rfl
    refine tk 40 143 (bl 58 2199023255551) HT_.out HW_.out hHeld (v := ?_) (a' := ?_) ?_ ?_ ?_
    rotate_left
    ·rintro w' ⟨s0, s1, s2⟩
     go_simp
     with_reducible rfl
    rotate_left
    ·simp only [Act.put, List.setIfInBounds_toArray, List.set_cons_zero, List.set_cons_succ, i64_w, i32_w]
     rfl
    refine on 41 144 (bl 58 4398046511103) HT_.out (fun K hK => ?_)
    refine gs Try.func18 #[.agg #[.int .i64 t343, .int .i64 t344, .int .i64 t345]] ?_
    with_reducible refine (impl_IsWheel.calls t343 t344 t345 t362 _ A35.out).mono ?_
    rintro e w46 ⟨rfl, hb⟩
    refine ⟨_, rfl, ?_⟩
    replace BK347 := bb BK347 hb
    replace HB := bs HB hb
    (try clear hb)
    (try clear hb2)
    (try clear hk)
    (try clear hi)
    refine hK.out _ _ ⟨bc0 BK347, bc1 BK347, bc2 BK347⟩ (fun hHeld => ?_)
    clear hK K
    refine norm_ (a' := ?_) ?_ ?_
    rotate_left
    ·show Act.put _ (some 144) _ = _
     simp only [Act.put, List.setIfInBounds_toArray, List.set_cons_zero, List.set_cons_succ, i64_w, i32_w]
     rfl
    refine pu 42 145 (bl 58 8796093022207) HT_.out (v := ?_) (a' := ?_) ?_ ?_ ?_
    rotate_left
    ·intro w'
     go_simp
     with_reducible rfl
    rotate_left
    ·simp only [Act.put, List.setIfInBounds_toArray, List.set_cons_zero, List.set_cons_succ, i64_w, i32_w]
     rfl
    refine pu 43 146 (bl 58 17592186044415) HT_.out (v := ?_) (a' := ?_) ?_ ?_ ?_
    rotate_left
    ·intro w'
     go_simp
     with_reducible rfl
    rotate_left
    ·simp only [Act.put, List.setIfInBounds_toArray, List.set_cons_zero, List.set_cons_succ, i64_w, i32_w]
     rfl
    refine pu 44 147 (bl 58 35184372088831) HT_.out (v := ?_) (a' := ?_) ?_ ?_ ?_
    rotate_left
    ·intro w'
     go_simp
     with_reducible rfl
    rotate_left
    ·simp only [Act.put, List.setIfInBounds_toArray, List.set_cons_zero, List.set_cons_succ, i64_w, i32_w]
     rfl
    refine tk 45 148 (bl 58 70368744177663) HT_.out HW_.out hHeld (v := ?_) (a' := ?_) ?_ ?_ ?_
    rotate_left
    ·rintro w' ⟨s0, s1, s2⟩
     go_simp
     with_reducible rfl
    rotate_left
    ·simp only [Act.put, List.setIfInBounds_toArray, List.set_cons_zero, List.set_cons_succ, i64_w, i32_w]
     rfl
    refine tk 47 150 (bl 58 211106232532991) HT_.out HW_.out hHeld (v := ?_) (a' := ?_) ?_ ?_ ?_
    rotate_left
    ·rintro w' ⟨s0, s1, s2⟩
     go_simp
     with_reducible rfl
    rotate_left
    ·simp only [Act.put, List.setIfInBounds_toArray, List.set_cons_zero, List.set_cons_succ, i64_w, i32_w]
     rfl
    refine on 46 149 (bl 58 281474976710655) HT_.out (fun K hK => ?_)
    refine gs Try.func18 #[.agg #[.int .i64 t343, .int .i64 t344, .int .i64 t345]] ?_
    with_reducible refine (impl_IsWheel.calls t343 t344 t345 t362 _ A37.out).mono ?_
    rintro e w47 ⟨rfl, hb⟩
    refine ⟨_, rfl, ?_⟩
    replace BK347 := bb BK347 hb
    replace HB := bs HB hb
    (try clear hb)
    (try clear hb2)
    (try clear hk)
    (try clear hi)
    refine hK.out _ _ ⟨bc0 BK347, bc1 BK347, bc2 BK347⟩ (fun hHeld => ?_)
    clear hK K
    refine norm_ (a' := ?_) ?_ ?_
    rotate_left
    ·show Act.put _ (some 149) _ = _
     simp only [Act.put, List.setIfInBounds_toArray, List.set_cons_zero, List.set_cons_succ, i64_w, i32_w]
     rfl
    refine on 48 151 (bl 58 562949953421311) HT_.out (fun K hK => ?_)
    refine gs Try.func19 #[.agg #[.int .i64 t343, .int .i64 t344, .int .i64 t345]] ?_
    with_reducible refine (spec_IsWheel.calls t343 t344 t345 t364 _ A38.out).mono ?_
    rintro e w48 ⟨rfl, hb⟩
    refine ⟨_, rfl, ?_⟩
    replace BK347 := bb BK347 hb
    replace HB := bs HB hb
    (try clear hb)
    (try clear hb2)
    (try clear hk)
    (try clear hi)
    refine hK.out _ _ ⟨bc0 BK347, bc1 BK347, bc2 BK347⟩ (fun hHeld => ?_)
    clear hK K
    refine norm_ (a' := ?_) ?_ ?_
    rotate_left
    ·show Act.put _ (some 151) _ = _
     simp only [Act.put, List.setIfInBounds_toArray, List.set_cons_zero, List.set_cons_succ, i64_w, i32_w]
     rfl
    refine pu 49 152 (bl 58 1125899906842623) HT_.out (v := ?_) (a' := ?_) ?_ ?_ ?_
    rotate_left
    ·intro w'
     go_simp
     with_reducible rfl
    rotate_left
    ·simp only [Act.put, List.setIfInBounds_toArray, List.set_cons_zero, List.set_cons_succ, i64_w, i32_w]
     rfl
    refine pu 50 153 (bl 58 2251799813685247) HT_.out (v := ?_) (a' := ?_) ?_ ?_ ?_
    rotate_left
    ·intro w'
     go_simp
     with_reducible rfl
    rotate_left
    ·simp only [Act.put, List.setIfInBounds_toArray, List.set_cons_zero, List.set_cons_succ, i64_w, i32_w]
     rfl
    refine pu 51 154 (bl 58 4503599627370495) HT_.out (v := ?_) (a' := ?_) ?_ ?_ ?_
    rotate_left
    ·intro w'
     go_simp
     with_reducible rfl
    rotate_left
    ·simp only [Act.put, List.setIfInBounds_toArray, List.set_cons_zero, List.set_cons_succ, i64_w, i32_w]
     rfl
    refine pu 52 155 (bl 58 9007199254740991) HT_.out (v := ?_) (a' := ?_) ?_ ?_ ?_
    rotate_left
    ·intro w'
     go_simp
     with_reducible rfl
    rotate_left
    ·simp only [Act.put, List.setIfInBounds_toArray, List.set_cons_zero, List.set_cons_succ, i64_w, i32_w]
     rfl
    refine pu 53 156 (bl 58 18014398509481983) HT_.out (v := ?_) (a' := ?_) ?_ ?_ ?_
    rotate_left
    ·intro w'
     go_simp
     with_reducible rfl
    rotate_left
    ·simp only [Act.put, List.setIfInBounds_toArray, List.set_cons_zero, List.set_cons_succ, i64_w, i32_w]
     rfl
    refine pure_ (i := 54) (N := some 157) (v := undef) (a' := ?_) (bl 58 36028797018963967) rfl rfl (any_of HT_.out (by kernel_rfl)) (fun _ _ _ h => h) (Or.inr ⟨by rfl, rfl⟩) ?_ ?_
    rotate_left
    ·simp only [Act.put, List.setIfInBounds_toArray, List.set_cons_zero, List.set_cons_succ, i64_w, i32_w]
     rfl
    refine pure_ (i := 55) (N := some 158) (v := undef) (a' := ?_) (bl 58 72057594037927935) rfl rfl (any_of HT_.out (by kernel_rfl)) (fun _ _ _ h => h) (Or.inr ⟨by rfl, rfl⟩) ?_ ?_
    rotate_left
    ·simp only [Act.put, List.setIfInBounds_toArray, List.set_cons_zero, List.set_cons_succ, i64_w, i32_w]
     rfl
    refine pu 56 159 (bl 58 144115188075855871) HT_.out (v := ?_) (a' := ?_) ?_ ?_ ?_
    rotate_left
    ·intro w'
     go_simp
     with_reducible rfl
    rotate_left
    ·simp only [Act.put, List.setIfInBounds_toArray, List.set_cons_zero, List.set_cons_succ, i64_w, i32_w]
     rfl
    refine pu 57 160 (bl 58 288230376151711743) HT_.out (v := ?_) (a' := ?_) ?_ ?_ ?_
    rotate_left
    ·intro w'
     go_simp
     with_reducible rfl
    rotate_left
    ·simp only [Act.put, List.setIfInBounds_toArray, List.set_cons_zero, List.set_cons_succ, i64_w, i32_w]
     rfl
    refine done_ (done_of HT_.out (by kernel_rfl)) ?_
    try go_wp2
    (refine Met.intro ?_; go_step; refine Cut_mk (by kernel_rfl) ?rel2)
    case rel2 => exact ⟨_, (false), (by first | rfl | (simp; done) | (simp [*]; done)), H', ⟨by first | omega | exact Nat.le_refl _⟩, ⟨bk BK347⟩, ⟨bw HB⟩⟩
   subst c40
   have H1 : (laws_FnWheelsAndScales.j0 k l1 t346 t348 t349 true t354 t358 (!t359) t343 t344 t345) = some r := by rw [if_pos rfl] at H; exact H
   clear H
   have H := H1
   clear H1
   have H' := Aside0.mk H
   clear H
   try go_wp2
   replace BK347 := Aside0.mk (blk_drew BK347.out)
   replace HB := Aside0.mk (below_drew1 HB.out)
   refine start_ (n := 58) (S := fun w' => w'.cell? ⟨gb347, 0, none⟩ = some (.int .i64 t343) ∧ w'.cell? ⟨gb347, 1, none⟩ = some (.int .i64 t344) ∧ w'.cell? ⟨gb347, 2, none⟩ = some (.int .i64 t345)) (ds := []) (bl 58 0) (by kernel_rfl) rfl rfl ⟨bc0 BK347, bc1 BK347, bc2 BK347⟩ (fun hHeld => ?_); refine with_tabW laws_FnWheelsAndScales.tab10 laws_FnWheelsAndScales.bits10 (fun HT_ HW_ => ?_)
   generalize w26.drew = w41 at BK347 HB hHeld ⊢
   refine pu 0 103 (bl 58 1) HT_.out (v := ?_) (a' := ?_) ?_ ?_ ?_
   rotate_left
   ·intro w'
    go_simp
    with_reducible rfl
   rotate_left
   ·simp only [Act.put, List.setIfInBounds_toArray, List.set_cons_zero, List.set_cons_succ, i64_w, i32_w]
    rfl
   refine pu 1 104 (bl 58 3) HT_.out (v := ?_) (a' := ?_) ?_ ?_ ?_
   rotate_left
   ·intro w'
    go_simp
    with_reducible rfl
   rotate_left
   ·simp only [Act.put, List.setIfInBounds_toArray, List.set_cons_zero, List.set_cons_succ, i64_w, i32_w]
    rfl
   refine pu 2 105 (bl 58 7) HT_.out (v := ?_) (a' := ?_) ?_ ?_ ?_
   rotate_left
   ·intro w'
    go_simp
    with_reducible rfl
   rotate_left
   ·simp only [Act.put, List.setIfInBounds_toArray, List.set_cons_zero, List.set_cons_succ, i64_w, i32_w]
    rfl
   refine pu 3 106 (bl 58 15) HT_.out (v := ?_) (a' := ?_) ?_ ?_ ?_
   rotate_left
   ·intro w'
    go_simp
    with_reducible rfl
   rotate_left
   ·simp only [Act.put, List.setIfInBounds_toArray, List.set_cons_zero, List.set_cons_succ, i64_w, i32_w]
    rfl
   refine pu 4 107 (bl 58 31) HT_.out (v := ?_) (a' := ?_) ?_ ?_ ?_
   rotate_left
   ·intro w'
    go_simp
    with_reducible rfl
   rotate_left
   ·simp only [Act.put, List.setIfInBounds_toArray, List.set_cons_zero, List.set_cons_succ, i64_w, i32_w]
    rfl
   refine pu 5 108 (bl 58 63) HT_.out (v := ?_) (a' := ?_) ?_ ?_ ?_
   rotate_left
   ·intro w'
    go_simp
    with_reducible rfl
   rotate_left
   ·simp only [Act.put, List.setIfInBounds_toArray, List.set_cons_zero, List.set_cons_succ, i64_w, i32_w]
    rfl
   refine pu 6 109 (bl 58 127) HT_.out (v := ?_) (a' := ?_) ?_ ?_ ?_
   rotate_left
   ·intro w'
    go_simp
    with_reducible rfl
   rotate_left
   ·simp only [Act.put, List.setIfInBounds_toArray, List.set_cons_zero, List.set_cons_succ, i64_w, i32_w]
    rfl
   refine pu 7 110 (bl 58 255) HT_.out (v := ?_) (a' := ?_) ?_ ?_ ?_
   rotate_left
   ·intro w'
    go_simp
    with_reducible rfl
   rotate_left
   ·simp only [Act.put, List.setIfInBounds_toArray, List.set_cons_zero, List.set_cons_succ, i64_w, i32_w]
    rfl
   refine pu 8 111 (bl 58 511) HT_.out (v := ?_) (a' := ?_) ?_ ?_ ?_
   rotate_left
   ·intro w'
    go_simp
    with_reducible rfl
   rotate_left
   ·simp only [Act.put, List.setIfInBounds_toArray, List.set_cons_zero, List.set_cons_succ, i64_w, i32_w]
    rfl
   refine pu 9 112 (bl 58 1023) HT_.out (v := ?_) (a' := ?_) ?_ ?_ ?_
   rotate_left
   ·intro w'
    go_simp
    with_reducible rfl
   rotate_left
   ·simp only [Act.put, List.setIfInBounds_toArray, List.set_cons_zero, List.set_cons_succ, i64_w, i32_w]
    rfl
   refine pu 10 113 (bl 58 2047) HT_.out (v := ?_) (a' := ?_) ?_ ?_ ?_
   rotate_left
   ·intro w'
    go_simp
    with_reducible rfl
   rotate_left
   ·simp only [Act.put, List.setIfInBounds_toArray, List.set_cons_zero, List.set_cons_succ, i64_w, i32_w]
    rfl
   refine pu 11 114 (bl 58 4095) HT_.out (v := ?_) (a' := ?_) ?_ ?_ ?_
   rotate_left
   ·intro w'
    go_simp
    with_reducible rfl
   rotate_left
   ·simp only [Act.put, List.setIfInBounds_toArray, List.set_cons_zero, List.set_cons_succ, i64_w, i32_w]
    rfl
   refine pu 12 115 (bl 58 8191) HT_.out (v := ?_) (a' := ?_) ?_ ?_ ?_
   rotate_left
   ·intro w'
    go_simp
    with_reducible rfl
   rotate_left
   ·simp only [Act.put, List.setIfInBounds_toArray, List.set_cons_zero, List.set_cons_succ, i64_w, i32_w]
    rfl
   refine pu 13 116 (bl 58 16383) HT_.out (v := ?_) (a' := ?_) ?_ ?_ ?_
   rotate_left
   ·intro w'
    go_simp
    with_reducible rfl
   rotate_left
   ·simp only [Act.put, List.setIfInBounds_toArray, List.set_cons_zero, List.set_cons_succ, i64_w, i32_w]
    rfl
   refine pu 14 117 (bl 58 32767) HT_.out (v := ?_) (a' := ?_) ?_ ?_ ?_
   rotate_left
   ·intro w'
    go_simp
    with_reducible rfl
   rotate_left
   ·simp only [Act.put, List.setIfInBounds_toArray, List.set_cons_zero, List.set_cons_succ, i64_w, i32_w]
    rfl
   refine pu 15 118 (bl 58 65535) HT_.out (v := ?_) (a' := ?_) ?_ ?_ ?_
   rotate_left
   ·intro w'
    go_simp
    with_reducible rfl
   rotate_left
   ·simp only [Act.put, List.setIfInBounds_toArray, List.set_cons_zero, List.set_cons_succ, i64_w, i32_w]
    rfl
   refine pu 16 119 (bl 58 131071) HT_.out (v := ?_) (a' := ?_) ?_ ?_ ?_
   rotate_left
   ·intro w'
    go_simp
    with_reducible rfl
   rotate_left
   ·simp only [Act.put, List.setIfInBounds_toArray, List.set_cons_zero, List.set_cons_succ, i64_w, i32_w]
    rfl
   refine pu 17 120 (bl 58 262143) HT_.out (v := ?_) (a' := ?_) ?_ ?_ ?_
   rotate_left
   ·intro w'
    go_simp
    with_reducible rfl
   rotate_left
   ·simp only [Act.put, List.setIfInBounds_toArray, List.set_cons_zero, List.set_cons_succ, i64_w, i32_w]
    rfl
   refine pu 18 121 (bl 58 524287) HT_.out (v := ?_) (a' := ?_) ?_ ?_ ?_
   rotate_left
   ·intro w'
    go_simp
    with_reducible rfl
   rotate_left
   ·simp only [Act.put, List.setIfInBounds_toArray, List.set_cons_zero, List.set_cons_succ, i64_w, i32_w]
    rfl
   refine pu 19 122 (bl 58 1048575) HT_.out (v := ?_) (a' := ?_) ?_ ?_ ?_
   rotate_left
   ·intro w'
    go_simp
    with_reducible rfl
   rotate_left
   ·simp only [Act.put, List.setIfInBounds_toArray, List.set_cons_zero, List.set_cons_succ, i64_w, i32_w]
    rfl
   refine pu 20 123 (bl 58 2097151) HT_.out (v := ?_) (a' := ?_) ?_ ?_ ?_
   rotate_left
   ·intro w'
    go_simp
    with_reducible rfl
   rotate_left
   ·simp only [Act.put, List.setIfInBounds_toArray, List.set_cons_zero, List.set_cons_succ, i64_w, i32_w]
    rfl
   refine pu 21 124 (bl 58 4194303) HT_.out (v := ?_) (a' := ?_) ?_ ?_ ?_
   rotate_left
   ·intro w'
    go_simp
    with_reducible rfl
   rotate_left
   ·simp only [Act.put, List.setIfInBounds_toArray, List.set_cons_zero, List.set_cons_succ, i64_w, i32_w]
    rfl
   refine pu 22 125 (bl 58 8388607) HT_.out (v := ?_) (a' := ?_) ?_ ?_ ?_
   rotate_left
   ·intro w'
    go_simp
    with_reducible rfl
   rotate_left
   ·simp only [Act.put, List.setIfInBounds_toArray, List.set_cons_zero, List.set_cons_succ, i64_w, i32_w]
    rfl
   refine pu 23 126 (bl 58 16777215) HT_.out (v := ?_) (a' := ?_) ?_ ?_ ?_
   rotate_left
   ·intro w'
    go_simp
    with_reducible rfl
   rotate_left
   ·simp only [Act.put, List.setIfInBounds_toArray, List.set_cons_zero, List.set_cons_succ, i64_w, i32_w]
    rfl
   refine pu 24 127 (bl 58 33554431) HT_.out (v := ?_) (a' := ?_) ?_ ?_ ?_
   rotate_left
   ·intro w'
    go_simp
    with_reducible rfl
   rotate_left
   ·simp only [Act.put, List.setIfInBounds_toArray, List.set_cons_zero, List.set_cons_succ, i64_w, i32_w]
    rfl
   refine pu 25 128 (bl 58 67108863) HT_.out (v := ?_) (a' := ?_) ?_ ?_ ?_
   rotate_left
   ·intro w'
    go_simp
    with_reducible rfl
   rotate_left
   ·simp only [Act.put, List.setIfInBounds_toArray, List.set_cons_zero, List.set_cons_succ, i64_w, i32_w]
    rfl
   refine pu 26 129 (bl 58 134217727) HT_.out (v := ?_) (a' := ?_) ?_ ?_ ?_
   rotate_left
   ·intro w'
    go_simp
    with_reducible rfl
   rotate_left
   ·simp only [Act.put, List.setIfInBounds_toArray, List.set_cons_zero, List.set_cons_succ, i64_w, i32_w]
    rfl
   refine pu 27 130 (bl 58 268435455) HT_.out (v := ?_) (a' := ?_) ?_ ?_ ?_
   rotate_left
   ·intro w'
    go_simp
    with_reducible rfl
   rotate_left
   ·simp only [Act.put, List.setIfInBounds_toArray, List.set_cons_zero, List.set_cons_succ, i64_w, i32_w]
    rfl
   refine pu 28 131 (bl 58 536870911) HT_.out (v := ?_) (a' := ?_) ?_ ?_ ?_
   rotate_left
   ·intro w'
    go_simp
    with_reducible rfl
   rotate_left
   ·simp only [Act.put, List.setIfInBounds_toArray, List.set_cons_zero, List.set_cons_succ, i64_w, i32_w]
    rfl
   refine pu 29 132 (bl 58 1073741823) HT_.out (v := ?_) (a' := ?_) ?_ ?_ ?_
   rotate_left
   ·intro w'
    go_simp
    with_reducible rfl
   rotate_left
   ·simp only [Act.put, List.setIfInBounds_toArray, List.set_cons_zero, List.set_cons_succ, i64_w, i32_w]
    rfl
   refine pu 30 133 (bl 58 2147483647) HT_.out (v := ?_) (a' := ?_) ?_ ?_ ?_
   rotate_left
   ·intro w'
    go_simp
    with_reducible rfl
   rotate_left
   ·simp only [Act.put, List.setIfInBounds_toArray, List.set_cons_zero, List.set_cons_succ, i64_w, i32_w]
    rfl
   refine pu 31 134 (bl 58 4294967295) HT_.out (v := ?_) (a' := ?_) ?_ ?_ ?_
   rotate_left
   ·intro w'
    go_simp
    with_reducible rfl
   rotate_left
   ·simp only [Act.put, List.setIfInBounds_toArray, List.set_cons_zero, List.set_cons_succ, i64_w, i32_w]
    rfl
   refine pu 32 135 (bl 58 8589934591) HT_.out (v := ?_) (a' := ?_) ?_ ?_ ?_
   rotate_left
   ·intro w'
    go_simp
    with_reducible rfl
   rotate_left
   ·simp only [Act.put, List.setIfInBounds_toArray, List.set_cons_zero, List.set_cons_succ, i64_w, i32_w]
    rfl
   refine pu 33 136 (bl 58 17179869183) HT_.out (v := ?_) (a' := ?_) ?_ ?_ ?_
   rotate_left
   ·intro w'
    go_simp
    with_reducible rfl
   rotate_left
   ·simp only [Act.put, List.setIfInBounds_toArray, List.set_cons_zero, List.set_cons_succ, i64_w, i32_w]
    rfl
   refine pu 34 137 (bl 58 34359738367) HT_.out (v := ?_) (a' := ?_) ?_ ?_ ?_
   rotate_left
   ·intro w'
    go_simp
    with_reducible rfl
   rotate_left
   ·simp only [Act.put, List.setIfInBounds_toArray, List.set_cons_zero, List.set_cons_succ, i64_w, i32_w]
    rfl
   refine pu 35 138 (bl 58 68719476735) HT_.out (v := ?_) (a' := ?_) ?_ ?_ ?_
   rotate_left
   ·intro w'
    go_simp
    with_reducible rfl
   rotate_left
   ·simp only [Act.put, List.setIfInBounds_toArray, List.set_cons_zero, List.set_cons_succ, i64_w, i32_w]
    rfl
   refine pu 36 139 (bl 58 137438953471) HT_.out (v := ?_) (a' := ?_) ?_ ?_ ?_
   rotate_left
   ·intro w'
    go_simp
    with_reducible rfl
   rotate_left
   ·simp only [Act.put, List.setIfInBounds_toArray, List.set_cons_zero, List.set_cons_succ, i64_w, i32_w]
    rfl
   refine pu 37 140 (bl 58 274877906943) HT_.out (v := ?_) (a' := ?_) ?_ ?_ ?_
   rotate_left
   ·intro w'
    go_simp
    with_reducible rfl
   rotate_left
   ·simp only [Act.put, List.setIfInBounds_toArray, List.set_cons_zero, List.set_cons_succ, i64_w, i32_w]
    rfl
   refine pu 38 141 (bl 58 549755813887) HT_.out (v := ?_) (a' := ?_) ?_ ?_ ?_
   rotate_left
   ·intro w'
    go_simp
    with_reducible rfl
   rotate_left
   ·simp only [Act.put, List.setIfInBounds_toArray, List.set_cons_zero, List.set_cons_succ, i64_w, i32_w]
    rfl
   refine pu 39 142 (bl 58 1099511627775) HT_.out (v := ?_) (a' := ?_) ?_ ?_ ?_
   rotate_left
   ·intro w'
    go_simp
    with_reducible rfl
   rotate_left
   ·simp only [Act.put, List.setIfInBounds_toArray, List.set_cons_zero, List.set_cons_succ, i64_w, i32_w]
    rfl
   refine tk 40 143 (bl 58 2199023255551) HT_.out HW_.out hHeld (v := ?_) (a' := ?_) ?_ ?_ ?_
   rotate_left
   ·rintro w' ⟨s0, s1, s2⟩
    go_simp
    with_reducible rfl
   rotate_left
   ·simp only [Act.put, List.setIfInBounds_toArray, List.set_cons_zero, List.set_cons_succ, i64_w, i32_w]
    rfl
   refine on 41 144 (bl 58 4398046511103) HT_.out (fun K hK => ?_)
   refine gs Try.func18 #[.agg #[.int .i64 t343, .int .i64 t344, .int .i64 t345]] ?_
   with_reducible refine (impl_IsWheel.calls t343 t344 t345 t362 _ A35.out).mono ?_
   rintro e w42 ⟨rfl, hb⟩
   refine ⟨_, rfl, ?_⟩
   replace BK347 := bb BK347 hb
   replace HB := bs HB hb
   (try clear hb)
   (try clear hb2)
   (try clear hk)
   (try clear hi)
   refine hK.out _ _ ⟨bc0 BK347, bc1 BK347, bc2 BK347⟩ (fun hHeld => ?_)
   clear hK K
   refine norm_ (a' := ?_) ?_ ?_
   rotate_left
   ·show Act.put _ (some 144) _ = _
    simp only [Act.put, List.setIfInBounds_toArray, List.set_cons_zero, List.set_cons_succ, i64_w, i32_w]
    rfl
   refine pu 42 145 (bl 58 8796093022207) HT_.out (v := ?_) (a' := ?_) ?_ ?_ ?_
   rotate_left
   ·intro w'
    go_simp
    with_reducible rfl
   rotate_left
   ·simp only [Act.put, List.setIfInBounds_toArray, List.set_cons_zero, List.set_cons_succ, i64_w, i32_w]
    rfl
   refine pu 43 146 (bl 58 17592186044415) HT_.out (v := ?_) (a' := ?_) ?_ ?_ ?_
   rotate_left
   ·intro w'
    go_simp
    with_reducible rfl
   rotate_left
   ·simp only [Act.put, List.setIfInBounds_toArray, List.set_cons_zero, List.set_cons_succ, i64_w, i32_w]
    rfl
   refine pu 44 147 (bl 58 35184372088831) HT_.out (v := ?_) (a' := ?_) ?_ ?_ ?_
   rotate_left
   ·intro w'
    go_simp
    with_reducible rfl
   rotate_left
   ·simp only [Act.put, List.setIfInBounds_toArray, List.set_cons_zero, List.set_cons_succ, i64_w, i32_w]
    rfl
   refine tk 45 148 (bl 58 70368744177663) HT_.out HW_.out hHeld (v := ?_) (a' := ?_) ?_ ?_ ?_
   rotate_left
   ·rintro w' ⟨s0, s1, s2⟩
    go_simp
    with_reducible rfl
   rotate_left
   ·simp only [Act.put, List.setIfInBounds_toArray, List.set_cons_zero, List.set_cons_succ, i64_w, i32_w]
    rfl
   refine tk 47 150 (bl 58 211106232532991) HT_.out HW_.out hHeld (v := ?_) (a' := ?_) ?_ ?_ ?_
   rotate_left
   ·rintro w' ⟨s0, s1, s2⟩
    go_simp
    with_reducible rfl
   rotate_left
   ·simp only [Act.put, List.setIfInBounds_toArray, List.set_cons_zero, List.set_cons_succ, i64_w, i32_w]
    rfl
   refine on 46 149 (bl 58 281474976710655) HT_.out (fun K hK => ?_)
   refine gs Try.func18 #[.agg #[.int .i64 t343, .int .i64 t344, .int .i64 t345]] ?_
   with_reducible refine (impl_IsWheel.calls t343 t344 t345 t362 _ A37.out).mono ?_
   rintro e w43 ⟨rfl, hb⟩
   refine ⟨_, rfl, ?_⟩
   replace BK347 := bb BK347 hb
   replace HB := bs HB hb
   (try clear hb)
   (try clear hb2)
   (try clear hk)
   (try clear hi)
   refine hK.out _ _ ⟨bc0 BK347, bc1 BK347, bc2 BK347⟩ (fun hHeld => ?_)
   clear hK K
   refine norm_ (a' := ?_) ?_ ?_
   rotate_left
   ·show Act.put _ (some 149) _ = _
    simp only [Act.put, List.setIfInBounds_toArray, List.set_cons_zero, List.set_cons_succ, i64_w, i32_w]
    rfl
   refine on 48 151 (bl 58 562949953421311) HT_.out (fun K hK => ?_)
   refine gs Try.func19 #[.agg #[.int .i64 t343, .int .i64 t344, .int .i64 t345]] ?_
   with_reducible refine (spec_IsWheel.calls t343 t344 t345 t364 _ A38.out).mono ?_
   rintro e w44 ⟨rfl, hb⟩
   refine ⟨_, rfl, ?_⟩
   replace BK347 := bb BK347 hb
   replace HB := bs HB hb
   (try clear hb)
   (try clear hb2)
   (try clear hk)
   (try clear hi)
   refine hK.out _ _ ⟨bc0 BK347, bc1 BK347, bc2 BK347⟩ (fun hHeld => ?_)
   clear hK K
   refine norm_ (a' := ?_) ?_ ?_
   rotate_left
   ·show Act.put _ (some 151) _ = _
    simp only [Act.put, List.setIfInBounds_toArray, List.set_cons_zero, List.set_cons_succ, i64_w, i32_w]
    rfl
   refine pu 49 152 (bl 58 1125899906842623) HT_.out (v := ?_) (a' := ?_) ?_ ?_ ?_
   rotate_left
   ·intro w'
    go_simp
    with_reducible rfl
   rotate_left
   ·simp only [Act.put, List.setIfInBounds_toArray, List.set_cons_zero, List.set_cons_succ, i64_w, i32_w]
    rfl
   refine pu 50 153 (bl 58 2251799813685247) HT_.out (v := ?_) (a' := ?_) ?_ ?_ ?_
   rotate_left
   ·intro w'
    go_simp
    with_reducible rfl
   rotate_left
   ·simp only [Act.put, List.setIfInBounds_toArray, List.set_cons_zero, List.set_cons_succ, i64_w, i32_w]
    rfl
   refine pu 51 154 (bl 58 4503599627370495) HT_.out (v := ?_) (a' := ?_) ?_ ?_ ?_
   rotate_left
   ·intro w'
    go_simp
    with_reducible rfl
   rotate_left
   ·simp only [Act.put, List.setIfInBounds_toArray, List.set_cons_zero, List.set_cons_succ, i64_w, i32_w]
    rfl
   refine pu 52 155 (bl 58 9007199254740991) HT_.out (v := ?_) (a' := ?_) ?_ ?_ ?_
   rotate_left
   ·intro w'
    go_simp
    with_reducible rfl
   rotate_left
   ·simp only [Act.put, List.setIfInBounds_toArray, List.set_cons_zero, List.set_cons_succ, i64_w, i32_w]
    rfl
   refine pu 53 156 (bl 58 18014398509481983) HT_.out (v := ?_) (a' := ?_) ?_ ?_ ?_
   rotate_left
   ·intro w'
    go_simp
    with_reducible rfl
   rotate_left
   ·simp only [Act.put, List.setIfInBounds_toArray, List.set_cons_zero, List.set_cons_succ, i64_w, i32_w]
    rfl
   refine pu 54 157 (bl 58 36028797018963967) HT_.out (v := ?_) (a' := ?_) ?_ ?_ ?_
   rotate_left
   ·intro w'
    go_simp
    with_reducible rfl
   rotate_left
   ·simp only [Act.put, List.setIfInBounds_toArray, List.set_cons_zero, List.set_cons_succ, i64_w, i32_w]
    rfl
   refine pu 55 158 (bl 58 72057594037927935) HT_.out (v := ?_) (a' := ?_) ?_ ?_ ?_
   rotate_left
   ·intro w'
    go_simp
    with_reducible rfl
   rotate_left
   ·simp only [Act.put, List.setIfInBounds_toArray, List.set_cons_zero, List.set_cons_succ, i64_w, i32_w]
    rfl
   refine pu 56 159 (bl 58 144115188075855871) HT_.out (v := ?_) (a' := ?_) ?_ ?_ ?_
   rotate_left
   ·intro w'
    go_simp
    with_reducible rfl
   rotate_left
   ·simp only [Act.put, List.setIfInBounds_toArray, List.set_cons_zero, List.set_cons_succ, i64_w, i32_w]
    rfl
   refine pu 57 160 (bl 58 288230376151711743) HT_.out (v := ?_) (a' := ?_) ?_ ?_ ?_
   rotate_left
   ·intro w'
    go_simp
    with_reducible rfl
   rotate_left
   ·simp only [Act.put, List.setIfInBounds_toArray, List.set_cons_zero, List.set_cons_succ, i64_w, i32_w]
    rfl
   refine done_ (done_of HT_.out (by kernel_rfl)) ?_
   try go_wp2
   (refine Met.intro ?_; go_step; refine Cut_mk (by kernel_rfl) ?rel3)
   case rel3 => exact ⟨_, (!t359), (by first | rfl | (simp; done) | (simp [*]; done)), H', ⟨by first | omega | exact Nat.le_refl _⟩, ⟨bk BK347⟩, ⟨bw HB⟩⟩
 case rest1 =>
  as_aux_lemma =>
   intro u_ wc hcut l_ hl_; (simp only [rl, List.reduceReplicate, List.cons_append, List.nil_append, List.append_nil, Bool.not_true, Bool.not_false, fu, Nat.reduceAdd] at hl_); subst hl_; generalize u_ 160 = v160 at hcut ⊢
   clear HC12
   try clear c1
   try clear c2
   try clear p2
   try clear c3
   try clear c4
   try clear c18
   try clear c19
   try clear c28
   try clear c28b0
   try clear c28b1
   try clear c29
   try clear c29b0
   try clear c29b1
   try clear c31
   try clear c31b0
   try clear c31b1
   try clear c33
   try clear c33b0
   try clear c33b1
   try clear c40
   obtain ⟨kq, x160_11, rfl, HA, HJ11, BK347, HB⟩ := hcut
   cases kq with
   | zero => exact absurd HA.out (by simp [laws_FnWheelsAndScales.j0])
   | succ kj11 =>
    have H := HA.out
    clear HA
    simp only [laws_FnWheelsAndScales.j0] at H
    by_cases c49 : x160_11 = true
    ·subst c49
     have H1 : (some false) = some r := by rw [if_pos rfl] at H; exact H
     clear H
     have H := H1
     clear H1
     exact absurd ((Option.some.inj H).trans hrt.out) (by decide)
    replace c49 := Bool.eq_false_iff.mpr c49
    subst c49
    have H1 : (if t350 = true then (if t348 < 0 then (laws_FnWheelsAndScales.j1 kj11 l1 t346 t348 t349 t354 t358 true t343 t344 t345) else (if t348 ≥ t343 then (laws_FnWheelsAndScales.j1 kj11 l1 t346 t348 t349 t354 t358 true t343 t344 t345) else (if t349 < 0 then (laws_FnWheelsAndScales.j1 kj11 l1 t346 t348 t349 t354 t358 true t343 t344 t345) else (if t349 ≥ t344 then (laws_FnWheelsAndScales.j1 kj11 l1 t346 t348 t349 t354 t358 true t343 t344 t345) else (laws_FnWheelsAndScales.j1 kj11 l1 t346 t348 t349 t354 t358 (decide (t354 < 0)) t343 t344 t345))))) else (laws_FnWheelsAndScales.j5 kj11 l1)) = some r := by rw [if_neg (show ¬ (false = true) by decide)] at H; exact H
    clear H
    have H := H1
    clear H1
    have HC50 := Aside0.mk H
    clear H
    go_upto_if 161 with (fail)
    refine cutF (rl [4, 1, 16, 11, 27, 411] false) (fun u_ wc => ∃ (kq : Nat), Aside0 (laws_FnWheelsAndScales.j5 kq l1 = some r) ∧ Aside0 (kq ≤ kj11) ∧ Aside0 (wc.heap[gb347]? = some (.cells #[.int .i64 t343, .int .i64 t344, .int .i64 t345] 25 (0, 0))) ∧ Aside0 (Below w.heap.size w wc)) ?first4 ?rest4
    case first4 =>
     as_aux_lemma =>
      intro J_ K_ hJ_ hK_
      have H := HC50.out
      clear HC50
      by_cases c51 : t350 = true
      rotate_left
      ·replace c51 := Bool.eq_false_iff.mpr c51
       subst c51
       have H1 : (laws_FnWheelsAndScales.j5 kj11 l1) = some r := by rw [if_neg (show ¬ (false = true) by decide)] at H; exact H
       clear H
       have H := H1
       clear H1
       have H' := Aside0.mk H
       clear H
       go_wp2
       (refine Met.intro ?_; go_step; refine Cut_mk (by kernel_rfl) ?rel5)
       case rel5 => exact ⟨_, H', ⟨by have := HJ11.out; first | omega | exact Nat.le_refl _⟩, ⟨bk BK347⟩, ⟨bw HB⟩⟩
      subst c51
      have H1 : (if t348 < 0 then (laws_FnWheelsAndScales.j1 kj11 l1 t346 t348 t349 t354 t358 true t343 t344 t345) else (if t348 ≥ t343 then (laws_FnWheelsAndScales.j1 kj11 l1 t346 t348 t349 t354 t358 true t343 t344 t345) else (if t349 < 0 then (laws_FnWheelsAndScales.j1 kj11 l1 t346 t348 t349 t354 t358 true t343 t344 t345) else (if t349 ≥ t344 then (laws_FnWheelsAndScales.j1 kj11 l1 t346 t348 t349 t354 t358 true t343 t344 t345) else (laws_FnWheelsAndScales.j1 kj11 l1 t346 t348 t349 t354 t358 (decide (t354 < 0)) t343 t344 t345))))) = some r := by rw [if_pos rfl] at H; exact H
      clear H
      have H := H1
      clear H1
      have HC52 := Aside0.mk H
      clear H
      go_upto_region 13 with (fail)
      refine cutF (rl [59, 185, 3, 223] false) (fun u_ wc => ∃ (kq : Nat) (x183_51 : Bool), (u_ 183) = .bool x183_51 ∧ Aside0 (laws_FnWheelsAndScales.j1 kq l1 t346 t348 t349 t354 t358 x183_51 t343 t344 t345 = some r) ∧ Aside0 (kq ≤ kj11) ∧ Aside0 (wc.heap[gb347]? = some (.cells #[.int .i64 t343, .int .i64 t344, .int .i64 t345] 25 (0, 0))) ∧ Aside0 (Below w.heap.size w wc)) ?first6 ?rest6
      case first6 =>
       as_aux_lemma =>
        intro J_ K_ hJ_ hK_
        have H := HC52.out
        clear HC52
        by_cases c53 : t348 < 0
        ·rw [if_pos c53] at H
         have c53b0 : decide (t348 < 0) = true := decide_eq_true c53
         clear c53
         (first | rw [c53b0] | (simp only [i64_w, i32_w]; rw [c53b0]) | skip)
         exact absurd H (by rw [hrt.out]; cases kj11 <;> simp [laws_FnWheelsAndScales.j1])
        rw [if_neg c53] at H
        have c53b0 : decide (t348 < 0) = false := decide_eq_false c53
        clear c53
        (first | rw [c53b0] | (simp only [i64_w, i32_w]; rw [c53b0]) | skip)
        by_cases c54 : t348 ≥ t343
        ·rw [if_pos c54] at H
         have c54b0 : decide (t343 ≤ t348) = true := decide_eq_true c54
         clear c54
         exact absurd H (by rw [hrt.out]; cases kj11 <;> simp [laws_FnWheelsAndScales.j1])
        rw [if_neg c54] at H
        have c54b0 : decide (t343 ≤ t348) = false := decide_eq_false c54
        clear c54
        by_cases c55 : t349 < 0
        ·rw [if_pos c55] at H
         have c55b0 : decide (t349 < 0) = true := decide_eq_true c55
         clear c55
         exact absurd H (by rw [hrt.out]; cases kj11 <;> simp [laws_FnWheelsAndScales.j1])
        rw [if_neg c55] at H
        have c55b0 : decide (t349 < 0) = false := decide_eq_false c55
        clear c55
        by_cases c56 : t349 ≥ t344
        ·rw [if_pos c56] at H
         have c56b0 : decide (t344 ≤ t349) = true := decide_eq_true c56
         clear c56
         exact absurd H (by rw [hrt.out]; cases kj11 <;> simp [laws_FnWheelsAndScales.j1])
        rw [if_neg c56] at H
        have c56b0 : decide (t344 ≤ t349) = false := decide_eq_false c56
        clear c56
        have H' := Aside0.mk H
        clear H
        have hcz57_0 := bc0 BK347
        have hcz57_1 := bc1 BK347
        have hcz57_2 := bc2 BK347
        have hfz57_0 := blk_frozen BK347.out 0
        have hfz57_1 := blk_frozen BK347.out 1
        have hfz57_2 := blk_frozen BK347.out 2
        go_wp2
        (refine Met.intro ?_; go_step; refine Cut_mk (by kernel_rfl) ?rel7)
        case rel7 => exact ⟨_, (decide (t354 < 0)), (by first | rfl | (simp; done) | (simp [*]; done)), H', ⟨by have := HJ11.out; first | omega | exact Nat.le_refl _⟩, ⟨bk BK347⟩, ⟨bw HB⟩⟩
      case rest6 =>
       as_aux_lemma =>
        intro u_ wc hcut l_ hl_; (simp only [rl, List.reduceReplicate, List.cons_append, List.nil_append, List.append_nil, Bool.not_true, Bool.not_false, fu, Nat.reduceAdd] at hl_); subst hl_; generalize u_ 183 = v183 at hcut ⊢
        clear HC52
        try clear c1
        try clear c2
        try clear p2
        try clear c3
        try clear c4
        try clear c5
        try clear c18
        try clear c19
        try clear c28
        try clear c28b0
        try clear c28b1
        try clear c29
        try clear c29b0
        try clear c29b1
        try clear c31
        try clear c31b0
        try clear c31b1
        try clear c33
        try clear c33b0
        try clear c33b1
        try clear c40
        try clear c49
        try clear c51
        try clear c53
        try clear c53b0
        try clear c54
        try clear c54b0
        try clear c55
        try clear c55b0
        try clear c56
        try clear c56b0
        try clear hcz57_0
        try clear hcz57_1
        try clear hcz57_2
        try clear hfz57_0
        try clear hfz57_1
        try clear hfz57_2
        try clear p2
        obtain ⟨kq, x183_51, rfl, HA, HJ51, BK347, HB⟩ := hcut
        cases kq with
        | zero => exact absurd HA.out (by simp [laws_FnWheelsAndScales.j1])
        | succ kj51 =>
         have H := HA.out
         clear HA
         simp only [laws_FnWheelsAndScales.j1] at H
         by_cases c58 : x183_51 = true
         ·subst c58
          have H1 : (some false) = some r := by rw [if_pos rfl] at H; exact H
          clear H
          have H := H1
          clear H1
          exact absurd ((Option.some.inj H).trans hrt.out) (by decide)
         replace c58 := Bool.eq_false_iff.mpr c58
         subst c58
         have H1 : (if t343 = 0 then (none) else (if (wrap64 (Int.tdiv t358 t343)) = 0 then (none) else (if (wrap64 (t346 * t345)) = (wrap64 ((wrap64 ((wrap64 ((wrap64 (Int.tdiv t346 (wrap64 (Int.tdiv t358 t343)))) * t344)) + t354)) + t349)) then (laws_FnWheelsAndScales.j2 kj51 l1 t346 t348 t349 t358 (t348 != (Int.tmod (wrap64 (Int.tdiv t346 (wrap64 (Int.tdiv t358 t343)))) t343)) t343 t344 t345) else (laws_FnWheelsAndScales.j2 kj51 l1 t346 t348 t349 t358 true t343 t344 t345)))) = some r := by rw [if_neg (show ¬ (false = true) by decide)] at H; exact H
         clear H
         have H := H1
         clear H1
         by_cases c59 : t343 = 0
         ·rw [if_pos c59] at H
          exact absurd H (by simp)
         rw [if_neg c59] at H
         have c59b0 : (t343 == 0) = false := beq_eq_false_iff_ne.mpr c59
         have c59b1 : (t343 != 0) = true := bne_iff_ne.mpr c59
         by_cases c60 : (wrap64 (Int.tdiv t358 t343)) = 0
         ·rw [if_pos c60] at H
          exact absurd H (by simp)
         rw [if_neg c60] at H
         have c60b0 : ((wrap64 (Int.tdiv t358 t343)) == 0) = false := beq_eq_false_iff_ne.mpr c60
         have c60b1 : ((wrap64 (Int.tdiv t358 t343)) != 0) = true := bne_iff_ne.mpr c60
         have HC61 := Aside0.mk H
         clear H
         have hcz62_0 := bc0 BK347
         have hcz62_1 := bc1 BK347
         have hcz62_2 := bc2 BK347
         have hfz62_0 := blk_frozen BK347.out 0
         have hfz62_1 := blk_frozen BK347.out 1
         have hfz62_2 := blk_frozen BK347.out 2
         go_upto_region 16 with (fail)
         refine cutF (rl [59, 185, 3, 223] false) (fun u_ wc => ∃ (kq : Nat) (x210_60 : Bool), (u_ 210) = .bool x210_60 ∧ Aside0 (laws_FnWheelsAndScales.j2 kq l1 t346 t348 t349 t358 x210_60 t343 t344 t345 = some r) ∧ Aside0 (kq ≤ kj51) ∧ Aside0 (wc.heap[gb347]? = some (.cells #[.int .i64 t343, .int .i64 t344, .int .i64 t345] 25 (0, 0))) ∧ Aside0 (Below w.heap.size w wc)) ?first8 ?rest8
         case first8 =>
          as_aux_lemma =>
           intro J_ K_ hJ_ hK_
           have H := HC61.out
           clear HC61
           by_cases c63 : (wrap64 (t346 * t345)) = (wrap64 ((wrap64 ((wrap64 ((wrap64 (Int.tdiv t346 (wrap64 (Int.tdiv t358 t343)))) * t344)) + t354)) + t349))
           rotate_left
           ·rw [if_neg c63] at H
            have c63b0 : ((wrap64 (t346 * t345)) == (wrap64 ((wrap64 ((wrap64 ((wrap64 (Int.tdiv t346 (wrap64 (Int.tdiv t358 t343)))) * t344)) + t354)) + t349))) = false := beq_eq_false_iff_ne.mpr c63
            have c63b1 : ((wrap64 (t346 * t345)) != (wrap64 ((wrap64 ((wrap64 ((wrap64 (Int.tdiv t346 (wrap64 (Int.tdiv t358 t343)))) * t344)) + t354)) + t349))) = true := bne_iff_ne.mpr c63
            (first | rw [c63b0] | (simp only [i64_w, i32_w]; rw [c63b0]) | skip)
            exact absurd H (by rw [hrt.out]; cases kj51 <;> simp [laws_FnWheelsAndScales.j2])
           rw [if_pos c63] at H
           have c63b0 : ((wrap64 (t346 * t345)) == (wrap64 ((wrap64 ((wrap64 ((wrap64 (Int.tdiv t346 (wrap64 (Int.tdiv t358 t343)))) * t344)) + t354)) + t349))) = true := beq_iff_eq.mpr c63
           have c63b1 : ((wrap64 (t346 * t345)) != (wrap64 ((wrap64 ((wrap64 ((wrap64 (Int.tdiv t346 (wrap64 (Int.tdiv t358 t343)))) * t344)) + t354)) + t349))) = false := bne_eq_false_iff_eq.mpr c63
           clear c63
           (first | rw [c63b0] | (simp only [i64_w, i32_w]; rw [c63b0]) | skip)
           have H' := Aside0.mk H
           clear H
           have hcz64_0 := bc0 BK347
           have hcz64_1 := bc1 BK347
           have hcz64_2 := bc2 BK347
           have hfz64_0 := blk_frozen BK347.out 0
           have hfz64_1 := blk_frozen BK347.out 1
           have hfz64_2 := blk_frozen BK347.out 2
           go_wp2
           (refine Met.intro ?_; go_step; refine Cut_mk (by kernel_rfl) ?rel9)
           case rel9 => exact ⟨_, ((t348 != (Int.tmod (wrap64 (Int.tdiv t346 (wrap64 (Int.tdiv t358 t343)))) t343))), (by first | rfl | (simp; done) | (simp [*]; done)), H', ⟨by have := HJ11.out; have := HJ51.out; first | omega | exact Nat.le_refl _⟩, ⟨bk BK347⟩, ⟨bw HB⟩⟩
         case rest8 =>
          as_aux_lemma =>
           intro u_ wc hcut l_ hl_; (simp only [rl, List.reduceReplicate, List.cons_append, List.nil_append, List.append_nil, Bool.not_true, Bool.not_false, fu, Nat.reduceAdd] at hl_); subst hl_; generalize u_ 210 = v210 at hcut ⊢
           clear HC61
           try clear c1
           try clear c2
           try clear p2
           try clear c3
           try clear c4
           try clear c5
           try clear c6
           try clear p6
           try clear c18
           try clear c19
           try clear c28
           try clear c28b0
           try clear c28b1
           try clear c29
           try clear c29b0
           try clear c29b1
           try clear c31
           try clear c31b0
           try clear c31b1
           try clear c33
           try clear c33b0
           try clear c33b1
           try clear c40
           try clear c49
           try clear c51
           try clear c53
           try clear c53b0
           try clear c54
           try clear c54b0
           try clear c55
           try clear c55b0
           try clear c56
           try clear c56b0
           try clear c58
           try clear c59
           try clear c59b0
           try clear c59b1
           try clear c60
           try clear c60b0
           try clear c60b1
           try clear c63
           try clear c63b0
           try clear c63b1
           try clear p64
           try clear hcz57_0
           try clear hcz57_1
           try clear hcz57_2
           try clear hcz62_0
           try clear hcz62_1
           try clear hcz62_2
           try clear hcz64_0
           try clear hcz64_1
           try clear hcz64_2
           try clear hfz57_0
           try clear hfz57_1
           try clear hfz57_2
           try clear hfz62_0
           try clear hfz62_1
           try clear hfz62_2
           try clear hfz64_0
           try clear hfz64_1
           try clear hfz64_2
           try clear p2
           obtain ⟨kq, x210_60, rfl, HA, HJ60, BK347, HB⟩ := hcut
           cases kq with
           | zero => exact absurd HA.out (by simp [laws_FnWheelsAndScales.j2])
           | succ kj60 =>
            have H := HA.out
            clear HA
            simp only [laws_FnWheelsAndScales.j2] at H
            by_cases c65 : x210_60 = true
            ·subst c65
             have H1 : (some false) = some r := by rw [if_pos rfl] at H; exact H
             clear H
             have H := H1
             clear H1
             exact absurd ((Option.some.inj H).trans hrt.out) (by decide)
            replace c65 := Bool.eq_false_iff.mpr c65
            subst c65
            have H1 : (if (wrap64 (t346 + t358)) ≤ 10000 then ((impl_WheelAfter.f t343 t344 t345 (wrap64 (t346 + t358))).bind fun bt365 => (if bt365.2.2 = true then (if bt365.1 = t348 then (if bt365.2.1 = t349 then (laws_FnWheelsAndScales.j3 kj60 l1 t346 t348 t358 t343 t344 t345) else (some false)) else (some false)) else (some false))) else (laws_FnWheelsAndScales.j3 kj60 l1 t346 t348 t358 t343 t344 t345)) = some r := by rw [if_neg (show ¬ (false = true) by decide)] at H; exact H
            clear H
            have H := H1
            clear H1
            have HC66 := Aside0.mk H
            clear H
            go_upto_if 214 with (fail)
            refine cutF (rl [4, 1, 17, 3, 34, 185, 3, 223] false) (fun u_ wc => ∃ (kq : Nat), Aside0 (laws_FnWheelsAndScales.j3 kq l1 t346 t348 t358 t343 t344 t345 = some r) ∧ Aside0 (kq ≤ kj60) ∧ Aside0 (wc.heap[gb347]? = some (.cells #[.int .i64 t343, .int .i64 t344, .int .i64 t345] 25 (0, 0))) ∧ Aside0 (Below w.heap.size w wc)) ?first10 ?rest10
            case first10 =>
             as_aux_lemma =>
              intro J_ K_ hJ_ hK_
              have H := HC66.out
              clear HC66
              by_cases c67 : (wrap64 (t346 + t358)) ≤ 10000
              rotate_left
              ·rw [if_neg c67] at H
               have c67b0 : decide ((wrap64 (t346 + t358)) ≤ 10000) = false := decide_eq_false c67
               clear c67
               (first | rw [c67b0] | (simp only [i64_w, i32_w]; rw [c67b0]) | skip)
               have H' := Aside0.mk H
               clear H
               go_wp2
               (refine Met.intro ?_; go_step; refine Cut_mk (by kernel_rfl) ?rel11)
               case rel11 => exact ⟨_, H', ⟨by have := HJ11.out; have := HJ51.out; have := HJ60.out; first | omega | exact Nat.le_refl _⟩, ⟨bk BK347⟩, ⟨bw HB⟩⟩
              rw [if_pos c67] at H
              have c67b0 : decide ((wrap64 (t346 + t358)) ≤ 10000) = true := decide_eq_true c67
              clear c67
              (first | rw [c67b0] | (simp only [i64_w, i32_w]; rw [c67b0]) | skip)
              replace H := Option.bind_eq_some_iff.mp H
              obtain ⟨⟨t365, t366, t367⟩, A680, H⟩ := H
              replace H : (if t367 = true then (if t365 = t348 then (if t366 = t349 then (laws_FnWheelsAndScales.j3 kj60 l1 t346 t348 t358 t343 t344 t345) else (some false)) else (some false)) else (some false)) = some r := H
              have A68 := Aside0.mk A680
              clear A680
              by_cases c69 : t367 = true
              rotate_left
              ·replace c69 := Bool.eq_false_iff.mpr c69
               subst c69
               have H1 : (some false) = some r := by rw [if_neg (show ¬ (false = true) by decide)] at H; exact H
               clear H
               have H := H1
               clear H1
               exact absurd ((Option.some.inj H).trans hrt.out) (by decide)
              subst c69
              have H1 : (if t365 = t348 then (if t366 = t349 then (laws_FnWheelsAndScales.j3 kj60 l1 t346 t348 t358 t343 t344 t345) else (some false)) else (some false)) = some r := by rw [if_pos rfl] at H; exact H
              clear H
              have H := H1
              clear H1
              by_cases c70 : t365 = t348
              rotate_left
              ·rw [if_neg c70] at H
               have c70b0 : (t365 == t348) = false := beq_eq_false_iff_ne.mpr c70
               have c70b1 : (t365 != t348) = true := bne_iff_ne.mpr c70
               exact absurd ((Option.some.inj H).trans hrt.out) (by decide)
              rw [if_pos c70] at H
              have c70b0 : (t365 == t348) = true := beq_iff_eq.mpr c70
              have c70b1 : (t365 != t348) = false := bne_eq_false_iff_eq.mpr c70
              clear c70
              by_cases c71 : t366 = t349
              rotate_left
              ·rw [if_neg c71] at H
               have c71b0 : (t366 == t349) = false := beq_eq_false_iff_ne.mpr c71
               have c71b1 : (t366 != t349) = true := bne_iff_ne.mpr c71
               exact absurd ((Option.some.inj H).trans hrt.out) (by decide)
              rw [if_pos c71] at H
              have c71b0 : (t366 == t349) = true := beq_iff_eq.mpr c71
              have c71b1 : (t366 != t349) = false := bne_eq_false_iff_eq.mpr c71
              clear c71
              have H' := Aside0.mk H
              clear H
              have hcz72_0 := bc0 BK347
              have hcz72_1 := bc1 BK347
              have hcz72_2 := bc2 BK347
              have hfz72_0 := blk_frozen BK347.out 0
              have hfz72_1 := blk_frozen BK347.out 1
              have hfz72_2 := blk_frozen BK347.out 2
              go_wp2_with (first | ((with_reducible refine gate_callee (f := 12) rfl ?_); refine gl 220 Try.func12 #[.agg #[.int .i64 t343, .int .i64 t344, .int .i64 t345], .int .i64 (wrap64 (t346 + t358))] ?_; (with_reducible refine (impl_WheelAfter.calls t343 t344 t345 (wrap64 (t346 + t358)) t365 t366 true _ A68.out).mono ?_); rintro e w73 ⟨rfl, hb⟩; refine ⟨_, rfl, ?_⟩; replace BK347 := bb BK347 hb; replace HB := bs HB hb; (try clear hb)))
              (refine Met.intro ?_; go_step; refine Cut_mk (by kernel_rfl) ?rel12)
              case rel12 => exact ⟨_, H', ⟨by have := HJ11.out; have := HJ51.out; have := HJ60.out; first | omega | exact Nat.le_refl _⟩, ⟨bk BK347⟩, ⟨bw HB⟩⟩
            case rest10 =>
             as_aux_lemma =>
              intro u_ wc hcut l_ hl_; (simp only [rl, List.reduceReplicate, List.cons_append, List.nil_append, List.append_nil, Bool.not_true, Bool.not_false, fu, Nat.reduceAdd] at hl_); subst hl_
              clear HC66
              try clear c1
              try clear c2
              try clear p2
              try clear c3
              try clear c4
              try clear c5
              try clear c6
              try clear p6
              try clear c7
              try clear c12
              try clear c18
              try clear c19
              try clear c28
              try clear c28b0
              try clear c28b1
              try clear c29
              try clear c29b0
              try clear c29b1
              try clear c31
              try clear c31b0
              try clear c31b1
              try clear c33
              try clear c33b0
              try clear c33b1
              try clear c40
              try clear c49
              try clear c51
              try clear c53
              try clear c53b0
              try clear c54
              try clear c54b0
              try clear c55
              try clear c55b0
              try clear c56
              try clear c56b0
              try clear c58
              try clear c59
              try clear c59b0
              try clear c59b1
              try clear c60
              try clear c60b0
              try clear c60b1
              try clear c63
              try clear c63b0
              try clear c63b1
              try clear p64
              try clear c65
              try clear c67
              try clear c67b0
              try clear c69
              try clear c70
              try clear c70b0
              try clear c70b1
              try clear c71
              try clear c71b0
              try clear c71b1
              try clear hcz57_0
              try clear hcz57_1
              try clear hcz57_2
              try clear hcz62_0
              try clear hcz62_1
              try clear hcz62_2
              try clear hcz64_0
              try clear hcz64_1
              try clear hcz64_2
              try clear hcz72_0
              try clear hcz72_1
              try clear hcz72_2
              try clear hfz57_0
              try clear hfz57_1
              try clear hfz57_2
              try clear hfz62_0
              try clear hfz62_1
              try clear hfz62_2
              try clear hfz64_0
              try clear hfz64_1
              try clear hfz64_2
              try clear hfz72_0
              try clear hfz72_1
              try clear hfz72_2
              try clear p2
              try clear p6
              try clear p64
              obtain ⟨kq, HA, HJ65, BK347, HB⟩ := hcut
              cases kq with
              | zero => exact absurd HA.out (by simp [laws_FnWheelsAndScales.j3])
              | succ kj65 =>
               have H := HA.out
               clear HA
               simp only [laws_FnWheelsAndScales.j3] at H
               replace H := Option.bind_eq_some_iff.mp H
               obtain ⟨⟨t368, t371⟩, A740, H⟩ := H
               replace H : (if t371 = true then (laws_FnWheelsAndScales.l0 kj65 l1 t346 t348 t358 t368 t368 (t368.length : Int) 0 t343 t344 t345) else (laws_FnWheelsAndScales.j5 kj65 l1)) = some r := H
               have A74 := Aside0.mk A740
               clear A740
               by_cases c75 : t371 = true
               rotate_left
               ·replace c75 := Bool.eq_false_iff.mpr c75
                subst c75
                have H1 : (laws_FnWheelsAndScales.j5 kj65 l1) = some r := by rw [if_neg (show ¬ (false = true) by decide)] at H; exact H
                clear H
                have H := H1
                clear H1
                have H' := Aside0.mk H
                clear H
                have hcz99_0 := bc0 BK347
                have hcz99_1 := bc1 BK347
                have hcz99_2 := bc2 BK347
                have hfz99_0 := blk_frozen BK347.out 0
                have hfz99_1 := blk_frozen BK347.out 1
                have hfz99_2 := blk_frozen BK347.out 2
                go_wp2_with (first | ((with_reducible refine gate_callee (f := 20) rfl ?_); refine gl 240 Try.func20 #[.agg #[.int .i64 t343, .int .i64 t344, .int .i64 t345], .int .i64 t348, .int .i64 t346] ?_; (with_reducible refine (impl_TimesOfScoop.calls kj65 t343 t344 t345 t348 t346 t368 false _ A74.out).mono ?_); rintro e w100 ⟨v369, rfl, ho0, hb⟩; refine ⟨_, rfl, ?_⟩; have HO370 := lo ho0 HB; replace BK347 := bb BK347 hb; replace HB := bs HB hb; (try clear hb); (try clear ho0)))
                (refine Met.intro ?_; go_step; refine Cut_mk (by kernel_rfl) ?rel13)
                case rel13 => exact ⟨_, H', ⟨by have := HJ11.out; have := HJ51.out; have := HJ60.out; have := HJ65.out; first | omega | exact Nat.le_refl _⟩, ⟨bk BK347⟩, ⟨bw HB⟩⟩
               subst c75
               have H1 : (laws_FnWheelsAndScales.l0 kj65 l1 t346 t348 t358 t368 t368 (t368.length : Int) 0 t343 t344 t345) = some r := by rw [if_pos rfl] at H; exact H
               clear H
               have H := H1
               clear H1
               have H' := Aside0.mk H
               clear H
               have hcz76_0 := bc0 BK347
               have hcz76_1 := bc1 BK347
               have hcz76_2 := bc2 BK347
               have hfz76_0 := blk_frozen BK347.out 0
               have hfz76_1 := blk_frozen BK347.out 1
               have hfz76_2 := blk_frozen BK347.out 2
               go_wp2_with (first | ((with_reducible refine gate_callee (f := 20) rfl ?_); refine gl 240 Try.func20 #[.agg #[.int .i64 t343, .int .i64 t344, .int .i64 t345], .int .i64 t348, .int .i64 t346] ?_; (with_reducible refine (impl_TimesOfScoop.calls kj65 t343 t344 t345 t348 t346 t368 true _ A74.out).mono ?_); rintro e w77 ⟨v369, rfl, ho0, hb⟩; refine ⟨_, rfl, ?_⟩; have HO370 := lo ho0 HB; replace BK347 := bb BK347 hb; replace HB := bs HB hb; (try clear hb); (try clear ho0); obtain ⟨Ao78, co78, eo78⟩ := Kd.R_slice HO370.out; subst eo78))
               try simp only [Act.put, List.setIfInBounds_toArray, List.set_cons_zero, List.set_cons_succ]
               refine loopF (rl [4, 1, 22, 5, 214, 48, 176] false) kj65 (fun kq u_ w' => ∃ (x246_5 : Int), (u_ 246) = .int .i64 x246_5 ∧ Aside0 (laws_FnWheelsAndScales.l0 kq l1 t346 t348 t358 t368 t368 (t368.length : Int) x246_5 t343 t344 t345 = some r) ∧ Aside0 (kq ≤ kj65) ∧ Aside0 (Kd.R (Kd.int .i64) 3 w' w.heap.size (fun _ => True) (.slice Ao78 t368.length co78) t368) ∧ Aside0 (Kd.R (Kd.int .i64) 3 w' w.heap.size (fun _ => True) (.slice Ao78 t368.length co78) t368) ∧ Aside0 (w'.heap[gb347]? = some (.cells #[.int .i64 t343, .int .i64 t344, .int .i64 t345] 25 (0, 0))) ∧ Aside0 (Below w.heap.size w w')) ?atStart14 ?round14
               case atStart14 => exact ⟨(0), (by first | rfl | (simp; done) | (simp [*]; done)), H', ⟨Nat.le_refl _⟩, ⟨rk HO370⟩, ⟨rk HO370⟩, ⟨bk BK347⟩, ⟨bw HB⟩⟩
               case round14 =>
                intro gk u_ wr hrel l_ hl_; (simp only [rl, List.reduceReplicate, List.cons_append, List.nil_append, List.append_nil, Bool.not_true, Bool.not_false, fu, Nat.reduceAdd] at hl_); subst hl_; generalize u_ 246 = v246 at hrel ⊢
                intro J_ K_ hJ_ hK_
                clear H'
                try clear c1
                try clear c2
                try clear p2
                try clear c3
                try clear c4
                try clear c5
                try clear c6
                try clear p6
                try clear c7
                try clear c12
                try clear c18
                try clear c19
                try clear c20
                try clear c28
                try clear c28b0
                try clear c28b1
                try clear c29
                try clear c29b0
                try clear c29b1
                try clear c31
                try clear c31b0
                try clear c31b1
                try clear c33
                try clear c33b0
                try clear c33b1
                try clear c40
                try clear c49
                try clear c51
                try clear c53
                try clear c53b0
                try clear c54
                try clear c54b0
                try clear c55
                try clear c55b0
                try clear c56
                try clear c56b0
                try clear c58
                try clear c59
                try clear c59b0
                try clear c59b1
                try clear c60
                try clear c60b0
                try clear c60b1
                try clear c63
                try clear c63b0
                try clear c63b1
                try clear p64
                try clear c65
                try clear c67
                try clear c67b0
                try clear c69
                try clear c70
                try clear c70b0
                try clear c70b1
                try clear c71
                try clear c71b0
                try clear c71b1
                try clear c75
                try clear hcz57_0
                try clear hcz57_1
                try clear hcz57_2
                try clear hcz62_0
                try clear hcz62_1
                try clear hcz62_2
                try clear hcz64_0
                try clear hcz64_1
                try clear hcz64_2
                try clear hcz72_0
                try clear hcz72_1
                try clear hcz72_2
                try clear hcz76_0
                try clear hcz76_1
                try clear hcz76_2
                try clear hfz57_0
                try clear hfz57_1
                try clear hfz57_2
                try clear hfz62_0
                try clear hfz62_1
                try clear hfz62_2
                try clear hfz64_0
                try clear hfz64_1
                try clear hfz64_2
                try clear hfz72_0
                try clear hfz72_1
                try clear hfz72_2
                try clear hfz76_0
                try clear hfz76_1
                try clear hfz76_2
                try clear p2
                try clear p6
                try clear p64
                obtain ⟨x246_5, rfl, HA, HK5, HO_25, HO_244, BK347, HB⟩ := hrel
                cases gk with
                | zero => exact absurd HA.out (by simp [laws_FnWheelsAndScales.l0])
                | succ k5 =>
                 have H := HA.out
                 clear HA
                 simp only [laws_FnWheelsAndScales.l0] at H
                 by_cases c79 : x246_5 < (t368.length : Int)
                 rotate_left
                 ·as_aux_lemma =>
                  rw [if_neg c79] at H
                  have c79b0 : decide (x246_5 < (t368.length : Int)) = false := decide_eq_false c79
                  clear c79
                  have H' := Aside0.mk H
                  clear H
                  go_wp2
                  (refine Met.intro ?_; go_step; refine Cut_mk (by kernel_rfl) ?rel15)
                  case rel15 => exact ⟨_, H', ⟨by have := HJ11.out; have := HJ51.out; have := HJ60.out; have := HJ65.out; have := HK5.out; first | omega | exact Nat.le_refl _⟩, ⟨bk BK347⟩, ⟨bw HB⟩⟩
                 rw [if_pos c79] at H
                 have c79b0 : decide (x246_5 < (t368.length : Int)) = true := decide_eq_true c79
                 clear c79
                 by_cases c80 : 0 ≤ x246_5
                 rotate_left
                 ·as_aux_lemma =>
                  rw [if_neg c80] at H
                  exact absurd H (by simp)
                 rw [if_pos c80] at H
                 have c80b0 : decide (0 ≤ x246_5) = true := decide_eq_true c80
                 clear c80
                 by_cases c81 : x246_5 < (t368.length : Int)
                 rotate_left
                 ·as_aux_lemma =>
                  rw [if_neg c81] at H
                  exact absurd H (by simp)
                 as_aux_lemma =>
                 rw [if_pos c81] at H
                 have c81b0 : decide (x246_5 < (t368.length : Int)) = true := decide_eq_true c81
                 clear c81
                 replace H := Option.bind_eq_some_iff.mp H
                 obtain ⟨⟨t373, t374, t375⟩, A820, H⟩ := H
                 replace H : (if t375 = true then (if (rd t368 x246_5) > t346 then (some false) else (if t374 = 0 then (if t343 = 0 then (none) else (if t373 = (Int.tmod (wrap64 (t348 + 1)) t343) then (if x246_5 > 0 then (if 0 ≤ (wrap64 (x246_5 - 1)) then (if (wrap64 (x246_5 - 1)) < (t368.length : Int) then (if (wrap64 ((rd t368 x246_5) - (rd t368 (wrap64 (x246_5 - 1))))) = t358 then (laws_FnWheelsAndScales.l0 k5 l1 t346 t348 t358 t368 t368 (t368.length : Int) (wrap64 (x246_5 + 1)) t343 t344 t345) else (some false)) else (none)) else (none)) else (laws_FnWheelsAndScales.l0 k5 l1 t346 t348 t358 t368 t368 (t368.length : Int) (wrap64 (x246_5 + 1)) t343 t344 t345)) else (some false))) else (some false))) else (some false)) = some r := H
                 have A82 := Aside0.mk A820
                 clear A820
                 by_cases c83 : t375 = true
                 rotate_left
                 ·replace c83 := Bool.eq_false_iff.mpr c83
                  subst c83
                  have H1 : (some false) = some r := by rw [if_neg (show ¬ (false = true) by decide)] at H; exact H
                  clear H
                  have H := H1
                  clear H1
                  exact absurd ((Option.some.inj H).trans hrt.out) (by decide)
                 subst c83
                 have H1 : (if (rd t368 x246_5) > t346 then (some false) else (if t374 = 0 then (if t343 = 0 then (none) else (if t373 = (Int.tmod (wrap64 (t348 + 1)) t343) then (if x246_5 > 0 then (if 0 ≤ (wrap64 (x246_5 - 1)) then (if (wrap64 (x246_5 - 1)) < (t368.length : Int) then (if (wrap64 ((rd t368 x246_5) - (rd t368 (wrap64 (x246_5 - 1))))) = t358 then (laws_FnWheelsAndScales.l0 k5 l1 t346 t348 t358 t368 t368 (t368.length : Int) (wrap64 (x246_5 + 1)) t343 t344 t345) else (some false)) else (none)) else (none)) else (laws_FnWheelsAndScales.l0 k5 l1 t346 t348 t358 t368 t368 (t368.length : Int) (wrap64 (x246_5 + 1)) t343 t344 t345)) else (some false))) else (some false))) = some r := by rw [if_pos rfl] at H; exact H
                 clear H
                 have H := H1
                 clear H1
                 by_cases c84 : (rd t368 x246_5) > t346
                 ·as_aux_lemma =>
                  rw [if_pos c84] at H
                  have c84b0 : decide (t346 < (rd t368 x246_5)) = true := decide_eq_true c84
                  clear c84
                  exact absurd ((Option.some.inj H).trans hrt.out) (by decide)
                 rw [if_neg c84] at H
                 have c84b0 : decide (t346 < (rd t368 x246_5)) = false := decide_eq_false c84
                 clear c84
                 by_cases c85 : t374 = 0
                 rotate_left
                 ·as_aux_lemma =>
                  rw [if_neg c85] at H
                  have c85b0 : (t374 == 0) = false := beq_eq_false_iff_ne.mpr c85
                  have c85b1 : (t374 != 0) = true := bne_iff_ne.mpr c85
                  exact absurd ((Option.some.inj H).trans hrt.out) (by decide)
                 rw [if_pos c85] at H
                 have c85b0 : (t374 == 0) = true := beq_iff_eq.mpr c85
                 have c85b1 : (t374 != 0) = false := bne_eq_false_iff_eq.mpr c85
                 clear c85
                 by_cases c86 : t343 = 0
                 ·as_aux_lemma =>
                  rw [if_pos c86] at H
                  exact absurd H (by simp)
                 as_aux_lemma =>
                 rw [if_neg c86] at H
                 have c86b0 : (t343 == 0) = false := beq_eq_false_iff_ne.mpr c86
                 have c86b1 : (t343 != 0) = true := bne_iff_ne.mpr c86
                 by_cases c87 : t373 = (Int.tmod (wrap64 (t348 + 1)) t343)
                 rotate_left
                 ·as_aux_lemma =>
                  rw [if_neg c87] at H
                  have c87b0 : (t373 == (Int.tmod (wrap64 (t348 + 1)) t343)) = false := beq_eq_false_iff_ne.mpr c87
                  have c87b1 : (t373 != (Int.tmod (wrap64 (t348 + 1)) t343)) = true := bne_iff_ne.mpr c87
                  exact absurd ((Option.some.inj H).trans hrt.out) (by decide)
                 rw [if_pos c87] at H
                 have c87b0 : (t373 == (Int.tmod (wrap64 (t348 + 1)) t343)) = true := beq_iff_eq.mpr c87
                 have c87b1 : (t373 != (Int.tmod (wrap64 (t348 + 1)) t343)) = false := bne_eq_false_iff_eq.mpr c87
                 clear c87
                 by_cases c88 : x246_5 > 0
                 rotate_left
                 ·as_aux_lemma =>
                  rw [if_neg c88] at H
                  have c88b0 : decide (0 < x246_5) = false := decide_eq_false c88
                  clear c88
                  have H' := Aside0.mk H
                  clear H
                  have p372 : 0 ≤ (x246_5 : Int) := of_decide_eq_true (by first | (with_reducible assumption) | assumption)
                  have q372 : x246_5 < (t368.length : Int) := of_decide_eq_true (by first | (with_reducible assumption) | assumption)
                  obtain ⟨ad372, e372, hx372_0⟩ := Kd.at_int (Kd.R_reads' HO_244.out).2.2 x246_5 p372 q372
                  cases e372
                  replace p372 := eq_true p372
                  replace q372 := eq_true q372
                  have hcz96_0 := bc0 BK347
                  have hcz96_1 := bc1 BK347
                  have hcz96_2 := bc2 BK347
                  have hfz96_0 := blk_frozen BK347.out 0
                  have hfz96_1 := blk_frozen BK347.out 1
                  have hfz96_2 := blk_frozen BK347.out 2
                  go_wp2_with (first | ((with_reducible refine gate_callee (f := 12) rfl ?_); refine gl 254 Try.func12 #[.agg #[.int .i64 t343, .int .i64 t344, .int .i64 t345], .int .i64 (rd t368 x246_5)] ?_; (with_reducible refine (impl_WheelAfter.calls t343 t344 t345 (rd t368 x246_5) t373 t374 true _ A82.out).mono ?_); rintro e w97 ⟨rfl, hb⟩; refine ⟨_, rfl, ?_⟩; replace HO_25 := rb HO_25 hb; replace HO_244 := rb HO_244 hb; replace BK347 := bb BK347 hb; replace HB := bs HB hb; (try clear hb); have hcz98_0 := bc0 BK347; have hcz98_1 := bc1 BK347; have hcz98_2 := bc2 BK347; have hfz98_0 := blk_frozen BK347.out 0; have hfz98_1 := blk_frozen BK347.out 1; have hfz98_2 := blk_frozen BK347.out 2))
                  (refine Handed.intro k5 ?measure16 ?_; rotate_left; go_step; refine LoopI_mk (by kernel_rfl) ?rel16)
                  case measure16 => have := HJ11.out; have := HJ51.out; have := HJ60.out; have := HJ65.out; have := HK5.out; omega
                  case rel16 => exact ⟨(wrap64 (x246_5 + 1)), (by first | rfl | (simp; done) | (simp [*]; done)), H', ⟨by have := HJ11.out; have := HJ51.out; have := HJ60.out; have := HJ65.out; have := HK5.out; omega⟩, ⟨rk HO_25⟩, ⟨rk HO_244⟩, ⟨bk BK347⟩, ⟨bw HB⟩⟩
                 rw [if_pos c88] at H
                 have c88b0 : decide (0 < x246_5) = true := decide_eq_true c88
                 clear c88
                 obtain ⟨ji89, hji89⟩ : ∃ j_ : Int, (wrap64 (x246_5 - 1)) = j_ := ⟨_, rfl⟩
                 replace H : (if 0 ≤ (ji89) then (if (ji89) < (t368.length : Int) then (if (wrap64 ((rd t368 x246_5) - (rd t368 (ji89)))) = t358 then (laws_FnWheelsAndScales.l0 k5 l1 t346 t348 t358 t368 t368 (t368.length : Int) (wrap64 (x246_5 + 1)) t343 t344 t345) else (some false)) else (none)) else (none)) = some r := by first | (rw [hji89] at H; exact H) | (simp only [hji89] at H ⊢; exact H)
                 (try rw [hji89] at A82)
                 have hji89w : (IntKind.i64.wrap (x246_5 - 1)) = ji89 := (i64_w _).trans hji89
                 by_cases c90 : 0 ≤ (ji89)
                 rotate_left
                 ·as_aux_lemma =>
                  rw [if_neg c90] at H
                  exact absurd H (by simp)
                 as_aux_lemma =>
                 rw [if_pos c90] at H
                 have c90b0 : decide (0 ≤ (ji89)) = true := decide_eq_true c90
                 clear c90
                 by_cases c91 : (ji89) < (t368.length : Int)
                 rotate_left
                 ·as_aux_lemma =>
                  rw [if_neg c91] at H
                  exact absurd H (by simp)
                 rw [if_pos c91] at H
                 have c91b0 : decide ((ji89) < (t368.length : Int)) = true := decide_eq_true c91
                 clear c91
                 by_cases c92 : (wrap64 ((rd t368 x246_5) - (rd t368 (ji89)))) = t358
                 rotate_left
                 ·as_aux_lemma =>
                  rw [if_neg c92] at H
                  have c92b0 : ((wrap64 ((rd t368 x246_5) - (rd t368 (ji89)))) == t358) = false := beq_eq_false_iff_ne.mpr c92
                  have c92b1 : ((wrap64 ((rd t368 x246_5) - (rd t368 (ji89)))) != t358) = true := bne_iff_ne.mpr c92
                  exact absurd ((Option.some.inj H).trans hrt.out) (by decide)
                 rw [if_pos c92] at H
                 have c92b0 : ((wrap64 ((rd t368 x246_5) - (rd t368 (ji89)))) == t358) = true := beq_iff_eq.mpr c92
                 have c92b1 : ((wrap64 ((rd t368 x246_5) - (rd t368 (ji89)))) != t358) = false := bne_eq_false_iff_eq.mpr c92
                 clear c92
                 have H' := Aside0.mk H
                 clear H
                 have p372 : 0 ≤ (x246_5 : Int) := of_decide_eq_true (by first | (with_reducible assumption) | assumption)
                 have q372 : x246_5 < (t368.length : Int) := of_decide_eq_true (by first | (with_reducible assumption) | assumption)
                 obtain ⟨ad372, e372, hx372_0⟩ := Kd.at_int (Kd.R_reads' HO_244.out).2.2 x246_5 p372 q372
                 cases e372
                 replace p372 := eq_true p372
                 replace q372 := eq_true q372
                 have hcz93_0 := bc0 BK347
                 have hcz93_1 := bc1 BK347
                 have hcz93_2 := bc2 BK347
                 have hfz93_0 := blk_frozen BK347.out 0
                 have hfz93_1 := blk_frozen BK347.out 1
                 have hfz93_2 := blk_frozen BK347.out 2
                 go_wp2_with (first | ((with_reducible refine gate_callee (f := 12) rfl ?_); refine gl 254 Try.func12 #[.agg #[.int .i64 t343, .int .i64 t344, .int .i64 t345], .int .i64 (rd t368 x246_5)] ?_; (with_reducible refine (impl_WheelAfter.calls t343 t344 t345 (rd t368 x246_5) t373 t374 true _ A82.out).mono ?_); rintro e w94 ⟨rfl, hb⟩; refine ⟨_, rfl, ?_⟩; replace HO_25 := rb HO_25 hb; replace HO_244 := rb HO_244 hb; replace BK347 := bb BK347 hb; replace HB := bs HB hb; (try clear hb); have hcz95_0 := bc0 BK347; have hcz95_1 := bc1 BK347; have hcz95_2 := bc2 BK347; have hfz95_0 := blk_frozen BK347.out 0; have hfz95_1 := blk_frozen BK347.out 1; have hfz95_2 := blk_frozen BK347.out 2; have p376 : 0 ≤ ((ji89) : Int) := of_decide_eq_true (by first | (with_reducible assumption) | assumption); have q376 : (ji89) < (t368.length : Int) := of_decide_eq_true (by first | (with_reducible assumption) | assumption); obtain ⟨ad376, e376, hx376_0⟩ := Kd.at_int (Kd.R_reads' HO_25.out).2.2 (ji89) p376 q376; obtain rfl : ad372 = ad376 := (by injection e376); replace p376 := eq_true p376; replace q376 := eq_true q376))
                 (refine Handed.intro k5 ?measure17 ?_; rotate_left; go_step; refine LoopI_mk (by kernel_rfl) ?rel17)
                 case measure17 => have := HJ11.out; have := HJ51.out; have := HJ60.out; have := HJ65.out; have := HK5.out; omega
                 case rel17 => exact ⟨(wrap64 (x246_5 + 1)), (by first | rfl | (simp; done) | (simp [*]; done)), H', ⟨by have := HJ11.out; have := HJ51.out; have := HJ60.out; have := HJ65.out; have := HK5.out; omega⟩, ⟨rk HO_25⟩, ⟨rk HO_244⟩, ⟨bk BK347⟩, ⟨bw HB⟩⟩
    case rest4 =>
     as_aux_lemma =>
      intro u_ wc hcut l_ hl_; (simp only [rl, List.reduceReplicate, List.cons_append, List.nil_append, List.append_nil, Bool.not_true, Bool.not_false, fu, Nat.reduceAdd] at hl_); subst hl_
      clear HC50
      try clear c1
      try clear c2
      try clear p2
      try clear c3
      try clear p3
      try clear q3
      try clear hx3
      try clear c4
      try clear c5
      try clear c6
      try clear p6
      try clear c7
      try clear c8
      try clear c9
      try clear c12
      try clear c18
      try clear c19
      try clear c20
      try clear c28
      try clear c28b0
      try clear c28b1
      try clear c29
      try clear c29b0
      try clear c29b1
      try clear c31
      try clear c31b0
      try clear c31b1
      try clear c33
      try clear c33b0
      try clear c33b1
      try clear p37
      try clear q37
      try clear hx37
      try clear c40
      try clear c49
      try clear c51
      try clear c53
      try clear c53b0
      try clear c54
      try clear c54b0
      try clear c55
      try clear c55b0
      try clear c56
      try clear c56b0
      try clear c58
      try clear c59
      try clear c59b0
      try clear c59b1
      try clear c60
      try clear c60b0
      try clear c60b1
      try clear c63
      try clear c63b0
      try clear c63b1
      try clear p64
      try clear c65
      try clear c67
      try clear c67b0
      try clear c69
      try clear c70
      try clear c70b0
      try clear c70b1
      try clear c71
      try clear c71b0
      try clear c71b1
      try clear c75
      try clear c79
      try clear c79b0
      try clear c80
      try clear c80b0
      try clear c81
      try clear c81b0
      try clear c83
      try clear c84
      try clear c84b0
      try clear c85
      try clear c85b0
      try clear c85b1
      try clear c86
      try clear c86b0
      try clear c86b1
      try clear c87
      try clear c87b0
      try clear c87b1
      try clear c88
      try clear c88b0
      try clear c90
      try clear c90b0
      try clear c91
      try clear c91b0
      try clear c92
      try clear c92b0
      try clear c92b1
      try clear hcz57_0
      try clear hcz57_1
      try clear hcz57_2
      try clear hcz62_0
      try clear hcz62_1
      try clear hcz62_2
      try clear hcz64_0
      try clear hcz64_1
      try clear hcz64_2
      try clear hcz72_0
      try clear hcz72_1
      try clear hcz72_2
      try clear hcz76_0
      try clear hcz76_1
      try clear hcz76_2
      try clear hcz93_0
      try clear hcz93_1
      try clear hcz93_2
      try clear hcz95_0
      try clear hcz95_1
      try clear hcz95_2
      try clear hcz96_0
      try clear hcz96_1
      try clear hcz96_2
      try clear hcz98_0
      try clear hcz98_1
      try clear hcz98_2
      try clear hcz99_0
      try clear hcz99_1
      try clear hcz99_2
      try clear hfz57_0
      try clear hfz57_1
      try clear hfz57_2
      try clear hfz62_0
      try clear hfz62_1
      try clear hfz62_2
      try clear hfz64_0
      try clear hfz64_1
      try clear hfz64_2
      try clear hfz72_0
      try clear hfz72_1
      try clear hfz72_2
      try clear hfz76_0
      try clear hfz76_1
      try clear hfz76_2
      try clear hfz93_0
      try clear hfz93_1
      try clear hfz93_2
      try clear hfz95_0
      try clear hfz95_1
      try clear hfz95_2
      try clear hfz96_0
      try clear hfz96_1
      try clear hfz96_2
      try clear hfz98_0
      try clear hfz98_1
      try clear hfz98_2
      try clear hfz99_0
      try clear hfz99_1
      try clear hfz99_2
      try clear hx372_0
      try clear hx376_0
      try clear p2
      try clear p372
      try clear p376
      try clear p6
      try clear p64
      try clear q372
      try clear q376
      obtain ⟨kq, HA, HJ49, BK347, HB⟩ := hcut
      cases kq with
      | zero => exact absurd HA.out (by simp [laws_FnWheelsAndScales.j5])
      | succ kj49 =>
       have H := HA.out
       clear HA
       simp only [laws_FnWheelsAndScales.j5] at H
       replace H := Option.bind_eq_some_iff.mp H
       obtain ⟨⟨t377, t378, t379, t380, t381⟩, A1010, H⟩ := H
       replace H : ((impl_TimesOfScoop.f kj49 t377 t378 t379 t380 t381).bind fun bt383 => ((spec_TimesOfScoop.f kj49 t377 t378 t379 t380 t381).bind fun bt387 => ((spec_DrawScaleEvents.f l1).bind fun bt391 => ((impl_ScaleEvents.f kj49 bt391.1 bt391.2.1 bt391.2.2.1 bt391.2.2.2).bind fun bt396 => ((spec_ScaleEvents.f kj49 bt391.1 bt391.2.1 bt391.2.2.1 bt391.2.2.2).bind fun bt398 => ((spec_DrawPeriodOfScale.f l1).bind fun bt400 => ((impl_PeriodOfScale.f kj49 bt400.1 bt400.2.1 bt400.2.2).bind fun bt404 => ((spec_PeriodOfScale.f kj49 bt400.1 bt400.2.1 bt400.2.2).bind fun bt407 => (if (bt383.2 != bt387.2) = true then (laws_FnWheelsAndScales.j6 kj49 bt391.2.2.2 bt396.1 bt396.2 bt404.1 bt404.2.1 bt404.2.2 true bt391.1 bt391.2.1 bt391.2.2.1 bt400.1 bt400.2.1 bt400.2.2) else ((laws_eSame.f kj49 bt383.1 bt387.1).bind fun t410 => (if t410 = true then (if (bt396.2 != bt398.2) = true then (laws_FnWheelsAndScales.j6 kj49 bt391.2.2.2 bt396.1 bt396.2 bt404.1 bt404.2.1 bt404.2.2 true bt391.1 bt391.2.1 bt391.2.2.1 bt400.1 bt400.2.1 bt400.2.2) else (if bt396.1.toList = bt398.1.toList then (if (bt404.2.2 != bt407.2.2) = true then (laws_FnWheelsAndScales.j6 kj49 bt391.2.2.2 bt396.1 bt396.2 bt404.1 bt404.2.1 bt404.2.2 true bt391.1 bt391.2.1 bt391.2.2.1 bt400.1 bt400.2.1 bt400.2.2) else (if bt404.1 = bt407.1 then (if bt404.2.1 = bt407.2.1 then (if bt404.2.2 = true then (if bt404.2.1 < 0 then (laws_FnWheelsAndScales.j6 kj49 bt391.2.2.2 bt396.1 bt396.2 bt404.1 bt404.2.1 bt404.2.2 true bt391.1 bt391.2.1 bt391.2.2.1 bt400.1 bt400.2.1 bt400.2.2) else (laws_FnWheelsAndScales.j6 kj49 bt391.2.2.2 bt396.1 bt396.2 bt404.1 bt404.2.1 bt404.2.2 (decide (bt404.2.1 ≥ bt404.1)) bt391.1 bt391.2.1 bt391.2.2.1 bt400.1 bt400.2.1 bt400.2.2)) else (laws_FnWheelsAndScales.j6 kj49 bt391.2.2.2 bt396.1 bt396.2 bt404.1 bt404.2.1 bt404.2.2 false bt391.1 bt391.2.1 bt391.2.2.1 bt400.1 bt400.2.1 bt400.2.2)) else (laws_FnWheelsAndScales.j6 kj49 bt391.2.2.2 bt396.1 bt396.2 bt404.1 bt404.2.1 bt404.2.2 true bt391.1 bt391.2.1 bt391.2.2.1 bt400.1 bt400.2.1 bt400.2.2)) else (laws_FnWheelsAndScales.j6 kj49 bt391.2.2.2 bt396.1 bt396.2 bt404.1 bt404.2.1 bt404.2.2 true bt391.1 bt391.2.1 bt391.2.2.1 bt400.1 bt400.2.1 bt400.2.2))) else (laws_FnWheelsAndScales.j6 kj49 bt391.2.2.2 bt396.1 bt396.2 bt404.1 bt404.2.1 bt404.2.2 true bt391.1 bt391.2.1 bt391.2.2.1 bt400.1 bt400.2.1 bt400.2.2))) else (laws_FnWheelsAndScales.j6 kj49 bt391.2.2.2 bt396.1 bt396.2 bt404.1 bt404.2.1 bt404.2.2 true bt391.1 bt391.2.1 bt391.2.2.1 bt400.1 bt400.2.1 bt400.2.2)))))))))))) = some r := H
       have A101 := Aside0.mk A1010
       clear A1010
       replace H := Option.bind_eq_some_iff.mp H
       obtain ⟨⟨t383, t386⟩, A1020, H⟩ := H
       replace H : ((spec_TimesOfScoop.f kj49 t377 t378 t379 t380 t381).bind fun bt387 => ((spec_DrawScaleEvents.f l1).bind fun bt391 => ((impl_ScaleEvents.f kj49 bt391.1 bt391.2.1 bt391.2.2.1 bt391.2.2.2).bind fun bt396 => ((spec_ScaleEvents.f kj49 bt391.1 bt391.2.1 bt391.2.2.1 bt391.2.2.2).bind fun bt398 => ((spec_DrawPeriodOfScale.f l1).bind fun bt400 => ((impl_PeriodOfScale.f kj49 bt400.1 bt400.2.1 bt400.2.2).bind fun bt404 => ((spec_PeriodOfScale.f kj49 bt400.1 bt400.2.1 bt400.2.2).bind fun bt407 => (if (t386 != bt387.2) = true then (laws_FnWheelsAndScales.j6 kj49 bt391.2.2.2 bt396.1 bt396.2 bt404.1 bt404.2.1 bt404.2.2 true bt391.1 bt391.2.1 bt391.2.2.1 bt400.1 bt400.2.1 bt400.2.2) else ((laws_eSame.f kj49 t383 bt387.1).bind fun t410 => (if t410 = true then (if (bt396.2 != bt398.2) = true then (laws_FnWheelsAndScales.j6 kj49 bt391.2.2.2 bt396.1 bt396.2 bt404.1 bt404.2.1 bt404.2.2 true bt391.1 bt391.2.1 bt391.2.2.1 bt400.1 bt400.2.1 bt400.2.2) else (if bt396.1.toList = bt398.1.toList then (if (bt404.2.2 != bt407.2.2) = true then (laws_FnWheelsAndScales.j6 kj49 bt391.2.2.2 bt396.1 bt396.2 bt404.1 bt404.2.1 bt404.2.2 true bt391.1 bt391.2.1 bt391.2.2.1 bt400.1 bt400.2.1 bt400.2.2) else (if bt404.1 = bt407.1 then (if bt404.2.1 = bt407.2.1 then (if bt404.2.2 = true then (if bt404.2.1 < 0 then (laws_FnWheelsAndScales.j6 kj49 bt391.2.2.2 bt396.1 bt396.2 bt404.1 bt404.2.1 bt404.2.2 true bt391.1 bt391.2.1 bt391.2.2.1 bt400.1 bt400.2.1 bt400.2.2) else (laws_FnWheelsAndScales.j6 kj49 bt391.2.2.2 bt396.1 bt396.2 bt404.1 bt404.2.1 bt404.2.2 (decide (bt404.2.1 ≥ bt404.1)) bt391.1 bt391.2.1 bt391.2.2.1 bt400.1 bt400.2.1 bt400.2.2)) else (laws_FnWheelsAndScales.j6 kj49 bt391.2.2.2 bt396.1 bt396.2 bt404.1 bt404.2.1 bt404.2.2 false bt391.1 bt391.2.1 bt391.2.2.1 bt400.1 bt400.2.1 bt400.2.2)) else (laws_FnWheelsAndScales.j6 kj49 bt391.2.2.2 bt396.1 bt396.2 bt404.1 bt404.2.1 bt404.2.2 true bt391.1 bt391.2.1 bt391.2.2.1 bt400.1 bt400.2.1 bt400.2.2)) else (laws_FnWheelsAndScales.j6 kj49 bt391.2.2.2 bt396.1 bt396.2 bt404.1 bt404.2.1 bt404.2.2 true bt391.1 bt391.2.1 bt391.2.2.1 bt400.1 bt400.2.1 bt400.2.2))) else (laws_FnWheelsAndScales.j6 kj49 bt391.2.2.2 bt396.1 bt396.2 bt404.1 bt404.2.1 bt404.2.2 true bt391.1 bt391.2.1 bt391.2.2.1 bt400.1 bt400.2.1 bt400.2.2))) else (laws_FnWheelsAndScales.j6 kj49 bt391.2.2.2 bt396.1 bt396.2 bt404.1 bt404.2.1 bt404.2.2 true bt391.1 bt391.2.1 bt391.2.2.1 bt400.1 bt400.2.1 bt400.2.2))))))))))) = some r := H
       have A102 := Aside0.mk A1020
       clear A1020
       replace H := Option.bind_eq_some_iff.mp H
       obtain ⟨⟨t387, t390⟩, A1030, H⟩ := H
       replace H : ((spec_DrawScaleEvents.f l1).bind fun bt391 => ((impl_ScaleEvents.f kj49 bt391.1 bt391.2.1 bt391.2.2.1 bt391.2.2.2).bind fun bt396 => ((spec_ScaleEvents.f kj49 bt391.1 bt391.2.1 bt391.2.2.1 bt391.2.2.2).bind fun bt398 => ((spec_DrawPeriodOfScale.f l1).bind fun bt400 => ((impl_PeriodOfScale.f kj49 bt400.1 bt400.2.1 bt400.2.2).bind fun bt404 => ((spec_PeriodOfScale.f kj49 bt400.1 bt400.2.1 bt400.2.2).bind fun bt407 => (if (t386 != t390) = true then (laws_FnWheelsAndScales.j6 kj49 bt391.2.2.2 bt396.1 bt396.2 bt404.1 bt404.2.1 bt404.2.2 true bt391.1 bt391.2.1 bt391.2.2.1 bt400.1 bt400.2.1 bt400.2.2) else ((laws_eSame.f kj49 t383 t387).bind fun t410 => (if t410 = true then (if (bt396.2 != bt398.2) = true then (laws_FnWheelsAndScales.j6 kj49 bt391.2.2.2 bt396.1 bt396.2 bt404.1 bt404.2.1 bt404.2.2 true bt391.1 bt391.2.1 bt391.2.2.1 bt400.1 bt400.2.1 bt400.2.2) else (if bt396.1.toList = bt398.1.toList then (if (bt404.2.2 != bt407.2.2) = true then (laws_FnWheelsAndScales.j6 kj49 bt391.2.2.2 bt396.1 bt396.2 bt404.1 bt404.2.1 bt404.2.2 true bt391.1 bt391.2.1 bt391.2.2.1 bt400.1 bt400.2.1 bt400.2.2) else (if bt404.1 = bt407.1 then (if bt404.2.1 = bt407.2.1 then (if bt404.2.2 = true then (if bt404.2.1 < 0 then (laws_FnWheelsAndScales.j6 kj49 bt391.2.2.2 bt396.1 bt396.2 bt404.1 bt404.2.1 bt404.2.2 true bt391.1 bt391.2.1 bt391.2.2.1 bt400.1 bt400.2.1 bt400.2.2) else (laws_FnWheelsAndScales.j6 kj49 bt391.2.2.2 bt396.1 bt396.2 bt404.1 bt404.2.1 bt404.2.2 (decide (bt404.2.1 ≥ bt404.1)) bt391.1 bt391.2.1 bt391.2.2.1 bt400.1 bt400.2.1 bt400.2.2)) else (laws_FnWheelsAndScales.j6 kj49 bt391.2.2.2 bt396.1 bt396.2 bt404.1 bt404.2.1 bt404.2.2 false bt391.1 bt391.2.1 bt391.2.2.1 bt400.1 bt400.2.1 bt400.2.2)) else (laws_FnWheelsAndScales.j6 kj49 bt391.2.2.2 bt396.1 bt396.2 bt404.1 bt404.2.1 bt404.2.2 true bt391.1 bt391.2.1 bt391.2.2.1 bt400.1 bt400.2.1 bt400.2.2)) else (laws_FnWheelsAndScales.j6 kj49 bt391.2.2.2 bt396.1 bt396.2 bt404.1 bt404.2.1 bt404.2.2 true bt391.1 bt391.2.1 bt391.2.2.1 bt400.1 bt400.2.1 bt400.2.2))) else (laws_FnWheelsAndScales.j6 kj49 bt391.2.2.2 bt396.1 bt396.2 bt404.1 bt404.2.1 bt404.2.2 true bt391.1 bt391.2.1 bt391.2.2.1 bt400.1 bt400.2.1 bt400.2.2))) else (laws_FnWheelsAndScales.j6 kj49 bt391.2.2.2 bt396.1 bt396.2 bt404.1 bt404.2.1 bt404.2.2 true bt391.1 bt391.2.1 bt391.2.2.1 bt400.1 bt400.2.1 bt400.2.2)))))))))) = some r := H
       have A103 := Aside0.mk A1030
       clear A1030
       replace H := Option.bind_eq_some_iff.mp H
       obtain ⟨⟨t391, t392, t393, t394⟩, A1040, H⟩ := H
       replace H : ((impl_ScaleEvents.f kj49 t391 t392 t393 t394).bind fun bt396 => ((spec_ScaleEvents.f kj49 t391 t392 t393 t394).bind fun bt398 => ((spec_DrawPeriodOfScale.f l1).bind fun bt400 => ((impl_PeriodOfScale.f kj49 bt400.1 bt400.2.1 bt400.2.2).bind fun bt404 => ((spec_PeriodOfScale.f kj49 bt400.1 bt400.2.1 bt400.2.2).bind fun bt407 => (if (t386 != t390) = true then (laws_FnWheelsAndScales.j6 kj49 t394 bt396.1 bt396.2 bt404.1 bt404.2.1 bt404.2.2 true t391 t392 t393 bt400.1 bt400.2.1 bt400.2.2) else ((laws_eSame.f kj49 t383 t387).bind fun t410 => (if t410 = true then (if (bt396.2 != bt398.2) = true then (laws_FnWheelsAndScales.j6 kj49 t394 bt396.1 bt396.2 bt404.1 bt404.2.1 bt404.2.2 true t391 t392 t393 bt400.1 bt400.2.1 bt400.2.2) else (if bt396.1.toList = bt398.1.toList then (if (bt404.2.2 != bt407.2.2) = true then (laws_FnWheelsAndScales.j6 kj49 t394 bt396.1 bt396.2 bt404.1 bt404.2.1 bt404.2.2 true t391 t392 t393 bt400.1 bt400.2.1 bt400.2.2) else (if bt404.1 = bt407.1 then (if bt404.2.1 = bt407.2.1 then (if bt404.2.2 = true then (if bt404.2.1 < 0 then (laws_FnWheelsAndScales.j6 kj49 t394 bt396.1 bt396.2 bt404.1 bt404.2.1 bt404.2.2 true t391 t392 t393 bt400.1 bt400.2.1 bt400.2.2) else (laws_FnWheelsAndScales.j6 kj49 t394 bt396.1 bt396.2 bt404.1 bt404.2.1 bt404.2.2 (decide (bt404.2.1 ≥ bt404.1)) t391 t392 t393 bt400.1 bt400.2.1 bt400.2.2)) else (laws_FnWheelsAndScales.j6 kj49 t394 bt396.1 bt396.2 bt404.1 bt404.2.1 bt404.2.2 false t391 t392 t393 bt400.1 bt400.2.1 bt400.2.2)) else (laws_FnWheelsAndScales.j6 kj49 t394 bt396.1 bt396.2 bt404.1 bt404.2.1 bt404.2.2 true t391 t392 t393 bt400.1 bt400.2.1 bt400.2.2)) else (laws_FnWheelsAndScales.j6 kj49 t394 bt396.1 bt396.2 bt404.1 bt404.2.1 bt404.2.2 true t391 t392 t393 bt400.1 bt400.2.1 bt400.2.2))) else (laws_FnWheelsAndScales.j6 kj49 t394 bt396.1 bt396.2 bt404.1 bt404.2.1 bt404.2.2 true t391 t392 t393 bt400.1 bt400.2.1 bt400.2.2))) else (laws_FnWheelsAndScales.j6 kj49 t394 bt396.1 bt396.2 bt404.1 bt404.2.1 bt404.2.2 true t391 t392 t393 bt400.1 bt400.2.1 bt400.2.2))))))))) = some r := H
       have A104 := Aside0.mk A1040
       clear A1040
       replace H := Option.bind_eq_some_iff.mp H
       obtain ⟨⟨t396, t397⟩, A1050, H⟩ := H
       replace H : ((spec_ScaleEvents.f kj49 t391 t392 t393 t394).bind fun bt398 => ((spec_DrawPeriodOfScale.f l1).bind fun bt400 => ((impl_PeriodOfScale.f kj49 bt400.1 bt400.2.1 bt400.2.2).bind fun bt404 => ((spec_PeriodOfScale.f kj49 bt400.1 bt400.2.1 bt400.2.2).bind fun bt407 => (if (t386 != t390) = true then (laws_FnWheelsAndScales.j6 kj49 t394 t396 t397 bt404.1 bt404.2.1 bt404.2.2 true t391 t392 t393 bt400.1 bt400.2.1 bt400.2.2) else ((laws_eSame.f kj49 t383 t387).bind fun t410 => (if t410 = true then (if (t397 != bt398.2) = true then (laws_FnWheelsAndScales.j6 kj49 t394 t396 t397 bt404.1 bt404.2.1 bt404.2.2 true t391 t392 t393 bt400.1 bt400.2.1 bt400.2.2) else (if t396.toList = bt398.1.toList then (if (bt404.2.2 != bt407.2.2) = true then (laws_FnWheelsAndScales.j6 kj49 t394 t396 t397 bt404.1 bt404.2.1 bt404.2.2 true t391 t392 t393 bt400.1 bt400.2.1 bt400.2.2) else (if bt404.1 = bt407.1 then (if bt404.2.1 = bt407.2.1 then (if bt404.2.2 = true then (if bt404.2.1 < 0 then (laws_FnWheelsAndScales.j6 kj49 t394 t396 t397 bt404.1 bt404.2.1 bt404.2.2 true t391 t392 t393 bt400.1 bt400.2.1 bt400.2.2) else (laws_FnWheelsAndScales.j6 kj49 t394 t396 t397 bt404.1 bt404.2.1 bt404.2.2 (decide (bt404.2.1 ≥ bt404.1)) t391 t392 t393 bt400.1 bt400.2.1 bt400.2.2)) else (laws_FnWheelsAndScales.j6 kj49 t394 t396 t397 bt404.1 bt404.2.1 bt404.2.2 false t391 t392 t393 bt400.1 bt400.2.1 bt400.2.2)) else (laws_FnWheelsAndScales.j6 kj49 t394 t396 t397 bt404.1 bt404.2.1 bt404.2.2 true t391 t392 t393 bt400.1 bt400.2.1 bt400.2.2)) else (laws_FnWheelsAndScales.j6 kj49 t394 t396 t397 bt404.1 bt404.2.1 bt404.2.2 true t391 t392 t393 bt400.1 bt400.2.1 bt400.2.2))) else (laws_FnWheelsAndScales.j6 kj49 t394 t396 t397 bt404.1 bt404.2.1 bt404.2.2 true t391 t392 t393 bt400.1 bt400.2.1 bt400.2.2))) else (laws_FnWheelsAndScales.j6 kj49 t394 t396 t397 bt404.1 bt404.2.1 bt404.2.2 true t391 t392 t393 bt400.1 bt400.2.1 bt400.2.2)))))))) = some r := H
       have A105 := Aside0.mk A1050
       clear A1050
       replace H := Option.bind_eq_some_iff.mp H
       obtain ⟨⟨t398, t399⟩, A1060, H⟩ := H
       replace H : ((spec_DrawPeriodOfScale.f l1).bind fun bt400 => ((impl_PeriodOfScale.f kj49 bt400.1 bt400.2.1 bt400.2.2).bind fun bt404 => ((spec_PeriodOfScale.f kj49 bt400.1 bt400.2.1 bt400.2.2).bind fun bt407 => (if (t386 != t390) = true then (laws_FnWheelsAndScales.j6 kj49 t394 t396 t397 bt404.1 bt404.2.1 bt404.2.2 true t391 t392 t393 bt400.1 bt400.2.1 bt400.2.2) else ((laws_eSame.f kj49 t383 t387).bind fun t410 => (if t410 = true then (if (t397 != t399) = true then (laws_FnWheelsAndScales.j6 kj49 t394 t396 t397 bt404.1 bt404.2.1 bt404.2.2 true t391 t392 t393 bt400.1 bt400.2.1 bt400.2.2) else (if t396.toList = t398.toList then (if (bt404.2.2 != bt407.2.2) = true then (laws_FnWheelsAndScales.j6 kj49 t394 t396 t397 bt404.1 bt404.2.1 bt404.2.2 true t391 t392 t393 bt400.1 bt400.2.1 bt400.2.2) else (if bt404.1 = bt407.1 then (if bt404.2.1 = bt407.2.1 then (if bt404.2.2 = true then (if bt404.2.1 < 0 then (laws_FnWheelsAndScales.j6 kj49 t394 t396 t397 bt404.1 bt404.2.1 bt404.2.2 true t391 t392 t393 bt400.1 bt400.2.1 bt400.2.2) else (laws_FnWheelsAndScales.j6 kj49 t394 t396 t397 bt404.1 bt404.2.1 bt404.2.2 (decide (bt404.2.1 ≥ bt404.1)) t391 t392 t393 bt400.1 bt400.2.1 bt400.2.2)) else (laws_FnWheelsAndScales.j6 kj49 t394 t396 t397 bt404.1 bt404.2.1 bt404.2.2 false t391 t392 t393 bt400.1 bt400.2.1 bt400.2.2)) else (laws_FnWheelsAndScales.j6 kj49 t394 t396 t397 bt404.1 bt404.2.1 bt404.2.2 true t391 t392 t393 bt400.1 bt400.2.1 bt400.2.2)) else (laws_FnWheelsAndScales.j6 kj49 t394 t396 t397 bt404.1 bt404.2.1 bt404.2.2 true t391 t392 t393 bt400.1 bt400.2.1 bt400.2.2))) else (laws_FnWheelsAndScales.j6 kj49 t394 t396 t397 bt404.1 bt404.2.1 bt404.2.2 true t391 t392 t393 bt400.1 bt400.2.1 bt400.2.2))) else (laws_FnWheelsAndScales.j6 kj49 t394 t396 t397 bt404.1 bt404.2.1 bt404.2.2 true t391 t392 t393 bt400.1 bt400.2.1 bt400.2.2))))))) = some r := H
       have A106 := Aside0.mk A1060
       clear A1060
       replace H := Option.bind_eq_some_iff.mp H
       obtain ⟨⟨t400, t401, t402⟩, A1070, H⟩ := H
       replace H : ((impl_PeriodOfScale.f kj49 t400 t401 t402).bind fun bt404 => ((spec_PeriodOfScale.f kj49 t400 t401 t402).bind fun bt407 => (if (t386 != t390) = true then (laws_FnWheelsAndScales.j6 kj49 t394 t396 t397 bt404.1 bt404.2.1 bt404.2.2 true t391 t392 t393 t400 t401 t402) else ((laws_eSame.f kj49 t383 t387).bind fun t410 => (if t410 = true then (if (t397 != t399) = true then (laws_FnWheelsAndScales.j6 kj49 t394 t396 t397 bt404.1 bt404.2.1 bt404.2.2 true t391 t392 t393 t400 t401 t402) else (if t396.toList = t398.toList then (if (bt404.2.2 != bt407.2.2) = true then (laws_FnWheelsAndScales.j6 kj49 t394 t396 t397 bt404.1 bt404.2.1 bt404.2.2 true t391 t392 t393 t400 t401 t402) else (if bt404.1 = bt407.1 then (if bt404.2.1 = bt407.2.1 then (if bt404.2.2 = true then (if bt404.2.1 < 0 then (laws_FnWheelsAndScales.j6 kj49 t394 t396 t397 bt404.1 bt404.2.1 bt404.2.2 true t391 t392 t393 t400 t401 t402) else (laws_FnWheelsAndScales.j6 kj49 t394 t396 t397 bt404.1 bt404.2.1 bt404.2.2 (decide (bt404.2.1 ≥ bt404.1)) t391 t392 t393 t400 t401 t402)) else (laws_FnWheelsAndScales.j6 kj49 t394 t396 t397 bt404.1 bt404.2.1 bt404.2.2 false t391 t392 t393 t400 t401 t402)) else (laws_FnWheelsAndScales.j6 kj49 t394 t396 t397 bt404.1 bt404.2.1 bt404.2.2 true t391 t392 t393 t400 t401 t402)) else (laws_FnWheelsAndScales.j6 kj49 t394 t396 t397 bt404.1 bt404.2.1 bt404.2.2 true t391 t392 t393 t400 t401 t402))) else (laws_FnWheelsAndScales.j6 kj49 t394 t396 t397 bt404.1 bt404.2.1 bt404.2.2 true t391 t392 t393 t400 t401 t402))) else (laws_FnWheelsAndScales.j6 kj49 t394 t396 t397 bt404.1 bt404.2.1 bt404.2.2 true t391 t392 t393 t400 t401 t402)))))) = some r := H
       have A107 := Aside0.mk A1070
       clear A1070
       replace H := Option.bind_eq_some_iff.mp H
       obtain ⟨⟨t404, t405, t406⟩, A1080, H⟩ := H
       replace H : ((spec_PeriodOfScale.f kj49 t400 t401 t402).bind fun bt407 => (if (t386 != t390) = true then (laws_FnWheelsAndScales.j6 kj49 t394 t396 t397 t404 t405 t406 true t391 t392 t393 t400 t401 t402) else ((laws_eSame.f kj49 t383 t387).bind fun t410 => (if t410 = true then (if (t397 != t399) = true then (laws_FnWheelsAndScales.j6 kj49 t394 t396 t397 t404 t405 t406 true t391 t392 t393 t400 t401 t402) else (if t396.toList = t398.toList then (if (t406 != bt407.2.2) = true then (laws_FnWheelsAndScales.j6 kj49 t394 t396 t397 t404 t405 t406 true t391 t392 t393 t400 t401 t402) else (if t404 = bt407.1 then (if t405 = bt407.2.1 then (if t406 = true then (if t405 < 0 then (laws_FnWheelsAndScales.j6 kj49 t394 t396 t397 t404 t405 t406 true t391 t392 t393 t400 t401 t402) else (laws_FnWheelsAndScales.j6 kj49 t394 t396 t397 t404 t405 t406 (decide (t405 ≥ t404)) t391 t392 t393 t400 t401 t402)) else (laws_FnWheelsAndScales.j6 kj49 t394 t396 t397 t404 t405 t406 false t391 t392 t393 t400 t401 t402)) else (laws_FnWheelsAndScales.j6 kj49 t394 t396 t397 t404 t405 t406 true t391 t392 t393 t400 t401 t402)) else (laws_FnWheelsAndScales.j6 kj49 t394 t396 t397 t404 t405 t406 true t391 t392 t393 t400 t401 t402))) else (laws_FnWheelsAndScales.j6 kj49 t394 t396 t397 t404 t405 t406 true t391 t392 t393 t400 t401 t402))) else (laws_FnWheelsAndScales.j6 kj49 t394 t396 t397 t404 t405 t406 true t391 t392 t393 t400 t401 t402))))) = some r := H
       have A108 := Aside0.mk A1080
       clear A1080
       replace H := Option.bind_eq_some_iff.mp H
       obtain ⟨⟨t407, t408, t409⟩, A1090, H⟩ := H
       replace H : (if (t386 != t390) = true then (laws_FnWheelsAndScales.j6 kj49 t394 t396 t397 t404 t405 t406 true t391 t392 t393 t400 t401 t402) else ((laws_eSame.f kj49 t383 t387).bind fun t410 => (if t410 = true then (if (t397 != t399) = true then (laws_FnWheelsAndScales.j6 kj49 t394 t396 t397 t404 t405 t406 true t391 t392 t393 t400 t401 t402) else (if t396.toList = t398.toList then (if (t406 != t409) = true then (laws_FnWheelsAndScales.j6 kj49 t394 t396 t397 t404 t405 t406 true t391 t392 t393 t400 t401 t402) else (if t404 = t407 then (if t405 = t408 then (if t406 = true then (if t405 < 0 then (laws_FnWheelsAndScales.j6 kj49 t394 t396 t397 t404 t405 t406 true t391 t392 t393 t400 t401 t402) else (laws_FnWheelsAndScales.j6 kj49 t394 t396 t397 t404 t405 t406 (decide (t405 ≥ t404)) t391 t392 t393 t400 t401 t402)) else (laws_FnWheelsAndScales.j6 kj49 t394 t396 t397 t404 t405 t406 false t391 t392 t393 t400 t401 t402)) else (laws_FnWheelsAndScales.j6 kj49 t394 t396 t397 t404 t405 t406 true t391 t392 t393 t400 t401 t402)) else (laws_FnWheelsAndScales.j6 kj49 t394 t396 t397 t404 t405 t406 true t391 t392 t393 t400 t401 t402))) else (laws_FnWheelsAndScales.j6 kj49 t394 t396 t397 t404 t405 t406 true t391 t392 t393 t400 t401 t402))) else (laws_FnWheelsAndScales.j6 kj49 t394 t396 t397 t404 t405 t406 true t391 t392 t393 t400 t401 t402)))) = some r := H
       have A109 := Aside0.mk A1090
       clear A1090
       have HC110 := Aside0.mk H
       clear H
       go_upto_region 40 with (first | ((with_reducible refine gate_callee (f := 21) rfl ?_); refine gl 296 Try.func21 #[.slice A1 l1.length c1] ?_; (with_reducible refine (spec_DrawTimesOfScoop.calls _ _ l1 t377 t378 t379 t380 t381 _ ?side1 ?side2 A101.out).mono ?_); (case side1 => exact ck HR1 HB); (case side2 => exact HC1.out); rintro e w111 ⟨rfl, hb⟩; refine ⟨_, rfl, ?_⟩; replace BK347 := bb BK347 hb; replace HB := bs HB hb; (try clear hb)) | ((with_reducible refine gate_dst (N := 32) rfl ?_); refine bx 32 #[.int .i64 0, .int .i64 0, .int .i64 0] 25 ?_; intro gb382 hg w112 hbox hb; have BK382 := Aside0.mk (hbox); have GW382 := ge HB hg; have GE382 := ge HB hg; replace HB := bs HB hb; have NB347_382 := nl BK347 hg; have NB382_347 := nr BK347 hg; replace BK347 := bb BK347 hb; clear hb hbox hg; have hnb113 := NB382_347.out; have hnc113 := NB347_382.out; have hcz114_0 := bc0 BK382; have hcz114_1 := bc1 BK382; have hcz114_2 := bc2 BK382; have hfz114_0 := blk_frozen BK382.out 0; have hfz114_1 := blk_frozen BK382.out 1; have hfz114_2 := blk_frozen BK382.out 2) | ((with_reducible refine gate_callee (f := 20) rfl ?_); refine gl 304 Try.func20 #[.agg #[.int .i64 t377, .int .i64 t378, .int .i64 t379], .int .i64 t380, .int .i64 t381] ?_; (with_reducible refine (impl_TimesOfScoop.calls kj49 t377 t378 t379 t380 t381 t383 t386 _ A102.out).mono ?_); rintro e w115 ⟨v384, rfl, ho0, hb⟩; refine ⟨_, rfl, ?_⟩; have HO385 := lo ho0 HB; replace BK347 := bb BK347 hb; replace BK382 := Aside0.mk (blk_below (g := gb382) (o := .cells #[.int .i64 t377, .int .i64 t378, .int .i64 t379] 25 (0, 0)) (by (with_reducible repeat (first | refine blk_drewN ?_ _ | refine blk_drew ?_ | refine blk_alloc ?_ _)); refine blk_put (cs := #[.int .i64 t377, .int .i64 t378, .int .i64 0]) ?_ 2 _ rfl; (with_reducible repeat (first | refine blk_drewN ?_ _ | refine blk_drew ?_ | refine blk_alloc ?_ _)); refine blk_put (cs := #[.int .i64 t377, .int .i64 0, .int .i64 0]) ?_ 1 _ rfl; (with_reducible repeat (first | refine blk_drewN ?_ _ | refine blk_drew ?_ | refine blk_alloc ?_ _)); refine blk_put (cs := #[.int .i64 0, .int .i64 0, .int .i64 0]) ?_ 0 _ rfl; exact bk BK382) hb); replace HB := bs HB hb; (try clear hb); (try clear ho0); have hcz116_0 := bc0 BK382; have hcz116_1 := bc1 BK382; have hcz116_2 := bc2 BK382; have hfz116_0 := blk_frozen BK382.out 0; have hfz116_1 := blk_frozen BK382.out 1; have hfz116_2 := blk_frozen BK382.out 2) | ((with_reducible refine gate_callee (f := 22) rfl ?_); refine gl 311 Try.func22 #[.agg #[.int .i64 t377, .int .i64 t378, .int .i64 t379], .int .i64 t380, .int .i64 t381] ?_; (with_reducible refine (spec_TimesOfScoop.calls kj49 t377 t378 t379 t380 t381 t387 t390 _ A103.out).mono ?_); rintro e w117 ⟨v388, rfl, ho0, hb⟩; refine ⟨_, rfl, ?_⟩; have HO389 := Aside0.mk (Kd.R_lower (Kd.R_new' ho0 (Kd.R_lt (rk HO385))) (below_size (bw HB))); replace HO385 := Aside0.mk (Kd.R_elder' (rk HO385) (Kd.R_base ho0) hb); replace BK347 := bb BK347 hb; replace BK382 := bb BK382 hb; replace HB := bs HB hb; (try clear hb); (try clear ho0)) | ((with_reducible refine gate_callee (f := 23) rfl ?_); refine gl 316 Try.func23 #[.slice A1 l1.length c1] ?_; (with_reducible refine (spec_DrawScaleEvents.calls _ _ l1 t391 t392 t393 t394 _ ?side1 ?side2 A104.out).mono ?_); (case side1 => exact ck HR1 HB); (case side2 => exact HC1.out); rintro e w118 ⟨rfl, hb⟩; refine ⟨_, rfl, ?_⟩; replace HO385 := rb HO385 hb; replace HO389 := rb HO389 hb; replace BK347 := bb BK347 hb; replace BK382 := bb BK382 hb; replace HB := bs HB hb; (try clear hb)) | ((with_reducible refine gate_dst (N := 39) rfl ?_); refine bx 39 #[.int .i64 0, .int .i64 0, .int .i64 0] 40 ?_; intro gb395 hg w119 hbox hb; replace HO385 := rb HO385 hb; replace HO389 := rb HO389 hb; have BK395 := Aside0.mk (hbox); have GW395 := ge HB hg; have GE395 := ge HB hg; replace HB := bs HB hb; have NB347_395 := nl BK347 hg; have NB395_347 := nr BK347 hg; replace BK347 := bb BK347 hb; have NB382_395 := nl BK382 hg; have NB395_382 := nr BK382 hg; replace BK382 := bb BK382 hb; clear hb hbox hg; have hnb120 := NB395_347.out; have hnc120 := NB347_395.out; have hnb121 := NB395_382.out; have hnc121 := NB382_395.out; have hcz122_0 := bc0 BK395; have hcz122_1 := bc1 BK395; have hcz122_2 := bc2 BK395; have hfz122_0 := blk_frozen BK395.out 0; have hfz122_1 := blk_frozen BK395.out 1; have hfz122_2 := blk_frozen BK395.out 2) | ((with_reducible refine gate_callee (f := 24) rfl ?_); refine gl 322 Try.func24 #[.agg #[.int .i64 t391, .int .i64 t392, .int .i64 t393], .int .i64 t394] ?_; (with_reducible refine (impl_ScaleEvents.calls kj49 t391 t392 t393 t394 t396 t397 _ A105.out).mono ?_); rintro e w123 ⟨rfl, hb⟩; refine ⟨_, rfl, ?_⟩; replace HO385 := Aside0.mk (Kd.R_below (by (with_reducible repeat (first | apply Kd.R_alloc | apply Kd.R_drewN | apply Kd.R_drew)); exact (Kd.R_mono (Kd.R_far (p := ⟨gb395, 2, none⟩) (Kd.R_far (p := ⟨gb395, 1, none⟩) (Kd.R_far (p := ⟨gb395, 0, none⟩) (Kd.R_types HO385.out BK395.out (by decide)) (fun _ hk => hk.2) (.int .i64 t391)) (fun _ hk => hk.2) (.int .i64 t392)) (fun _ hk => hk.2) (.int .i64 t393)) (fun _ h_ => h_.1))) hb); replace HO389 := Aside0.mk (Kd.R_below (by (with_reducible repeat (first | apply Kd.R_alloc | apply Kd.R_drewN | apply Kd.R_drew)); exact (Kd.R_mono (Kd.R_far (p := ⟨gb395, 2, none⟩) (Kd.R_far (p := ⟨gb395, 1, none⟩) (Kd.R_far (p := ⟨gb395, 0, none⟩) (Kd.R_types HO389.out BK395.out (by decide)) (fun _ hk => hk.2) (.int .i64 t391)) (fun _ hk => hk.2) (.int .i64 t392)) (fun _ hk => hk.2) (.int .i64 t393)) (fun _ h_ => h_.1))) hb); replace BK347 := bb BK347 hb; replace BK382 := bb BK382 hb; replace BK395 := Aside0.mk (blk_below (g := gb395) (o := .cells #[.int .i64 t391, .int .i64 t392, .int .i64 t393] 40 (0, 0)) (by (with_reducible repeat (first | refine blk_drewN ?_ _ | refine blk_drew ?_ | refine blk_alloc ?_ _)); refine blk_put (cs := #[.int .i64 t391, .int .i64 t392, .int .i64 0]) ?_ 2 _ rfl; (with_reducible repeat (first | refine blk_drewN ?_ _ | refine blk_drew ?_ | refine blk_alloc ?_ _)); refine blk_put (cs := #[.int .i64 t391, .int .i64 0, .int .i64 0]) ?_ 1 _ rfl; (with_reducible repeat (first | refine blk_drewN ?_ _ | refine blk_drew ?_ | refine blk_alloc ?_ _)); refine blk_put (cs := #[.int .i64 0, .int .i64 0, .int .i64 0]) ?_ 0 _ rfl; exact bk BK395) hb); replace HB := bs HB hb; (try clear hb); have hcz124_0 := bc0 BK395; have hcz124_1 := bc1 BK395; have hcz124_2 := bc2 BK395; have hfz124_0 := blk_frozen BK395.out 0; have hfz124_1 := blk_frozen BK395.out 1; have hfz124_2 := blk_frozen BK395.out 2) | ((with_reducible refine gate_callee (f := 25) rfl ?_); refine gl 328 Try.func25 #[.agg #[.int .i64 t391, .int .i64 t392, .int .i64 t393], .int .i64 t394] ?_; (with_reducible refine (spec_ScaleEvents.calls kj49 t391 t392 t393 t394 t398 t399 _ A106.out).mono ?_); rintro e w125 ⟨rfl, hb⟩; refine ⟨_, rfl, ?_⟩; replace HO385 := rb HO385 hb; replace HO389 := rb HO389 hb; replace BK347 := bb BK347 hb; replace BK382 := bb BK382 hb; replace BK395 := bb BK395 hb; replace HB := bs HB hb; (try clear hb)) | ((with_reducible refine gate_callee (f := 26) rfl ?_); refine gl 332 Try.func26 #[.slice A1 l1.length c1] ?_; (with_reducible refine (spec_DrawPeriodOfScale.calls _ _ l1 t400 t401 t402 _ ?side1 ?side2 A107.out).mono ?_); (case side1 => exact ck HR1 HB); (case side2 => exact HC1.out); rintro e w126 ⟨rfl, hb⟩; refine ⟨_, rfl, ?_⟩; replace HO385 := rb HO385 hb; replace HO389 := rb HO389 hb; replace BK347 := bb BK347 hb; replace BK382 := bb BK382 hb; replace BK395 := bb BK395 hb; replace HB := bs HB hb; (try clear hb)) | ((with_reducible refine gate_dst (N := 45) rfl ?_); refine bx 45 #[.int .i64 0, .int .i64 0, .int .i64 0] 40 ?_; intro gb403 hg w127 hbox hb; replace HO385 := rb HO385 hb; replace HO389 := rb HO389 hb; have BK403 := Aside0.mk (hbox); have GW403 := ge HB hg; have GE403 := ge HB hg; replace HB := bs HB hb; have NB347_403 := nl BK347 hg; have NB403_347 := nr BK347 hg; replace BK347 := bb BK347 hb; have NB382_403 := nl BK382 hg; have NB403_382 := nr BK382 hg; replace BK382 := bb BK382 hb; have NB395_403 := nl BK395 hg; have NB403_395 := nr BK395 hg; replace BK395 := bb BK395 hb; clear hb hbox hg; have hnb128 := NB403_347.out; have hnc128 := NB347_403.out; have hnb129 := NB403_382.out; have hnc129 := NB382_403.out; have hnb130 := NB403_395.out; have hnc130 := NB395_403.out; have hcz131_0 := bc0 BK403; have hcz131_1 := bc1 BK403; have hcz131_2 := bc2 BK403; have hfz131_0 := blk_frozen BK403.out 0; have hfz131_1 := blk_frozen BK403.out 1; have hfz131_2 := blk_frozen BK403.out 2) | ((with_reducible refine gate_callee (f := 27) rfl ?_); refine gl 335 Try.func27 #[.agg #[.int .i64 t400, .int .i64 t401, .int .i64 t402]] ?_; (with_reducible refine (impl_PeriodOfScale.calls kj49 t400 t401 t402 t404 t405 t406 _ A108.out).mono ?_); rintro e w132 ⟨rfl, hb⟩; refine ⟨_, rfl, ?_⟩; replace HO385 := Aside0.mk (Kd.R_below (by (with_reducible repeat (first | apply Kd.R_alloc | apply Kd.R_drewN | apply Kd.R_drew)); exact (Kd.R_mono (Kd.R_far (p := ⟨gb403, 2, none⟩) (Kd.R_far (p := ⟨gb403, 1, none⟩) (Kd.R_far (p := ⟨gb403, 0, none⟩) (Kd.R_types HO385.out BK403.out (by decide)) (fun _ hk => hk.2) (.int .i64 t400)) (fun _ hk => hk.2) (.int .i64 t401)) (fun _ hk => hk.2) (.int .i64 t402)) (fun _ h_ => h_.1))) hb); replace HO389 := Aside0.mk (Kd.R_below (by (with_reducible repeat (first | apply Kd.R_alloc | apply Kd.R_drewN | apply Kd.R_drew)); exact (Kd.R_mono (Kd.R_far (p := ⟨gb403, 2, none⟩) (Kd.R_far (p := ⟨gb403, 1, none⟩) (Kd.R_far (p := ⟨gb403, 0, none⟩) (Kd.R_types HO389.out BK403.out (by decide)) (fun _ hk => hk.2) (.int .i64 t400)) (fun _ hk => hk.2) (.int .i64 t401)) (fun _ hk => hk.2) (.int .i64 t402)) (fun _ h_ => h_.1))) hb); replace BK347 := bb BK347 hb; replace BK382 := bb BK382 hb; replace BK395 := bb BK395 hb; replace BK403 := Aside0.mk (blk_below (g := gb403) (o := .cells #[.int .i64 t400, .int .i64 t401, .int .i64 t402] 40 (0, 0)) (by (with_reducible repeat (first | refine blk_drewN ?_ _ | refine blk_drew ?_ | refine blk_alloc ?_ _)); refine blk_put (cs := #[.int .i64 t400, .int .i64 t401, .int .i64 0]) ?_ 2 _ rfl; (with_reducible repeat (first | refine blk_drewN ?_ _ | refine blk_drew ?_ | refine blk_alloc ?_ _)); refine blk_put (cs := #[.int .i64 t400, .int .i64 0, .int .i64 0]) ?_ 1 _ rfl; (with_reducible repeat (first | refine blk_drewN ?_ _ | refine blk_drew ?_ | refine blk_alloc ?_ _)); refine blk_put (cs := #[.int .i64 0, .int .i64 0, .int .i64 0]) ?_ 0 _ rfl; exact bk BK403) hb); replace HB := bs HB hb; (try clear hb); have hcz133_0 := bc0 BK403; have hcz133_1 := bc1 BK403; have hcz133_2 := bc2 BK403; have hfz133_0 := blk_frozen BK403.out 0; have hfz133_1 := blk_frozen BK403.out 1; have hfz133_2 := blk_frozen BK403.out 2) | ((with_reducible refine gate_callee (f := 28) rfl ?_); refine gl 341 Try.func28 #[.agg #[.int .i64 t400, .int .i64 t401, .int .i64 t402]] ?_; (with_reducible refine (spec_PeriodOfScale.calls kj49 t400 t401 t402 t407 t408 t409 _ A109.out).mono ?_); rintro e w134 ⟨rfl, hb⟩; refine ⟨_, rfl, ?_⟩; replace HO385 := rb HO385 hb; replace HO389 := rb HO389 hb; replace BK347 := bb BK347 hb; replace BK382 := bb BK382 hb; replace BK395 := bb BK395 hb; replace BK403 := bb BK403 hb; replace HB := bs HB hb; (try clear hb)))
       (try simp only [Act.put, List.setIfInBounds_toArray, List.set_cons_zero, List.set_cons_succ])
       refine cutF (rl [59, 185, 3, 223] false) (fun u_ wc => ∃ (kq : Nat) (x390_109 : Bool), (u_ 390) = .bool x390_109 ∧ Aside0 (laws_FnWheelsAndScales.j6 kq t394 t396 t397 t404 t405 t406 x390_109 t391 t392 t393 t400 t401 t402 = some r) ∧ Aside0 (kq ≤ kj49) ∧ Aside0 (wc.heap[gb347]? = some (.cells #[.int .i64 t343, .int .i64 t344, .int .i64 t345] 25 (0, 0))) ∧ Aside0 (wc.heap[gb382]? = some (.cells #[.int .i64 t377, .int .i64 t378, .int .i64 t379] 25 (0, 0))) ∧ Aside0 (wc.heap[gb395]? = some (.cells #[.int .i64 t391, .int .i64 t392, .int .i64 t393] 40 (0, 0))) ∧ Aside0 (wc.heap[gb403]? = some (.cells #[.int .i64 t400, .int .i64 t401, .int .i64 t402] 40 (0, 0))) ∧ Aside0 (Below w.heap.size w wc)) ?first18 ?rest18
       case first18 =>
        as_aux_lemma =>
         intro J_ K_ hJ_ hK_
         have H := HC110.out
         clear HC110
         by_cases c135 : (t386 != t390) = true
         ·rw [if_pos c135] at H
          have c135b0 : (t386 != t390) = true := c135
          (try (have c135b1 : decide (t386 = t390) = false := by simpa using c135))
          (try (have c135b2 : (t386 == t390) = false := by simpa using c135))
          (try (have c135b3 : ¬ (t386 = t390) := by simpa using c135))
          clear c135
          (first | rw [c135b0] | (simp only [i64_w, i32_w]; rw [c135b0]) | skip)
          exact absurd H (by rw [hrt.out]; cases kj49 <;> simp [laws_FnWheelsAndScales.j6])
         rw [if_neg c135] at H
         have c135b0 : (t386 != t390) = false := by simpa using c135
         (try (have c135b1 : decide (t386 = t390) = true := by simpa using c135))
         (try (have c135b2 : (t386 == t390) = true := by simpa using c135))
         clear c135
         (first | rw [c135b0] | (simp only [i64_w, i32_w]; rw [c135b0]) | skip)
         replace H := Option.bind_eq_some_iff.mp H
         obtain ⟨t410, A1360, H⟩ := H
         replace H : (if t410 = true then (if (t397 != t399) = true then (laws_FnWheelsAndScales.j6 kj49 t394 t396 t397 t404 t405 t406 true t391 t392 t393 t400 t401 t402) else (if t396.toList = t398.toList then (if (t406 != t409) = true then (laws_FnWheelsAndScales.j6 kj49 t394 t396 t397 t404 t405 t406 true t391 t392 t393 t400 t401 t402) else (if t404 = t407 then (if t405 = t408 then (if t406 = true then (if t405 < 0 then (laws_FnWheelsAndScales.j6 kj49 t394 t396 t397 t404 t405 t406 true t391 t392 t393 t400 t401 t402) else (laws_FnWheelsAndScales.j6 kj49 t394 t396 t397 t404 t405 t406 (decide (t405 ≥ t404)) t391 t392 t393 t400 t401 t402)) else (laws_FnWheelsAndScales.j6 kj49 t394 t396 t397 t404 t405 t406 false t391 t392 t393 t400 t401 t402)) else (laws_FnWheelsAndScales.j6 kj49 t394 t396 t397 t404 t405 t406 true t391 t392 t393 t400 t401 t402)) else (laws_FnWheelsAndScales.j6 kj49 t394 t396 t397 t404 t405 t406 true t391 t392 t393 t400 t401 t402))) else (laws_FnWheelsAndScales.j6 kj49 t394 t396 t397 t404 t405 t406 true t391 t392 t393 t400 t401 t402))) else (laws_FnWheelsAndScales.j6 kj49 t394 t396 t397 t404 t405 t406 true t391 t392 t393 t400 t401 t402)) = some r := H
         have A136 := Aside0.mk A1360
         clear A1360
         by_cases c137 : t410 = true
         rotate_left
         ·replace c137 := Bool.eq_false_iff.mpr c137
          subst c137
          have H1 : (laws_FnWheelsAndScales.j6 kj49 t394 t396 t397 t404 t405 t406 true t391 t392 t393 t400 t401 t402) = some r := by rw [if_neg (show ¬ (false = true) by decide)] at H; exact H
          clear H
          have H := H1
          clear H1
          exact absurd H (by rw [hrt.out]; cases kj49 <;> simp [laws_FnWheelsAndScales.j6])
         subst c137
         have H1 : (if (t397 != t399) = true then (laws_FnWheelsAndScales.j6 kj49 t394 t396 t397 t404 t405 t406 true t391 t392 t393 t400 t401 t402) else (if t396.toList = t398.toList then (if (t406 != t409) = true then (laws_FnWheelsAndScales.j6 kj49 t394 t396 t397 t404 t405 t406 true t391 t392 t393 t400 t401 t402) else (if t404 = t407 then (if t405 = t408 then (if t406 = true then (if t405 < 0 then (laws_FnWheelsAndScales.j6 kj49 t394 t396 t397 t404 t405 t406 true t391 t392 t393 t400 t401 t402) else (laws_FnWheelsAndScales.j6 kj49 t394 t396 t397 t404 t405 t406 (decide (t405 ≥ t404)) t391 t392 t393 t400 t401 t402)) else (laws_FnWheelsAndScales.j6 kj49 t394 t396 t397 t404 t405 t406 false t391 t392 t393 t400 t401 t402)) else (laws_FnWheelsAndScales.j6 kj49 t394 t396 t397 t404 t405 t406 true t391 t392 t393 t400 t401 t402)) else (laws_FnWheelsAndScales.j6 kj49 t394 t396 t397 t404 t405 t406 true t391 t392 t393 t400 t401 t402))) else (laws_FnWheelsAndScales.j6 kj49 t394 t396 t397 t404 t405 t406 true t391 t392 t393 t400 t401 t402))) = some r := by rw [if_pos rfl] at H; exact H
         clear H
         have H := H1
         clear H1
         by_cases c138 : (t397 != t399) = true
         ·rw [if_pos c138] at H
          have c138b0 : (t397 != t399) = true := c138
          (try (have c138b1 : decide (t397 = t399) = false := by simpa using c138))
          (try (have c138b2 : (t397 == t399) = false := by simpa using c138))
          (try (have c138b3 : ¬ (t397 = t399) := by simpa using c138))
          clear c138
          exact absurd H (by rw [hrt.out]; cases kj49 <;> simp [laws_FnWheelsAndScales.j6])
         rw [if_neg c138] at H
         have c138b0 : (t397 != t399) = false := by simpa using c138
         (try (have c138b1 : decide (t397 = t399) = true := by simpa using c138))
         (try (have c138b2 : (t397 == t399) = true := by simpa using c138))
         clear c138
         by_cases c139 : t396.toList = t398.toList
         rotate_left
         ·rw [if_neg c139] at H
          have c139b0 : (t396.toList == t398.toList) = false := beq_eq_false_iff_ne.mpr c139
          have c139b1 : (t396.toList != t398.toList) = true := bne_iff_ne.mpr c139
          exact absurd H (by rw [hrt.out]; cases kj49 <;> simp [laws_FnWheelsAndScales.j6])
         rw [if_pos c139] at H
         have c139b0 : (t396.toList == t398.toList) = true := beq_iff_eq.mpr c139
         have c139b1 : (t396.toList != t398.toList) = false := bne_eq_false_iff_eq.mpr c139
         clear c139
         by_cases c140 : (t406 != t409) = true
         ·rw [if_pos c140] at H
          have c140b0 : (t406 != t409) = true := c140
          (try (have c140b1 : decide (t406 = t409) = false := by simpa using c140))
          (try (have c140b2 : (t406 == t409) = false := by simpa using c140))
          (try (have c140b3 : ¬ (t406 = t409) := by simpa using c140))
          clear c140
          exact absurd H (by rw [hrt.out]; cases kj49 <;> simp [laws_FnWheelsAndScales.j6])
         rw [if_neg c140] at H
         have c140b0 : (t406 != t409) = false := by simpa using c140
         (try (have c140b1 : decide (t406 = t409) = true := by simpa using c140))
         (try (have c140b2 : (t406 == t409) = true := by simpa using c140))
         clear c140
         by_cases c141 : t404 = t407
         rotate_left
         ·rw [if_neg c141] at H
          have c141b0 : (t404 == t407) = false := beq_eq_false_iff_ne.mpr c141
          have c141b1 : (t404 != t407) = true := bne_iff_ne.mpr c141
          exact absurd H (by rw [hrt.out]; cases kj49 <;> simp [laws_FnWheelsAndScales.j6])
         rw [if_pos c141] at H
         have c141b0 : (t404 == t407) = true := beq_iff_eq.mpr c141
         have c141b1 : (t404 != t407) = false := bne_eq_false_iff_eq.mpr c141
         clear c141
         by_cases c142 : t405 = t408
         rotate_left
         ·rw [if_neg c142] at H
          have c142b0 : (t405 == t408) = false := beq_eq_false_iff_ne.mpr c142
          have c142b1 : (t405 != t408) = true := bne_iff_ne.mpr c142
          exact absurd H (by rw [hrt.out]; cases kj49 <;> simp [laws_FnWheelsAndScales.j6])
         rw [if_pos c142] at H
         have c142b0 : (t405 == t408) = true := beq_iff_eq.mpr c142
         have c142b1 : (t405 != t408) = false := bne_eq_false_iff_eq.mpr c142
         clear c142
         by_cases c143 : t406 = true
         rotate_left
         ·replace c143 := Bool.eq_false_iff.mpr c143
          subst c143
          have H1 : (laws_FnWheelsAndScales.j6 kj49 t394 t396 t397 t404 t405 false false t391 t392 t393 t400 t401 t402) = some r := by rw [if_neg (show ¬ (false = true) by decide)] at H; exact H
          clear H
          have H := H1
          clear H1
          have H' := Aside0.mk H
          clear H
          obtain ⟨Ao147, co147, eo147⟩ := Kd.R_slice HO385.out
          subst eo147
          obtain ⟨Ao148, co148, eo148⟩ := Kd.R_slice HO389.out
          subst eo148
          go_wp2_with (first | (go_at_call 29; (with_reducible refine (laws_eSame.calls kj49 _ _ t383 _ _ t387 true _ ?side1 ?side2 ?side3 ?side4 A136.out).mono ?_); (case side1 => exact cr HO385); (case side2 => exact (Kd.R_reads' HO385.out).2.1); (case side3 => exact cr HO389); (case side4 => exact (Kd.R_reads' HO389.out).2.1); rintro e w' ⟨rfl, ⟨nd, rfl⟩⟩))
          (refine Met.intro ?_; go_step; refine Cut_mk (by kernel_rfl) ?rel19)
          case rel19 => exact ⟨_, (false), (by first | rfl | (simp; done) | (simp [*]; done)), H', ⟨by have := HJ11.out; have := HJ49.out; first | omega | exact Nat.le_refl _⟩, ⟨bk BK347⟩, ⟨bk BK382⟩, ⟨bk BK395⟩, ⟨bk BK403⟩, ⟨bw HB⟩⟩
         subst c143
         have H1 : (if t405 < 0 then (laws_FnWheelsAndScales.j6 kj49 t394 t396 t397 t404 t405 true true t391 t392 t393 t400 t401 t402) else (laws_FnWheelsAndScales.j6 kj49 t394 t396 t397 t404 t405 true (decide (t405 ≥ t404)) t391 t392 t393 t400 t401 t402)) = some r := by rw [if_pos rfl] at H; exact H
         clear H
         have H := H1
         clear H1
         by_cases c144 : t405 < 0
         ·rw [if_pos c144] at H
          have c144b0 : decide (t405 < 0) = true := decide_eq_true c144
          clear c144
          exact absurd H (by rw [hrt.out]; cases kj49 <;> simp [laws_FnWheelsAndScales.j6])
         rw [if_neg c144] at H
         have c144b0 : decide (t405 < 0) = false := decide_eq_false c144
         clear c144
         have H' := Aside0.mk H
         clear H
         obtain ⟨Ao145, co145, eo145⟩ := Kd.R_slice HO385.out
         subst eo145
         obtain ⟨Ao146, co146, eo146⟩ := Kd.R_slice HO389.out
         subst eo146
         go_wp2_with (first | (go_at_call 29; (with_reducible refine (laws_eSame.calls kj49 _ _ t383 _ _ t387 true _ ?side1 ?side2 ?side3 ?side4 A136.out).mono ?_); (case side1 => exact cr HO385); (case side2 => exact (Kd.R_reads' HO385.out).2.1); (case side3 => exact cr HO389); (case side4 => exact (Kd.R_reads' HO389.out).2.1); rintro e w' ⟨rfl, ⟨nd, rfl⟩⟩))
         (refine Met.intro ?_; go_step; refine Cut_mk (by kernel_rfl) ?rel20)
         case rel20 => exact ⟨_, (decide (t405 ≥ t404)), (by first | rfl | (simp; done) | (simp [*]; done)), H', ⟨by have := HJ11.out; have := HJ49.out; first | omega | exact Nat.le_refl _⟩, ⟨bk BK347⟩, ⟨bk BK382⟩, ⟨bk BK395⟩, ⟨bk BK403⟩, ⟨bw HB⟩⟩
       case rest18 =>
        as_aux_lemma =>
         intro u_ wc hcut l_ hl_; (simp only [rl, List.reduceReplicate, List.cons_append, List.nil_append, List.append_nil, Bool.not_true, Bool.not_false, fu, Nat.reduceAdd] at hl_); subst hl_; generalize u_ 390 = v390 at hcut ⊢
         clear HC110
         try clear c1
         try clear c2
         try clear p2
         try clear c3
         try clear p3
         try clear q3
         try clear hx3
         try clear c4
         try clear c5
         try clear c6
         try clear p6
         try clear c7
         try clear c8
         try clear c9
         try clear c11
         try clear c12
         try clear c13
         try clear c14
         try clear c18
         try clear c19
         try clear c20
         try clear c21
         try clear c22
         try clear c23
         try clear c24
         try clear c25
         try clear c26
         try clear c27
         try clear c28
         try clear c28b0
         try clear c28b1
         try clear c29
         try clear c29b0
         try clear c29b1
         try clear c31
         try clear c31b0
         try clear c31b1
         try clear c33
         try clear c33b0
         try clear c33b1
         try clear p37
         try clear q37
         try clear hx37
         try clear c40
         try clear c49
         try clear c51
         try clear c53
         try clear c53b0
         try clear c54
         try clear c54b0
         try clear c55
         try clear c55b0
         try clear c56
         try clear c56b0
         try clear c58
         try clear c59
         try clear c59b0
         try clear c59b1
         try clear c60
         try clear c60b0
         try clear c60b1
         try clear c63
         try clear c63b0
         try clear c63b1
         try clear p64
         try clear c65
         try clear c67
         try clear c67b0
         try clear c69
         try clear c70
         try clear c70b0
         try clear c70b1
         try clear c71
         try clear c71b0
         try clear c71b1
         try clear c75
         try clear c79
         try clear c79b0
         try clear c80
         try clear c80b0
         try clear c81
         try clear c81b0
         try clear c83
         try clear c84
         try clear c84b0
         try clear c85
         try clear c85b0
         try clear c85b1
         try clear c86
         try clear c86b0
         try clear c86b1
         try clear c87
         try clear c87b0
         try clear c87b1
         try clear c88
         try clear c88b0
         try clear c90
         try clear c90b0
         try clear c91
         try clear c91b0
         try clear c92
         try clear c92b0
         try clear c92b1
         try clear c113
         try clear c120
         try clear c121
         try clear c128
         try clear c129
         try clear c130
         try clear c135
         try clear c135b0
         try clear c135b1
         try clear c135b2
         try clear c137
         try clear c138
         try clear c138b0
         try clear c138b1
         try clear c138b2
         try clear c139
         try clear c139b0
         try clear c139b1
         try clear c140
         try clear c140b0
         try clear c140b1
         try clear c140b2
         try clear c141
         try clear c141b0
         try clear c141b1
         try clear c142
         try clear c142b0
         try clear c142b1
         try clear c143
         try clear c144
         try clear c144b0
         try clear hcz114_0
         try clear hcz114_1
         try clear hcz114_2
         try clear hcz116_0
         try clear hcz116_1
         try clear hcz116_2
         try clear hcz122_0
         try clear hcz122_1
         try clear hcz122_2
         try clear hcz124_0
         try clear hcz124_1
         try clear hcz124_2
         try clear hcz131_0
         try clear hcz131_1
         try clear hcz131_2
         try clear hcz133_0
         try clear hcz133_1
         try clear hcz133_2
         try clear hcz57_0
         try clear hcz57_1
         try clear hcz57_2
         try clear hcz62_0
         try clear hcz62_1
         try clear hcz62_2
         try clear hcz64_0
         try clear hcz64_1
         try clear hcz64_2
         try clear hcz72_0
         try clear hcz72_1
         try clear hcz72_2
         try clear hcz76_0
         try clear hcz76_1
         try clear hcz76_2
         try clear hcz93_0
         try clear hcz93_1
         try clear hcz93_2
         try clear hcz95_0
         try clear hcz95_1
         try clear hcz95_2
         try clear hcz96_0
         try clear hcz96_1
         try clear hcz96_2
         try clear hcz98_0
         try clear hcz98_1
         try clear hcz98_2
         try clear hcz99_0
         try clear hcz99_1
         try clear hcz99_2
         try clear hfz114_0
         try clear hfz114_1
         try clear hfz114_2
         try clear hfz116_0
         try clear hfz116_1
         try clear hfz116_2
         try clear hfz122_0
         try clear hfz122_1
         try clear hfz122_2
         try clear hfz124_0
         try clear hfz124_1
         try clear hfz124_2
         try clear hfz131_0
         try clear hfz131_1
         try clear hfz131_2
         try clear hfz133_0
         try clear hfz133_1
         try clear hfz133_2
         try clear hfz57_0
         try clear hfz57_1
         try clear hfz57_2
         try clear hfz62_0
         try clear hfz62_1
         try clear hfz62_2
         try clear hfz64_0
         try clear hfz64_1
         try clear hfz64_2
         try clear hfz72_0
         try clear hfz72_1
         try clear hfz72_2
         try clear hfz76_0
         try clear hfz76_1
         try clear hfz76_2
         try clear hfz93_0
         try clear hfz93_1
         try clear hfz93_2
         try clear hfz95_0
         try clear hfz95_1
         try clear hfz95_2
         try clear hfz96_0
         try clear hfz96_1
         try clear hfz96_2
         try clear hfz98_0
         try clear hfz98_1
         try clear hfz98_2
         try clear hfz99_0
         try clear hfz99_1
         try clear hfz99_2
         try clear hx372_0
         try clear hx376_0
         try clear p2
         try clear p3
         try clear p37
         try clear p372
         try clear p376
         try clear p6
         try clear p64
         try clear q3
         try clear q37
         try clear q372
         try clear q376
         obtain ⟨kq, x390_109, rfl, HA, HJ109, BK347, BK382, BK395, BK403, HB⟩ := hcut
         cases kq with
         | zero => exact absurd HA.out (by simp [laws_FnWheelsAndScales.j6])
         | succ kj109 =>
          have H := HA.out
          clear HA
          simp only [laws_FnWheelsAndScales.j6] at H
          by_cases c149 : x390_109 = true
          ·subst c149
           have H1 : (some false) = some r := by rw [if_pos rfl] at H; exact H
           clear H
           have H := H1
           clear H1
           exact absurd ((Option.some.inj H).trans hrt.out) (by decide)
          replace c149 := Bool.eq_false_iff.mpr c149
          subst c149
          have H1 : (if t397 = true then (if (t396.size : Int) = t394 then (laws_FnWheelsAndScales.l1 kj109 t396 t404 t405 t406 0 0 0 t391 t392 t393 t400 t401 t402) else (some false)) else (laws_FnWheelsAndScales.j8 kj109 t404 t405 t406 t400 t401 t402)) = some r := by rw [if_neg (show ¬ (false = true) by decide)] at H; exact H
          clear H
          have H := H1
          clear H1
          have HC150 := Aside0.mk H
          clear H
          go_upto_if 391 with (fail)
          refine cutF (rl [4, 1, 47, 4, 3, 185, 3, 223] false) (fun u_ wc => ∃ (kq : Nat), Aside0 (laws_FnWheelsAndScales.j8 kq t404 t405 t406 t400 t401 t402 = some r) ∧ Aside0 (kq ≤ kj109) ∧ Aside0 (wc.heap[gb347]? = some (.cells #[.int .i64 t343, .int .i64 t344, .int .i64 t345] 25 (0, 0))) ∧ Aside0 (wc.heap[gb382]? = some (.cells #[.int .i64 t377, .int .i64 t378, .int .i64 t379] 25 (0, 0))) ∧ Aside0 (wc.heap[gb395]? = some (.cells #[.int .i64 t391, .int .i64 t392, .int .i64 t393] 40 (0, 0))) ∧ Aside0 (wc.heap[gb403]? = some (.cells #[.int .i64 t400, .int .i64 t401, .int .i64 t402] 40 (0, 0))) ∧ Aside0 (Below w.heap.size w wc)) ?first21 ?rest21
          case first21 =>
           as_aux_lemma =>
            intro J_ K_ hJ_ hK_
            have H := HC150.out
            clear HC150
            by_cases c151 : t397 = true
            rotate_left
            ·replace c151 := Bool.eq_false_iff.mpr c151
             subst c151
             have H1 : (laws_FnWheelsAndScales.j8 kj109 t404 t405 t406 t400 t401 t402) = some r := by rw [if_neg (show ¬ (false = true) by decide)] at H; exact H
             clear H
             have H := H1
             clear H1
             have H' := Aside0.mk H
             clear H
             go_wp2
             (refine Met.intro ?_; go_step; refine Cut_mk (by kernel_rfl) ?rel22)
             case rel22 => exact ⟨_, H', ⟨by have := HJ11.out; have := HJ49.out; have := HJ109.out; first | omega | exact Nat.le_refl _⟩, ⟨bk BK347⟩, ⟨bk BK382⟩, ⟨bk BK395⟩, ⟨bk BK403⟩, ⟨bw HB⟩⟩
            subst c151
            have H1 : (if (t396.size : Int) = t394 then (laws_FnWheelsAndScales.l1 kj109 t396 t404 t405 t406 0 0 0 t391 t392 t393 t400 t401 t402) else (some false)) = some r := by rw [if_pos rfl] at H; exact H
            clear H
            have H := H1
            clear H1
            by_cases c152 : (t396.size : Int) = t394
            rotate_left
            ·rw [if_neg c152] at H
             have c152b0 : ((t396.size : Int) == t394) = false := beq_eq_false_iff_ne.mpr c152
             have c152b1 : ((t396.size : Int) != t394) = true := bne_iff_ne.mpr c152
             (first | rw [c152b0] | (simp only [i64_w, i32_w]; rw [c152b0]) | skip)
             exact absurd ((Option.some.inj H).trans hrt.out) (by decide)
            rw [if_pos c152] at H
            have c152b0 : ((t396.size : Int) == t394) = true := beq_iff_eq.mpr c152
            have c152b1 : ((t396.size : Int) != t394) = false := bne_eq_false_iff_eq.mpr c152
            clear c152
            (first | rw [c152b0] | (simp only [i64_w, i32_w]; rw [c152b0]) | skip)
            have H' := Aside0.mk H
            clear H
            go_wp2
            try simp only [Act.put, List.setIfInBounds_toArray, List.set_cons_zero, List.set_cons_succ]
            refine loopF (rl [4, 1, 47, 4, 340, 33, 41] false) kj109 (fun kq u_ w' => ∃ (x52_4 : Int) (x53_4 : Int) (x54_4 : Int), (u_ 52) = .int .i64 x52_4 ∧ (u_ 53) = .int .i64 x53_4 ∧ (u_ 54) = .int .i64 x54_4 ∧ Aside0 (laws_FnWheelsAndScales.l1 kq t396 t404 t405 t406 x52_4 x53_4 x54_4 t391 t392 t393 t400 t401 t402 = some r) ∧ Aside0 (kq ≤ kj109) ∧ Aside0 (w'.heap[gb347]? = some (.cells #[.int .i64 t343, .int .i64 t344, .int .i64 t345] 25 (0, 0))) ∧ Aside0 (w'.heap[gb382]? = some (.cells #[.int .i64 t377, .int .i64 t378, .int .i64 t379] 25 (0, 0))) ∧ Aside0 (w'.heap[gb395]? = some (.cells #[.int .i64 t391, .int .i64 t392, .int .i64 t393] 40 (0, 0))) ∧ Aside0 (w'.heap[gb403]? = some (.cells #[.int .i64 t400, .int .i64 t401, .int .i64 t402] 40 (0, 0))) ∧ Aside0 (Below w.heap.size w w')) ?atStart23 ?round23
            case atStart23 => exact ⟨(0), (0), (0), (by first | rfl | (simp; done) | (simp [*]; done)), (by first | rfl | (simp; done) | (simp [*]; done)), (by first | rfl | (simp; done) | (simp [*]; done)), H', ⟨Nat.le_refl _⟩, ⟨bk BK347⟩, ⟨bk BK382⟩, ⟨bk BK395⟩, ⟨bk BK403⟩, ⟨bw HB⟩⟩
            case round23 =>
             intro gk u_ wr hrel l_ hl_; (simp only [rl, List.reduceReplicate, List.cons_append, List.nil_append, List.append_nil, Bool.not_true, Bool.not_false, fu, Nat.reduceAdd] at hl_); subst hl_; generalize u_ 52 = v52 at hrel ⊢; generalize u_ 53 = v53 at hrel ⊢; generalize u_ 54 = v54 at hrel ⊢
             intro J_ K_ hJ_ hK_
             clear H'
             try clear c1
             try clear c2
             try clear p2
             try clear c3
             try clear p3
             try clear q3
             try clear hx3
             try clear c4
             try clear c5
             try clear c6
             try clear p6
             try clear c7
             try clear c8
             try clear c9
             try clear c11
             try clear c12
             try clear c13
             try clear c14
             try clear c15
             try clear c18
             try clear c19
             try clear c20
             try clear c21
             try clear c22
             try clear c23
             try clear c24
             try clear c25
             try clear c26
             try clear c27
             try clear c28
             try clear c28b0
             try clear c28b1
             try clear c29
             try clear c29b0
             try clear c29b1
             try clear c31
             try clear c31b0
             try clear c31b1
             try clear c33
             try clear c33b0
             try clear c33b1
             try clear p37
             try clear q37
             try clear hx37
             try clear c40
             try clear c49
             try clear c51
             try clear c53
             try clear c53b0
             try clear c54
             try clear c54b0
             try clear c55
             try clear c55b0
             try clear c56
             try clear c56b0
             try clear c58
             try clear c59
             try clear c59b0
             try clear c59b1
             try clear c60
             try clear c60b0
             try clear c60b1
             try clear c63
             try clear c63b0
             try clear c63b1
             try clear p64
             try clear c65
             try clear c67
             try clear c67b0
             try clear c69
             try clear c70
             try clear c70b0
             try clear c70b1
             try clear c71
             try clear c71b0
             try clear c71b1
             try clear c75
             try clear c79
             try clear c79b0
             try clear c80
             try clear c80b0
             try clear c81
             try clear c81b0
             try clear c83
             try clear c84
             try clear c84b0
             try clear c85
             try clear c85b0
             try clear c85b1
             try clear c86
             try clear c86b0
             try clear c86b1
             try clear c87
             try clear c87b0
             try clear c87b1
             try clear c88
             try clear c88b0
             try clear c90
             try clear c90b0
             try clear c91
             try clear c91b0
             try clear c92
             try clear c92b0
             try clear c92b1
             try clear c113
             try clear c120
             try clear c121
             try clear c128
             try clear c129
             try clear c130
             try clear c135
             try clear c135b0
             try clear c135b1
             try clear c135b2
             try clear c137
             try clear c138
             try clear c138b0
             try clear c138b1
             try clear c138b2
             try clear c139
             try clear c139b0
             try clear c139b1
             try clear c140
             try clear c140b0
             try clear c140b1
             try clear c140b2
             try clear c141
             try clear c141b0
             try clear c141b1
             try clear c142
             try clear c142b0
             try clear c142b1
             try clear c143
             try clear c144
             try clear c144b0
             try clear c149
             try clear c151
             try clear c152
             try clear c152b0
             try clear c152b1
             try clear hcz114_0
             try clear hcz114_1
             try clear hcz114_2
             try clear hcz116_0
             try clear hcz116_1
             try clear hcz116_2
             try clear hcz122_0
             try clear hcz122_1
             try clear hcz122_2
             try clear hcz124_0
             try clear hcz124_1
             try clear hcz124_2
             try clear hcz131_0
             try clear hcz131_1
             try clear hcz131_2
             try clear hcz133_0
             try clear hcz133_1
             try clear hcz133_2
             try clear hcz57_0
             try clear hcz57_1
             try clear hcz57_2
             try clear hcz62_0
             try clear hcz62_1
             try clear hcz62_2
             try clear hcz64_0
             try clear hcz64_1
             try clear hcz64_2
             try clear hcz72_0
             try clear hcz72_1
             try clear hcz72_2
             try clear hcz76_0
             try clear hcz76_1
             try clear hcz76_2
             try clear hcz93_0
             try clear hcz93_1
             try clear hcz93_2
             try clear hcz95_0
             try clear hcz95_1
             try clear hcz95_2
             try clear hcz96_0
             try clear hcz96_1
             try clear hcz96_2
             try clear hcz98_0
             try clear hcz98_1
             try clear hcz98_2
             try clear hcz99_0
             try clear hcz99_1
             try clear hcz99_2
             try clear hfz114_0
             try clear hfz114_1
             try clear hfz114_2
             try clear hfz116_0
             try clear hfz116_1
             try clear hfz116_2
             try clear hfz122_0
             try clear hfz122_1
             try clear hfz122_2
             try clear hfz124_0
             try clear hfz124_1
             try clear hfz124_2
             try clear hfz131_0
             try clear hfz131_1
             try clear hfz131_2
             try clear hfz133_0
             try clear hfz133_1
             try clear hfz133_2
             try clear hfz57_0
             try clear hfz57_1
             try clear hfz57_2
             try clear hfz62_0
             try clear hfz62_1
             try clear hfz62_2
             try clear hfz64_0
             try clear hfz64_1
             try clear hfz64_2
             try clear hfz72_0
             try clear hfz72_1
             try clear hfz72_2
             try clear hfz76_0
             try clear hfz76_1
             try clear hfz76_2
             try clear hfz93_0
             try clear hfz93_1
             try clear hfz93_2
             try clear hfz95_0
             try clear hfz95_1
             try clear hfz95_2
             try clear hfz96_0
             try clear hfz96_1
             try clear hfz96_2
             try clear hfz98_0
             try clear hfz98_1
             try clear hfz98_2
             try clear hfz99_0
             try clear hfz99_1
             try clear hfz99_2
             try clear hx372_0
             try clear hx376_0
             try clear p2
             try clear p3
             try clear p37
             try clear p372
             try clear p376
             try clear p6
             try clear p64
             try clear q3
             try clear q37
             try clear q372
             try clear q376
             obtain ⟨x52_4, x53_4, x54_4, rfl, rfl, rfl, HA, HK4, BK347, BK382, BK395, BK403, HB⟩ := hrel
             cases gk with
             | zero => exact absurd HA.out (by simp [laws_FnWheelsAndScales.l1])
             | succ k4 =>
              have H := HA.out
              clear HA
              simp only [laws_FnWheelsAndScales.l1] at H
              by_cases c153 : x54_4 < (t396.size : Int)
              rotate_left
              ·rw [if_neg c153] at H
               have c153b0 : decide (x54_4 < (t396.size : Int)) = false := decide_eq_false c153
               clear c153
               have H' := Aside0.mk H
               clear H
               go_wp2
               (refine Met.intro ?_; go_step; refine Cut_mk (by kernel_rfl) ?rel24)
               case rel24 => exact ⟨_, H', ⟨by have := HJ11.out; have := HJ49.out; have := HJ109.out; have := HK4.out; first | omega | exact Nat.le_refl _⟩, ⟨bk BK347⟩, ⟨bk BK382⟩, ⟨bk BK395⟩, ⟨bk BK403⟩, ⟨bw HB⟩⟩
              rw [if_pos c153] at H
              have c153b0 : decide (x54_4 < (t396.size : Int)) = true := decide_eq_true c153
              clear c153
              by_cases c154 : (wrap64 (x52_4 + t391)) ≥ (wrap64 ((wrap64 (x53_4 + t392)) + t393))
              ·rw [if_pos c154] at H
               have c154b0 : decide ((wrap64 ((wrap64 (x53_4 + t392)) + t393)) ≤ (wrap64 (x52_4 + t391))) = true := decide_eq_true c154
               clear c154
               by_cases c155 : 0 ≤ x54_4
               rotate_left
               ·rw [if_neg c155] at H
                exact absurd H (by simp)
               rw [if_pos c155] at H
               have c155b0 := eq_true c155
               have c155b1 : decide (0 ≤ x54_4) = true := decide_eq_true c155
               clear c155
               by_cases c156 : x54_4 ≤ (wrap64 (x54_4 + 1))
               rotate_left
               ·rw [if_neg c156] at H
                exact absurd H (by simp)
               rw [if_pos c156] at H
               have c156b0 := eq_true c156
               have c156b1 : decide (x54_4 ≤ (wrap64 (x54_4 + 1))) = true := decide_eq_true c156
               by_cases c157 : (wrap64 (x54_4 + 1)) ≤ (t396.size : Int)
               rotate_left
               ·rw [if_neg c157] at H
                exact absurd H (by simp)
               rw [if_pos c157] at H
               have c157b0 := eq_true c157
               have c157b1 : decide ((wrap64 (x54_4 + 1)) ≤ (t396.size : Int)) = true := decide_eq_true c157
               by_cases c158 : (t396.extract (x54_4 : Int).toNat ((wrap64 (x54_4 + 1)) : Int).toNat).toList = ([108] : List UInt8)
               rotate_left
               ·rw [if_neg c158] at H
                have c158b0 : ((t396.extract (x54_4 : Int).toNat ((wrap64 (x54_4 + 1)) : Int).toNat).toList == ([108] : List UInt8)) = false := beq_eq_false_iff_ne.mpr c158
                have c158b1 : ((t396.extract (x54_4 : Int).toNat ((wrap64 (x54_4 + 1)) : Int).toNat).toList != ([108] : List UInt8)) = true := bne_iff_ne.mpr c158
                exact absurd ((Option.some.inj H).trans hrt.out) (by decide)
               rw [if_pos c158] at H
               have c158b0 : ((t396.extract (x54_4 : Int).toNat ((wrap64 (x54_4 + 1)) : Int).toNat).toList == ([108] : List UInt8)) = true := beq_iff_eq.mpr c158
               have c158b1 : ((t396.extract (x54_4 : Int).toNat ((wrap64 (x54_4 + 1)) : Int).toNat).toList != ([108] : List UInt8)) = false := bne_eq_false_iff_eq.mpr c158
               clear c158
               have H' := Aside0.mk H
               clear H
               have hnb159 := NB395_347.out
               have hnc159 := NB347_395.out
               have hnb160 := NB395_382.out
               have hnc160 := NB382_395.out
               have hnb161 := NB395_403.out
               have hnc161 := NB403_395.out
               have hcz162_0 := bc0 BK395
               have hcz162_1 := bc1 BK395
               have hcz162_2 := bc2 BK395
               have hfz162_0 := blk_frozen BK395.out 0
               have hfz162_1 := blk_frozen BK395.out 1
               have hfz162_2 := blk_frozen BK395.out 2
               go_wp2
               (refine Handed.intro k4 ?measure25 ?_; rotate_left; go_step; refine LoopI_mk (by kernel_rfl) ?rel25)
               case measure25 => have := HJ11.out; have := HJ49.out; have := HJ109.out; have := HK4.out; omega
               case rel25 => exact ⟨(0), (wrap64 (x53_4 + t392)), (wrap64 (x54_4 + 1)), (by first | rfl | (simp; done) | (simp [*]; done)), (by first | rfl | (simp; done) | (simp [*]; done)), (by first | rfl | (simp; done) | (simp [*]; done)), H', ⟨by have := HJ11.out; have := HJ49.out; have := HJ109.out; have := HK4.out; omega⟩, ⟨bk BK347⟩, ⟨bk BK382⟩, ⟨bk BK395⟩, ⟨bk BK403⟩, ⟨bw HB⟩⟩
              rw [if_neg c154] at H
              have c154b0 : decide ((wrap64 ((wrap64 (x53_4 + t392)) + t393)) ≤ (wrap64 (x52_4 + t391))) = false := decide_eq_false c154
              clear c154
              by_cases c163 : (wrap64 (x53_4 + t392)) ≥ (wrap64 ((wrap64 (x52_4 + t391)) + t393))
              rotate_left
              ·rw [if_neg c163] at H
               have c163b0 : decide ((wrap64 ((wrap64 (x52_4 + t391)) + t393)) ≤ (wrap64 (x53_4 + t392))) = false := decide_eq_false c163
               clear c163
               by_cases c172 : 0 ≤ x54_4
               rotate_left
               ·rw [if_neg c172] at H
                exact absurd H (by simp)
               rw [if_pos c172] at H
               have c172b0 := eq_true c172
               have c172b1 : decide (0 ≤ x54_4) = true := decide_eq_true c172
               clear c172
               by_cases c173 : x54_4 ≤ (wrap64 (x54_4 + 1))
               rotate_left
               ·rw [if_neg c173] at H
                exact absurd H (by simp)
               rw [if_pos c173] at H
               have c173b0 := eq_true c173
               have c173b1 : decide (x54_4 ≤ (wrap64 (x54_4 + 1))) = true := decide_eq_true c173
               by_cases c174 : (wrap64 (x54_4 + 1)) ≤ (t396.size : Int)
               rotate_left
               ·rw [if_neg c174] at H
                exact absurd H (by simp)
               rw [if_pos c174] at H
               have c174b0 := eq_true c174
               have c174b1 : decide ((wrap64 (x54_4 + 1)) ≤ (t396.size : Int)) = true := decide_eq_true c174
               by_cases c175 : (t396.extract (x54_4 : Int).toNat ((wrap64 (x54_4 + 1)) : Int).toNat).toList = ([45] : List UInt8)
               rotate_left
               ·rw [if_neg c175] at H
                have c175b0 : ((t396.extract (x54_4 : Int).toNat ((wrap64 (x54_4 + 1)) : Int).toNat).toList == ([45] : List UInt8)) = false := beq_eq_false_iff_ne.mpr c175
                have c175b1 : ((t396.extract (x54_4 : Int).toNat ((wrap64 (x54_4 + 1)) : Int).toNat).toList != ([45] : List UInt8)) = true := bne_iff_ne.mpr c175
                exact absurd ((Option.some.inj H).trans hrt.out) (by decide)
               rw [if_pos c175] at H
               have c175b0 : ((t396.extract (x54_4 : Int).toNat ((wrap64 (x54_4 + 1)) : Int).toNat).toList == ([45] : List UInt8)) = true := beq_iff_eq.mpr c175
               have c175b1 : ((t396.extract (x54_4 : Int).toNat ((wrap64 (x54_4 + 1)) : Int).toNat).toList != ([45] : List UInt8)) = false := bne_eq_false_iff_eq.mpr c175
               clear c175
               have H' := Aside0.mk H
               clear H
               have hnb176 := NB395_347.out
               have hnc176 := NB347_395.out
               have hnb177 := NB395_382.out
               have hnc177 := NB382_395.out
               have hnb178 := NB395_403.out
               have hnc178 := NB403_395.out
               have hcz179_0 := bc0 BK395
               have hcz179_1 := bc1 BK395
               have hcz179_2 := bc2 BK395
               have hfz179_0 := blk_frozen BK395.out 0
               have hfz179_1 := blk_frozen BK395.out 1
               have hfz179_2 := blk_frozen BK395.out 2
               go_wp2
               (refine Handed.intro k4 ?measure26 ?_; rotate_left; go_step; refine LoopI_mk (by kernel_rfl) ?rel26)
               case measure26 => have := HJ11.out; have := HJ49.out; have := HJ109.out; have := HK4.out; omega
               case rel26 => exact ⟨(wrap64 (x52_4 + t391)), (wrap64 (x53_4 + t392)), (wrap64 (x54_4 + 1)), (by first | rfl | (simp; done) | (simp [*]; done)), (by first | rfl | (simp; done) | (simp [*]; done)), (by first | rfl | (simp; done) | (simp [*]; done)), H', ⟨by have := HJ11.out; have := HJ49.out; have := HJ109.out; have := HK4.out; omega⟩, ⟨bk BK347⟩, ⟨bk BK382⟩, ⟨bk BK395⟩, ⟨bk BK403⟩, ⟨bw HB⟩⟩
              rw [if_pos c163] at H
              have c163b0 : decide ((wrap64 ((wrap64 (x52_4 + t391)) + t393)) ≤ (wrap64 (x53_4 + t392))) = true := decide_eq_true c163
              clear c163
              by_cases c164 : 0 ≤ x54_4
              rotate_left
              ·rw [if_neg c164] at H
               exact absurd H (by simp)
              rw [if_pos c164] at H
              have c164b0 := eq_true c164
              have c164b1 : decide (0 ≤ x54_4) = true := decide_eq_true c164
              clear c164
              by_cases c165 : x54_4 ≤ (wrap64 (x54_4 + 1))
              rotate_left
              ·rw [if_neg c165] at H
               exact absurd H (by simp)
              rw [if_pos c165] at H
              have c165b0 := eq_true c165
              have c165b1 : decide (x54_4 ≤ (wrap64 (x54_4 + 1))) = true := decide_eq_true c165
              by_cases c166 : (wrap64 (x54_4 + 1)) ≤ (t396.size : Int)
              rotate_left
              ·rw [if_neg c166] at H
               exact absurd H (by simp)
              rw [if_pos c166] at H
              have c166b0 := eq_true c166
              have c166b1 : decide ((wrap64 (x54_4 + 1)) ≤ (t396.size : Int)) = true := decide_eq_true c166
              by_cases c167 : (t396.extract (x54_4 : Int).toNat ((wrap64 (x54_4 + 1)) : Int).toNat).toList = ([114] : List UInt8)
              rotate_left
              ·rw [if_neg c167] at H
               have c167b0 : ((t396.extract (x54_4 : Int).toNat ((wrap64 (x54_4 + 1)) : Int).toNat).toList == ([114] : List UInt8)) = false := beq_eq_false_iff_ne.mpr c167
               have c167b1 : ((t396.extract (x54_4 : Int).toNat ((wrap64 (x54_4 + 1)) : Int).toNat).toList != ([114] : List UInt8)) = true := bne_iff_ne.mpr c167
               exact absurd ((Option.some.inj H).trans hrt.out) (by decide)
              rw [if_pos c167] at H
              have c167b0 : ((t396.extract (x54_4 : Int).toNat ((wrap64 (x54_4 + 1)) : Int).toNat).toList == ([114] : List UInt8)) = true := beq_iff_eq.mpr c167
              have c167b1 : ((t396.extract (x54_4 : Int).toNat ((wrap64 (x54_4 + 1)) : Int).toNat).toList != ([114] : List UInt8)) = false := bne_eq_false_iff_eq.mpr c167
              clear c167
              have H' := Aside0.mk H
              clear H
              have hnb168 := NB395_347.out
              have hnc168 := NB347_395.out
              have hnb169 := NB395_382.out
              have hnc169 := NB382_395.out
              have hnb170 := NB395_403.out
              have hnc170 := NB403_395.out
              have hcz171_0 := bc0 BK395
              have hcz171_1 := bc1 BK395
              have hcz171_2 := bc2 BK395
              have hfz171_0 := blk_frozen BK395.out 0
              have hfz171_1 := blk_frozen BK395.out 1
              have hfz171_2 := blk_frozen BK395.out 2
              go_wp2
              (refine Handed.intro k4 ?measure27 ?_; rotate_left; go_step; refine LoopI_mk (by kernel_rfl) ?rel27)
              case measure27 => have := HJ11.out; have := HJ49.out; have := HJ109.out; have := HK4.out; omega
              case rel27 => exact ⟨(wrap64 (x52_4 + t391)), (0), (wrap64 (x54_4 + 1)), (by first | rfl | (simp; done) | (simp [*]; done)), (by first | rfl | (simp; done) | (simp [*]; done)), (by first | rfl | (simp; done) | (simp [*]; done)), H', ⟨by have := HJ11.out; have := HJ49.out; have := HJ109.out; have := HK4.out; omega⟩, ⟨bk BK347⟩, ⟨bk BK382⟩, ⟨bk BK395⟩, ⟨bk BK403⟩, ⟨bw HB⟩⟩
          case rest21 =>
           as_aux_lemma =>
            intro u_ wc hcut l_ hl_; (simp only [rl, List.reduceReplicate, List.cons_append, List.nil_append, List.append_nil, Bool.not_true, Bool.not_false, fu, Nat.reduceAdd] at hl_); subst hl_
            clear HC150
            try clear c1
            try clear c2
            try clear p2
            try clear c3
            try clear p3
            try clear q3
            try clear hx3
            try clear c4
            try clear c5
            try clear c6
            try clear p6
            try clear c7
            try clear c8
            try clear c9
            try clear c11
            try clear c12
            try clear c13
            try clear c14
            try clear c15
            try clear c16
            try clear c17
            try clear c18
            try clear c19
            try clear c20
            try clear c21
            try clear c22
            try clear c23
            try clear c24
            try clear c25
            try clear c26
            try clear c27
            try clear c28
            try clear c28b0
            try clear c28b1
            try clear c29
            try clear c29b0
            try clear c29b1
            try clear c31
            try clear c31b0
            try clear c31b1
            try clear c33
            try clear c33b0
            try clear c33b1
            try clear p37
            try clear q37
            try clear hx37
            try clear c40
            try clear c49
            try clear c51
            try clear c53
            try clear c53b0
            try clear c54
            try clear c54b0
            try clear c55
            try clear c55b0
            try clear c56
            try clear c56b0
            try clear c58
            try clear c59
            try clear c59b0
            try clear c59b1
            try clear c60
            try clear c60b0
            try clear c60b1
            try clear c63
            try clear c63b0
            try clear c63b1
            try clear p64
            try clear c65
            try clear c67
            try clear c67b0
            try clear c69
            try clear c70
            try clear c70b0
            try clear c70b1
            try clear c71
            try clear c71b0
            try clear c71b1
            try clear c75
            try clear c79
            try clear c79b0
            try clear c80
            try clear c80b0
            try clear c81
            try clear c81b0
            try clear c83
            try clear c84
            try clear c84b0
            try clear c85
            try clear c85b0
            try clear c85b1
            try clear c86
            try clear c86b0
            try clear c86b1
            try clear c87
            try clear c87b0
            try clear c87b1
            try clear c88
            try clear c88b0
            try clear c90
            try clear c90b0
            try clear c91
            try clear c91b0
            try clear c92
            try clear c92b0
            try clear c92b1
            try clear c113
            try clear c120
            try clear c121
            try clear c128
            try clear c129
            try clear c130
            try clear c135
            try clear c135b0
            try clear c135b1
            try clear c135b2
            try clear c137
            try clear c138
            try clear c138b0
            try clear c138b1
            try clear c138b2
            try clear c139
            try clear c139b0
            try clear c139b1
            try clear c140
            try clear c140b0
            try clear c140b1
            try clear c140b2
            try clear c141
            try clear c141b0
            try clear c141b1
            try clear c142
            try clear c142b0
            try clear c142b1
            try clear c143
            try clear c144
            try clear c144b0
            try clear c149
            try clear c151
            try clear c152
            try clear c152b0
            try clear c152b1
            try clear c153
            try clear c153b0
            try clear c154
            try clear c154b0
            try clear c155
            try clear c155b0
            try clear c155b1
            try clear c156
            try clear c156b0
            try clear c156b1
            try clear c157
            try clear c157b0
            try clear c157b1
            try clear c158
            try clear c158b0
            try clear c158b1
            try clear c159
            try clear c160
            try clear c161
            try clear c163
            try clear c163b0
            try clear c164
            try clear c164b0
            try clear c164b1
            try clear c165
            try clear c165b0
            try clear c165b1
            try clear c166
            try clear c166b0
            try clear c166b1
            try clear c167
            try clear c167b0
            try clear c167b1
            try clear c168
            try clear c169
            try clear c170
            try clear c172
            try clear c172b0
            try clear c172b1
            try clear c173
            try clear c173b0
            try clear c173b1
            try clear c174
            try clear c174b0
            try clear c174b1
            try clear c175
            try clear c175b0
            try clear c175b1
            try clear c176
            try clear c177
            try clear c178
            try clear hcz114_0
            try clear hcz114_1
            try clear hcz114_2
            try clear hcz116_0
            try clear hcz116_1
            try clear hcz116_2
            try clear hcz122_0
            try clear hcz122_1
            try clear hcz122_2
            try clear hcz124_0
            try clear hcz124_1
            try clear hcz124_2
            try clear hcz131_0
            try clear hcz131_1
            try clear hcz131_2
            try clear hcz133_0
            try clear hcz133_1
            try clear hcz133_2
            try clear hcz162_0
            try clear hcz162_1
            try clear hcz162_2
            try clear hcz171_0
            try clear hcz171_1
            try clear hcz171_2
            try clear hcz179_0
            try clear hcz179_1
            try clear hcz179_2
            try clear hcz57_0
            try clear hcz57_1
            try clear hcz57_2
            try clear hcz62_0
            try clear hcz62_1
            try clear hcz62_2
            try clear hcz64_0
            try clear hcz64_1
            try clear hcz64_2
            try clear hcz72_0
            try clear hcz72_1
            try clear hcz72_2
            try clear hcz76_0
            try clear hcz76_1
            try clear hcz76_2
            try clear hcz93_0
            try clear hcz93_1
            try clear hcz93_2
            try clear hcz95_0
            try clear hcz95_1
            try clear hcz95_2
            try clear hcz96_0
            try clear hcz96_1
            try clear hcz96_2
            try clear hcz98_0
            try clear hcz98_1
            try clear hcz98_2
            try clear hcz99_0
            try clear hcz99_1
            try clear hcz99_2
            try clear hfz114_0
            try clear hfz114_1
            try clear hfz114_2
            try clear hfz116_0
            try clear hfz116_1
            try clear hfz116_2
            try clear hfz122_0
            try clear hfz122_1
            try clear hfz122_2
            try clear hfz124_0
            try clear hfz124_1
            try clear hfz124_2
            try clear hfz131_0
            try clear hfz131_1
            try clear hfz131_2
            try clear hfz133_0
            try clear hfz133_1
            try clear hfz133_2
            try clear hfz162_0
            try clear hfz162_1
            try clear hfz162_2
            try clear hfz171_0
            try clear hfz171_1
            try clear hfz171_2
            try clear hfz179_0
            try clear hfz179_1
            try clear hfz179_2
            try clear hfz57_0
            try clear hfz57_1
            try clear hfz57_2
            try clear hfz62_0
            try clear hfz62_1
            try clear hfz62_2
            try clear hfz64_0
            try clear hfz64_1
            try clear hfz64_2
            try clear hfz72_0
            try clear hfz72_1
            try clear hfz72_2
            try clear hfz76_0
            try clear hfz76_1
            try clear hfz76_2
            try clear hfz93_0
            try clear hfz93_1
            try clear hfz93_2
            try clear hfz95_0
            try clear hfz95_1
            try clear hfz95_2
            try clear hfz96_0
            try clear hfz96_1
            try clear hfz96_2
            try clear hfz98_0
            try clear hfz98_1
            try clear hfz98_2
            try clear hfz99_0
            try clear hfz99_1
            try clear hfz99_2
            try clear hx372_0
            try clear hx376_0
            try clear p2
            try clear p3
            try clear p37
            try clear p372
            try clear p376
            try clear p6
            try clear p64
            try clear q3
            try clear q37
            try clear q372
            try clear q376
            obtain ⟨kq, HA, HJ149, BK347, BK382, BK395, BK403, HB⟩ := hcut
            cases kq with
            | zero => exact absurd HA.out (by simp [laws_FnWheelsAndScales.j8])
            | succ kj149 =>
             have H := HA.out
             clear HA
             simp only [laws_FnWheelsAndScales.j8] at H
             have HC180 := Aside0.mk H
             clear H
             go_upto_region 60 with (fail)
             refine cutF (rl [59, 185, 3, 223] false) (fun u_ wc => ∃ (kq : Nat) (x438_179 : Bool), (u_ 438) = .bool x438_179 ∧ Aside0 (laws_FnWheelsAndScales.j9 kq t404 t405 x438_179 t400 t401 t402 = some r) ∧ Aside0 (kq ≤ kj149) ∧ Aside0 (wc.heap[gb347]? = some (.cells #[.int .i64 t343, .int .i64 t344, .int .i64 t345] 25 (0, 0))) ∧ Aside0 (wc.heap[gb382]? = some (.cells #[.int .i64 t377, .int .i64 t378, .int .i64 t379] 25 (0, 0))) ∧ Aside0 (wc.heap[gb395]? = some (.cells #[.int .i64 t391, .int .i64 t392, .int .i64 t393] 40 (0, 0))) ∧ Aside0 (wc.heap[gb403]? = some (.cells #[.int .i64 t400, .int .i64 t401, .int .i64 t402] 40 (0, 0))) ∧ Aside0 (Below w.heap.size w wc)) ?first28 ?rest28
             case first28 =>
              as_aux_lemma =>
               intro J_ K_ hJ_ hK_
               have H := HC180.out
               clear HC180
               by_cases c181 : t406 = true
               ·subst c181
                have H1 : (laws_FnWheelsAndScales.j9 kj149 t404 t405 (decide ((wrap64 (t404 + (wrap64 (2 * (wrap64 (t404 - t405)))))) ≤ 200)) t400 t401 t402) = some r := by rw [if_pos rfl] at H; exact H
                clear H
                have H := H1
                clear H1
                have H' := Aside0.mk H
                clear H
                go_wp2
                (refine Met.intro ?_; go_step; refine Cut_mk (by kernel_rfl) ?rel29)
                case rel29 => exact ⟨_, (decide ((wrap64 (t404 + (wrap64 (2 * (wrap64 (t404 - t405)))))) ≤ 200)), (by first | rfl | (simp; done) | (simp [*]; done)), H', ⟨by have := HJ11.out; have := HJ49.out; have := HJ109.out; have := HJ149.out; first | omega | exact Nat.le_refl _⟩, ⟨bk BK347⟩, ⟨bk BK382⟩, ⟨bk BK395⟩, ⟨bk BK403⟩, ⟨bw HB⟩⟩
               replace c181 := Bool.eq_false_iff.mpr c181
               subst c181
               have H1 : (laws_FnWheelsAndScales.j9 kj149 t404 t405 false t400 t401 t402) = some r := by rw [if_neg (show ¬ (false = true) by decide)] at H; exact H
               clear H
               have H := H1
               clear H1
               have H' := Aside0.mk H
               clear H
               go_wp2
               (refine Met.intro ?_; go_step; refine Cut_mk (by kernel_rfl) ?rel30)
               case rel30 => exact ⟨_, (false), (by first | rfl | (simp; done) | (simp [*]; done)), H', ⟨by have := HJ11.out; have := HJ49.out; have := HJ109.out; have := HJ149.out; first | omega | exact Nat.le_refl _⟩, ⟨bk BK347⟩, ⟨bk BK382⟩, ⟨bk BK395⟩, ⟨bk BK403⟩, ⟨bw HB⟩⟩
             case rest28 =>
              as_aux_lemma =>
               intro u_ wc hcut l_ hl_; (simp only [rl, List.reduceReplicate, List.cons_append, List.nil_append, List.append_nil, Bool.not_true, Bool.not_false, fu, Nat.reduceAdd] at hl_); subst hl_; generalize u_ 438 = v438 at hcut ⊢
               clear HC180
               try clear c1
               try clear c2
               try clear p2
               try clear c3
               try clear p3
               try clear q3
               try clear hx3
               try clear c4
               try clear c5
               try clear c6
               try clear p6
               try clear c7
               try clear c8
               try clear c9
               try clear c11
               try clear c12
               try clear c13
               try clear c14
               try clear c15
               try clear c16
               try clear c17
               try clear c18
               try clear c19
               try clear c20
               try clear c21
               try clear c22
               try clear c23
               try clear c24
               try clear c25
               try clear c26
               try clear c27
               try clear c28
               try clear c28b0
               try clear c28b1
               try clear c29
               try clear c29b0
               try clear c29b1
               try clear c31
               try clear c31b0
               try clear c31b1
               try clear c33
               try clear c33b0
               try clear c33b1
               try clear p37
               try clear q37
               try clear hx37
               try clear c40
               try clear c49
               try clear c51
               try clear c53
               try clear c53b0
               try clear c54
               try clear c54b0
               try clear c55
               try clear c55b0
               try clear c56
               try clear c56b0
               try clear c58
               try clear c59
               try clear c59b0
               try clear c59b1
               try clear c60
               try clear c60b0
               try clear c60b1
               try clear c63
               try clear c63b0
               try clear c63b1
               try clear p64
               try clear c65
               try clear c67
               try clear c67b0
               try clear c69
               try clear c70
               try clear c70b0
               try clear c70b1
               try clear c71
               try clear c71b0
               try clear c71b1
               try clear c75
               try clear c79
               try clear c79b0
               try clear c80
               try clear c80b0
               try clear c81
               try clear c81b0
               try clear c83
               try clear c84
               try clear c84b0
               try clear c85
               try clear c85b0
               try clear c85b1
               try clear c86
               try clear c86b0
               try clear c86b1
               try clear c87
               try clear c87b0
               try clear c87b1
               try clear c88
               try clear c88b0
               try clear c90
               try clear c90b0
               try clear c91
               try clear c91b0
               try clear c92
               try clear c92b0
               try clear c92b1
               try clear c113
               try clear c120
               try clear c121
               try clear c128
               try clear c129
               try clear c130
               try clear c135
               try clear c135b0
               try clear c135b1
               try clear c135b2
               try clear c137
               try clear c138
               try clear c138b0
               try clear c138b1
               try clear c138b2
               try clear c139
               try clear c139b0
               try clear c139b1
               try clear c140
               try clear c140b0
               try clear c140b1
               try clear c140b2
               try clear c141
               try clear c141b0
               try clear c141b1
               try clear c142
               try clear c142b0
               try clear c142b1
               try clear c143
               try clear c144
               try clear c144b0
               try clear c149
               try clear c151
               try clear c152
               try clear c152b0
               try clear c152b1
               try clear c153
               try clear c153b0
               try clear c154
               try clear c154b0
               try clear c155
               try clear c155b0
               try clear c155b1
               try clear c156
               try clear c156b0
               try clear c156b1
               try clear c157
               try clear c157b0
               try clear c157b1
               try clear c158
               try clear c158b0
               try clear c158b1
               try clear c159
               try clear c160
               try clear c161
               try clear c163
               try clear c163b0
               try clear c164
               try clear c164b0
               try clear c164b1
               try clear c165
               try clear c165b0
               try clear c165b1
               try clear c166
               try clear c166b0
               try clear c166b1
               try clear c167
               try clear c167b0
               try clear c167b1
               try clear c168
               try clear c169
               try clear c170
               try clear c172
               try clear c172b0
               try clear c172b1
               try clear c173
               try clear c173b0
               try clear c173b1
               try clear c174
               try clear c174b0
               try clear c174b1
               try clear c175
               try clear c175b0
               try clear c175b1
               try clear c176
               try clear c177
               try clear c178
               try clear c181
               try clear hcz114_0
               try clear hcz114_1
               try clear hcz114_2
               try clear hcz116_0
               try clear hcz116_1
               try clear hcz116_2
               try clear hcz122_0
               try clear hcz122_1
               try clear hcz122_2
               try clear hcz124_0
               try clear hcz124_1
               try clear hcz124_2
               try clear hcz131_0
               try clear hcz131_1
               try clear hcz131_2
               try clear hcz133_0
               try clear hcz133_1
               try clear hcz133_2
               try clear hcz162_0
               try clear hcz162_1
               try clear hcz162_2
               try clear hcz171_0
               try clear hcz171_1
               try clear hcz171_2
               try clear hcz179_0
               try clear hcz179_1
               try clear hcz179_2
               try clear hcz57_0
               try clear hcz57_1
               try clear hcz57_2
               try clear hcz62_0
               try clear hcz62_1
               try clear hcz62_2
               try clear hcz64_0
               try clear hcz64_1
               try clear hcz64_2
               try clear hcz72_0
               try clear hcz72_1
               try clear hcz72_2
               try clear hcz76_0
               try clear hcz76_1
               try clear hcz76_2
               try clear hcz93_0
               try clear hcz93_1
               try clear hcz93_2
               try clear hcz95_0
               try clear hcz95_1
               try clear hcz95_2
               try clear hcz96_0
               try clear hcz96_1
               try clear hcz96_2
               try clear hcz98_0
               try clear hcz98_1
               try clear hcz98_2
               try clear hcz99_0
               try clear hcz99_1
               try clear hcz99_2
               try clear hfz114_0
               try clear hfz114_1
               try clear hfz114_2
               try clear hfz116_0
               try clear hfz116_1
               try clear hfz116_2
               try clear hfz122_0
               try clear hfz122_1
               try clear hfz122_2
               try clear hfz124_0
               try clear hfz124_1
               try clear hfz124_2
               try clear hfz131_0
               try clear hfz131_1
               try clear hfz131_2
               try clear hfz133_0
               try clear hfz133_1
               try clear hfz133_2
               try clear hfz162_0
               try clear hfz162_1
               try clear hfz162_2
               try clear hfz171_0
               try clear hfz171_1
               try clear hfz171_2
               try clear hfz179_0
               try clear hfz179_1
               try clear hfz179_2
               try clear hfz57_0
               try clear hfz57_1
               try clear hfz57_2
               try clear hfz62_0
               try clear hfz62_1
               try clear hfz62_2
               try clear hfz64_0
               try clear hfz64_1
               try clear hfz64_2
               try clear hfz72_0
               try clear hfz72_1
               try clear hfz72_2
               try clear hfz76_0
               try clear hfz76_1
               try clear hfz76_2
               try clear hfz93_0
               try clear hfz93_1
               try clear hfz93_2
               try clear hfz95_0
               try clear hfz95_1
               try clear hfz95_2
               try clear hfz96_0
               try clear hfz96_1
               try clear hfz96_2
               try clear hfz98_0
               try clear hfz98_1
               try clear hfz98_2
               try clear hfz99_0
               try clear hfz99_1
               try clear hfz99_2
               try clear hx372_0
               try clear hx376_0
               try clear p2
               try clear p3
               try clear p37
               try clear p372
               try clear p376
               try clear p6
               try clear p64
               try clear q3
               try clear q37
               try clear q372
               try clear q376
               obtain ⟨kq, x438_179, rfl, HA, HJ179, BK347, BK382, BK395, BK403, HB⟩ := hcut
               cases kq with
               | zero => exact absurd HA.out (by simp [laws_FnWheelsAndScales.j9])
               | succ kj179 =>
                have H := HA.out
                clear HA
                simp only [laws_FnWheelsAndScales.j9] at H
                by_cases c182 : x438_179 = true
                rotate_left
                ·replace c182 := Bool.eq_false_iff.mpr c182
                 subst c182
                 have H1 : (some true) = some r := by rw [if_neg (show ¬ (false = true) by decide)] at H; exact H
                 clear H
                 have H := H1
                 clear H1
                 obtain rfl := Option.some.inj H
                 go_wp2
                 go_ret
                 exact ⟨by first | rfl | (simp [errW_none, errW_some] <;> rfl) | (simp [*, errW_none, errW_some] <;> rfl), bw HB⟩
                subst c182
                have H1 : ((impl_ScaleEvents.f kj179 t400 t401 t402 (wrap64 (t404 + (wrap64 (2 * (wrap64 (t404 - t405))))))).bind fun bt411 => (if bt411.2 = true then (laws_FnWheelsAndScales.l2 kj179 t404 t405 bt411.1 t404) else (some false))) = some r := by rw [if_pos rfl] at H; exact H
                clear H
                have H := H1
                clear H1
                replace H := Option.bind_eq_some_iff.mp H
                obtain ⟨⟨t411, t412⟩, A1830, H⟩ := H
                replace H : (if t412 = true then (laws_FnWheelsAndScales.l2 kj179 t404 t405 t411 t404) else (some false)) = some r := H
                have A183 := Aside0.mk A1830
                clear A1830
                by_cases c184 : t412 = true
                rotate_left
                ·replace c184 := Bool.eq_false_iff.mpr c184
                 subst c184
                 have H1 : (some false) = some r := by rw [if_neg (show ¬ (false = true) by decide)] at H; exact H
                 clear H
                 have H := H1
                 clear H1
                 exact absurd ((Option.some.inj H).trans hrt.out) (by decide)
                subst c184
                have H1 : (laws_FnWheelsAndScales.l2 kj179 t404 t405 t411 t404) = some r := by rw [if_pos rfl] at H; exact H
                clear H
                have H := H1
                clear H1
                have H' := Aside0.mk H
                clear H
                have hnb185 := NB403_347.out
                have hnc185 := NB347_403.out
                have hnb186 := NB403_382.out
                have hnc186 := NB382_403.out
                have hnb187 := NB403_395.out
                have hnc187 := NB395_403.out
                have hcz188_0 := bc0 BK403
                have hcz188_1 := bc1 BK403
                have hcz188_2 := bc2 BK403
                have hfz188_0 := blk_frozen BK403.out 0
                have hfz188_1 := blk_frozen BK403.out 1
                have hfz188_2 := blk_frozen BK403.out 2
                go_wp2_with (first | ((with_reducible refine gate_callee (f := 24) rfl ?_); refine gl 447 Try.func24 #[.agg #[.int .i64 t400, .int .i64 t401, .int .i64 t402], .int .i64 (wrap64 (t404 + (wrap64 (2 * (wrap64 (t404 - t405))))))] ?_; (with_reducible refine (impl_ScaleEvents.calls kj179 t400 t401 t402 (wrap64 (t404 + (wrap64 (2 * (wrap64 (t404 - t405)))))) t411 true _ A183.out).mono ?_); rintro e w189 ⟨rfl, hb⟩; refine ⟨_, rfl, ?_⟩; replace BK347 := bb BK347 hb; replace BK382 := bb BK382 hb; replace BK395 := bb BK395 hb; replace BK403 := bb BK403 hb; replace HB := bs HB hb; (try clear hb)))
                try simp only [Act.put, List.setIfInBounds_toArray, List.set_cons_zero, List.set_cons_succ]
                refine loopF (rl [4, 1, 53, 1, 394, 17] false) kj179 (fun kq u_ w' => ∃ (x58_6 : Int), (u_ 58) = .int .i64 x58_6 ∧ Aside0 (laws_FnWheelsAndScales.l2 kq t404 t405 t411 x58_6 = some r) ∧ Aside0 (kq ≤ kj179) ∧ Aside0 (w'.heap[gb347]? = some (.cells #[.int .i64 t343, .int .i64 t344, .int .i64 t345] 25 (0, 0))) ∧ Aside0 (w'.heap[gb382]? = some (.cells #[.int .i64 t377, .int .i64 t378, .int .i64 t379] 25 (0, 0))) ∧ Aside0 (w'.heap[gb395]? = some (.cells #[.int .i64 t391, .int .i64 t392, .int .i64 t393] 40 (0, 0))) ∧ Aside0 (w'.heap[gb403]? = some (.cells #[.int .i64 t400, .int .i64 t401, .int .i64 t402] 40 (0, 0))) ∧ Aside0 (Below w.heap.size w w')) ?atStart31 ?round31
                case atStart31 => exact ⟨(t404), (by first | rfl | (simp; done) | (simp [*]; done)), H', ⟨Nat.le_refl _⟩, ⟨bk BK347⟩, ⟨bk BK382⟩, ⟨bk BK395⟩, ⟨bk BK403⟩, ⟨bw HB⟩⟩
                case round31 =>
                 intro gk u_ wr hrel l_ hl_; (simp only [rl, List.reduceReplicate, List.cons_append, List.nil_append, List.append_nil, Bool.not_true, Bool.not_false, fu, Nat.reduceAdd] at hl_); subst hl_; generalize u_ 58 = v58 at hrel ⊢
                 intro J_ K_ hJ_ hK_
                 clear H'
                 try clear c1
                 try clear c2
                 try clear p2
                 try clear c3
                 try clear p3
                 try clear q3
                 try clear hx3
                 try clear c4
                 try clear c5
                 try clear c6
                 try clear p6
                 try clear c7
                 try clear c8
                 try clear c9
                 try clear c11
                 try clear c12
                 try clear c13
                 try clear c14
                 try clear c15
                 try clear c16
                 try clear c17
                 try clear c18
                 try clear c19
                 try clear c20
                 try clear c21
                 try clear c22
                 try clear c23
                 try clear c24
                 try clear c25
                 try clear c26
                 try clear c27
                 try clear c28
                 try clear c28b0
                 try clear c28b1
                 try clear c29
                 try clear c29b0
                 try clear c29b1
                 try clear c31
                 try clear c31b0
                 try clear c31b1
                 try clear c33
                 try clear c33b0
                 try clear c33b1
                 try clear p37
                 try clear q37
                 try clear hx37
                 try clear c40
                 try clear c49
                 try clear c51
                 try clear c53
                 try clear c53b0
                 try clear c54
                 try clear c54b0
                 try clear c55
                 try clear c55b0
                 try clear c56
                 try clear c56b0
                 try clear c58
                 try clear c59
                 try clear c59b0
                 try clear c59b1
                 try clear c60
                 try clear c60b0
                 try clear c60b1
                 try clear c63
                 try clear c63b0
                 try clear c63b1
                 try clear p64
                 try clear c65
                 try clear c67
                 try clear c67b0
                 try clear c69
                 try clear c70
                 try clear c70b0
                 try clear c70b1
                 try clear c71
                 try clear c71b0
                 try clear c71b1
                 try clear c75
                 try clear c79
                 try clear c79b0
                 try clear c80
                 try clear c80b0
                 try clear c81
                 try clear c81b0
                 try clear c83
                 try clear c84
                 try clear c84b0
                 try clear c85
                 try clear c85b0
                 try clear c85b1
                 try clear c86
                 try clear c86b0
                 try clear c86b1
                 try clear c87
                 try clear c87b0
                 try clear c87b1
                 try clear c88
                 try clear c88b0
                 try clear c90
                 try clear c90b0
                 try clear c91
                 try clear c91b0
                 try clear c92
                 try clear c92b0
                 try clear c92b1
                 try clear c113
                 try clear c120
                 try clear c121
                 try clear c128
                 try clear c129
                 try clear c130
                 try clear c135
                 try clear c135b0
                 try clear c135b1
                 try clear c135b2
                 try clear c137
                 try clear c138
                 try clear c138b0
                 try clear c138b1
                 try clear c138b2
                 try clear c139
                 try clear c139b0
                 try clear c139b1
                 try clear c140
                 try clear c140b0
                 try clear c140b1
                 try clear c140b2
                 try clear c141
                 try clear c141b0
                 try clear c141b1
                 try clear c142
                 try clear c142b0
                 try clear c142b1
                 try clear c143
                 try clear c144
                 try clear c144b0
                 try clear c149
                 try clear c151
                 try clear c152
                 try clear c152b0
                 try clear c152b1
                 try clear c153
                 try clear c153b0
                 try clear c154
                 try clear c154b0
                 try clear c155
                 try clear c155b0
                 try clear c155b1
                 try clear c156
                 try clear c156b0
                 try clear c156b1
                 try clear c157
                 try clear c157b0
                 try clear c157b1
                 try clear c158
                 try clear c158b0
                 try clear c158b1
                 try clear c159
                 try clear c160
                 try clear c161
                 try clear c163
                 try clear c163b0
                 try clear c164
                 try clear c164b0
                 try clear c164b1
                 try clear c165
                 try clear c165b0
                 try clear c165b1
                 try clear c166
                 try clear c166b0
                 try clear c166b1
                 try clear c167
                 try clear c167b0
                 try clear c167b1
                 try clear c168
                 try clear c169
                 try clear c170
                 try clear c172
                 try clear c172b0
                 try clear c172b1
                 try clear c173
                 try clear c173b0
                 try clear c173b1
                 try clear c174
                 try clear c174b0
                 try clear c174b1
                 try clear c175
                 try clear c175b0
                 try clear c175b1
                 try clear c176
                 try clear c177
                 try clear c178
                 try clear c181
                 try clear c182
                 try clear c184
                 try clear c185
                 try clear c186
                 try clear c187
                 try clear hcz114_0
                 try clear hcz114_1
                 try clear hcz114_2
                 try clear hcz116_0
                 try clear hcz116_1
                 try clear hcz116_2
                 try clear hcz122_0
                 try clear hcz122_1
                 try clear hcz122_2
                 try clear hcz124_0
                 try clear hcz124_1
                 try clear hcz124_2
                 try clear hcz131_0
                 try clear hcz131_1
                 try clear hcz131_2
                 try clear hcz133_0
                 try clear hcz133_1
                 try clear hcz133_2
                 try clear hcz162_0
                 try clear hcz162_1
                 try clear hcz162_2
                 try clear hcz171_0
                 try clear hcz171_1
                 try clear hcz171_2
                 try clear hcz179_0
                 try clear hcz179_1
                 try clear hcz179_2
                 try clear hcz188_0
                 try clear hcz188_1
                 try clear hcz188_2
                 try clear hcz57_0
                 try clear hcz57_1
                 try clear hcz57_2
                 try clear hcz62_0
                 try clear hcz62_1
                 try clear hcz62_2
                 try clear hcz64_0
                 try clear hcz64_1
                 try clear hcz64_2
                 try clear hcz72_0
                 try clear hcz72_1
                 try clear hcz72_2
                 try clear hcz76_0
                 try clear hcz76_1
                 try clear hcz76_2
                 try clear hcz93_0
                 try clear hcz93_1
                 try clear hcz93_2
                 try clear hcz95_0
                 try clear hcz95_1
                 try clear hcz95_2
                 try clear hcz96_0
                 try clear hcz96_1
                 try clear hcz96_2
                 try clear hcz98_0
                 try clear hcz98_1
                 try clear hcz98_2
                 try clear hcz99_0
                 try clear hcz99_1
                 try clear hcz99_2
                 try clear hfz114_0
                 try clear hfz114_1
                 try clear hfz114_2
                 try clear hfz116_0
                 try clear hfz116_1
                 try clear hfz116_2
                 try clear hfz122_0
                 try clear hfz122_1
                 try clear hfz122_2
                 try clear hfz124_0
                 try clear hfz124_1
                 try clear hfz124_2
                 try clear hfz131_0
                 try clear hfz131_1
                 try clear hfz131_2
                 try clear hfz133_0
                 try clear hfz133_1
                 try clear hfz133_2
                 try clear hfz162_0
                 try clear hfz162_1
                 try clear hfz162_2
                 try clear hfz171_0
                 try clear hfz171_1
                 try clear hfz171_2
                 try clear hfz179_0
                 try clear hfz179_1
                 try clear hfz179_2
                 try clear hfz188_0
                 try clear hfz188_1
                 try clear hfz188_2
                 try clear hfz57_0
                 try clear hfz57_1
                 try clear hfz57_2
                 try clear hfz62_0
                 try clear hfz62_1
                 try clear hfz62_2
                 try clear hfz64_0
                 try clear hfz64_1
                 try clear hfz64_2
                 try clear hfz72_0
                 try clear hfz72_1
                 try clear hfz72_2
                 try clear hfz76_0
                 try clear hfz76_1
                 try clear hfz76_2
                 try clear hfz93_0
                 try clear hfz93_1
                 try clear hfz93_2
                 try clear hfz95_0
                 try clear hfz95_1
                 try clear hfz95_2
                 try clear hfz96_0
                 try clear hfz96_1
                 try clear hfz96_2
                 try clear hfz98_0
                 try clear hfz98_1
                 try clear hfz98_2
                 try clear hfz99_0
                 try clear hfz99_1
                 try clear hfz99_2
                 try clear hx372_0
                 try clear hx376_0
                 try clear p2
                 try clear p3
                 try clear p37
                 try clear p372
                 try clear p376
                 try clear p6
                 try clear p64
                 try clear q3
                 try clear q37
                 try clear q372
                 try clear q376
                 obtain ⟨x58_6, rfl, HA, HK6, BK347, BK382, BK395, BK403, HB⟩ := hrel
                 cases gk with
                 | zero => exact absurd HA.out (by simp [laws_FnWheelsAndScales.l2])
                 | succ k6 =>
                  have H := HA.out
                  clear HA
                  simp only [laws_FnWheelsAndScales.l2] at H
                  by_cases c190 : x58_6 < (t411.size : Int)
                  rotate_left
                  ·rw [if_neg c190] at H
                   have c190b0 : decide (x58_6 < (t411.size : Int)) = false := decide_eq_false c190
                   clear c190
                   obtain rfl := Option.some.inj H
                   go_wp2
                   go_ret
                   exact ⟨by first | rfl | (simp [errW_none, errW_some] <;> rfl) | (simp [*, errW_none, errW_some] <;> rfl), bw HB⟩
                  rw [if_pos c190] at H
                  have c190b0 : decide (x58_6 < (t411.size : Int)) = true := decide_eq_true c190
                  clear c190
                  by_cases c191 : 0 ≤ x58_6
                  rotate_left
                  ·rw [if_neg c191] at H
                   exact absurd H (by simp)
                  rw [if_pos c191] at H
                  have c191b0 : decide (0 ≤ x58_6) = true := decide_eq_true c191
                  clear c191
                  obtain ⟨ji193, hji193⟩ : ∃ j_ : Int, (wrap64 (x58_6 - (wrap64 (t404 - t405)))) = j_ := ⟨_, rfl⟩
                  replace H : (if 0 ≤ (ji193) then (if (ji193) < (t411.size : Int) then (if (bt t411 x58_6) = (bt t411 (ji193)) then (laws_FnWheelsAndScales.l2 k6 t404 t405 t411 (wrap64 (x58_6 + 1))) else (some false)) else (none)) else (none)) = some r := by first | (rw [hji193] at H; exact H) | (simp only [hji193] at H ⊢; exact H)
                  have hji193w : (IntKind.i64.wrap (x58_6 - (wrap64 (t404 - t405)))) = ji193 := (i64_w _).trans hji193
                  by_cases c194 : 0 ≤ (ji193)
                  rotate_left
                  ·rw [if_neg c194] at H
                   exact absurd H (by simp)
                  rw [if_pos c194] at H
                  have c194b0 : decide (0 ≤ (ji193)) = true := decide_eq_true c194
                  clear c194
                  by_cases c195 : (ji193) < (t411.size : Int)
                  rotate_left
                  ·rw [if_neg c195] at H
                   exact absurd H (by simp)
                  rw [if_pos c195] at H
                  have c195b0 : decide ((ji193) < (t411.size : Int)) = true := decide_eq_true c195
                  clear c195
                  by_cases c197 : (bt t411 x58_6) = (bt t411 (ji193))
                  rotate_left
                  ·rw [if_neg c197] at H
                   have c197b0 : ((bt t411 x58_6) == (bt t411 (ji193))) = false := beq_eq_false_iff_ne.mpr c197
                   have c197b1 : ((bt t411 x58_6) != (bt t411 (ji193))) = true := bne_iff_ne.mpr c197
                   exact absurd ((Option.some.inj H).trans hrt.out) (by decide)
                  rw [if_pos c197] at H
                  have c197b0 : ((bt t411 x58_6) == (bt t411 (ji193))) = true := beq_iff_eq.mpr c197
                  have c197b1 : ((bt t411 x58_6) != (bt t411 (ji193))) = false := bne_eq_false_iff_eq.mpr c197
                  clear c197
                  have H' := Aside0.mk H
                  clear H
                  try go_wp2
                  replace BK347 := Aside0.mk (blk_drew BK347.out)
                  replace BK382 := Aside0.mk (blk_drew BK382.out)
                  replace BK395 := Aside0.mk (blk_drew BK395.out)
                  replace BK403 := Aside0.mk (blk_drew BK403.out)
                  replace HB := Aside0.mk (below_drew1 HB.out)
                  have p192 : 0 ≤ (x58_6 : Int) := of_decide_eq_true (by first | (with_reducible assumption) | assumption)
                  have q192 : x58_6 < (t411.size : Int) := of_decide_eq_true (by first | (with_reducible assumption) | assumption)
                  have hx192 := bt_at t411 x58_6
                  replace p192 := eq_true p192
                  replace q192 := eq_true q192
                  have p196 : 0 ≤ ((ji193) : Int) := of_decide_eq_true (by first | (with_reducible assumption) | assumption)
                  have q196 : (ji193) < (t411.size : Int) := of_decide_eq_true (by first | (with_reducible assumption) | assumption)
                  have hx196 := bt_at t411 (ji193)
                  replace p196 := eq_true p196
                  replace q196 := eq_true q196
                  refine start_ (n := 11) (S := fun w' => True) (ds := []) (bl 11 0) (by kernel_rfl) rfl rfl trivial (fun hHeld => ?_); refine with_tabW laws_FnWheelsAndScales.tab67 laws_FnWheelsAndScales.bits67 (fun HT_ HW_ => ?_)
                  generalize wr.drew = w198 at BK347 BK382 BK395 BK403 HB hHeld ⊢
                  refine pu 0 459 (bl 11 1) HT_.out (v := ?_) (a' := ?_) ?_ ?_ ?_
                  rotate_left
                  ·intro w'
                   go_simp
                   with_reducible rfl
                  rotate_left
                  ·simp only [Act.put, List.setIfInBounds_toArray, List.set_cons_zero, List.set_cons_succ, i64_w, i32_w]
                   rfl
                  refine pu 1 460 (bl 11 3) HT_.out (v := ?_) (a' := ?_) ?_ ?_ ?_
                  rotate_left
                  ·intro w'
                   go_simp
                   with_reducible rfl
                  rotate_left
                  ·simp only [Act.put, List.setIfInBounds_toArray, List.set_cons_zero, List.set_cons_succ, i64_w, i32_w]
                   rfl
                  refine pu 3 462 (bl 11 11) HT_.out (v := ?_) (a' := ?_) ?_ ?_ ?_
                  rotate_left
                  ·intro w'
                   go_simp
                   with_reducible rfl
                  rotate_left
                  ·simp only [Act.put, List.setIfInBounds_toArray, List.set_cons_zero, List.set_cons_succ, i64_w, i32_w]
                   rfl
                  refine pu 4 463 (bl 11 27) HT_.out (v := ?_) (a' := ?_) ?_ ?_ ?_
                  rotate_left
                  ·intro w'
                   go_simp
                   with_reducible rfl
                  rotate_left
                  ·simp only [Act.put, List.setIfInBounds_toArray, List.set_cons_zero, List.set_cons_succ, i64_w, i32_w]
                   rfl
                  refine pu 5 464 (bl 11 59) HT_.out (v := ?_) (a' := ?_) ?_ ?_ ?_
                  rotate_left
                  ·intro w'
                   go_simp
                   with_reducible rfl
                  rotate_left
                  ·simp only [Act.put, List.setIfInBounds_toArray, List.set_cons_zero, List.set_cons_succ, i64_w, i32_w]
                   rfl
                  refine pu 6 465 (bl 11 123) HT_.out (v := ?_) (a' := ?_) ?_ ?_ ?_
                  rotate_left
                  ·intro w'
                   go_simp
                   with_reducible rfl
                  rotate_left
                  ·simp only [Act.put, List.setIfInBounds_toArray, List.set_cons_zero, List.set_cons_succ, i64_w, i32_w]
                   rfl
                  refine pu 7 466 (bl 11 251) HT_.out (v := ?_) (a' := ?_) ?_ ?_ ?_
                  rotate_left
                  ·intro w'
                   go_simp
                   with_reducible rfl
                  rotate_left
                  ·simp only [Act.put, List.setIfInBounds_toArray, List.set_cons_zero, List.set_cons_succ, i64_w, i32_w]
                   rfl
                  refine pu 8 467 (bl 11 507) HT_.out (v := ?_) (a' := ?_) ?_ ?_ ?_
                  rotate_left
                  ·intro w'
                   go_simp
                   with_reducible rfl
                  rotate_left
                  ·simp only [Act.put, List.setIfInBounds_toArray, List.set_cons_zero, List.set_cons_succ, i64_w, i32_w]
                   rfl
                  refine tk 2 461 (bl 11 511) HT_.out HW_.out hHeld (v := ?_) (a' := ?_) ?_ ?_ ?_
                  rotate_left
                  ·intro w' _
                   go_simp
                   with_reducible rfl
                  rotate_left
                  ·simp only [Act.put, List.setIfInBounds_toArray, List.set_cons_zero, List.set_cons_succ, i64_w, i32_w]
                   rfl
                  refine tk 9 468 (bl 11 1023) HT_.out HW_.out hHeld (v := ?_) (a' := ?_) ?_ ?_ ?_
                  rotate_left
                  ·intro w' _
                   go_simp
                   with_reducible rfl
                  rotate_left
                  ·simp only [Act.put, List.setIfInBounds_toArray, List.set_cons_zero, List.set_cons_succ, i64_w, i32_w]
                   rfl
                  refine pu 10 469 (bl 11 2047) HT_.out (v := ?_) (a' := ?_) ?_ ?_ ?_
                  rotate_left
                  ·intro w'
                   go_simp
                   with_reducible rfl
                  rotate_left
                  ·simp only [Act.put, List.setIfInBounds_toArray, List.set_cons_zero, List.set_cons_succ, i64_w, i32_w]
                   rfl
                  refine done_ (done_of HT_.out (by kernel_rfl)) ?_
                  try go_wp2
                  (refine Handed.intro k6 ?measure32 ?_; rotate_left; go_step; refine LoopI_mk (by kernel_rfl) ?rel32)
                  case measure32 => have := HJ11.out; have := HJ49.out; have := HJ109.out; have := HJ149.out; have := HJ179.out; have := HK6.out; omega
                  case rel32 => exact ⟨(wrap64 (x58_6 + 1)), (by first | rfl | (simp; done) | (simp [*]; done)), H', ⟨by have := HJ11.out; have := HJ49.out; have := HJ109.out; have := HJ149.out; have := HJ179.out; have := HK6.out; omega⟩, ⟨bk BK347⟩, ⟨bk BK382⟩, ⟨bk BK395⟩, ⟨bk BK403⟩, ⟨bw HB⟩⟩
     
     /-- THE ONE PURE STATEMENT of laws_FnWheelsAndScales: yours. -/
def laws_FnWheelsAndScales.Pure : Prop := ∀ (l0 : List Int) (l1 : List Int), l0.length ≤ maxLen → l0.length * 1 ≤ 140737488351232 → (∀ x ∈ l0, (Lit.int .u8 x).wf = true) → l1.length ≤ maxLen → l1.length * 1 ≤ 140737488351232 → (∀ x ∈ l1, (Lit.int .u8 x).wf = true) → ∃ k, laws_FnWheelsAndScales.f k l0 l1 = some true
theorem laws_FnWheelsAndScales.walk (P : laws_FnWheelsAndScales.Pure) (a0 : Option Addr) (len0 cap0 : Nat) (z0 : List Int) (a1 : Option Addr) (len1 cap1 : Nat) (z1 : List Int) (w : World) (w0 : (a0 = none ∧ len0 = 0 ∧ cap0 = 0 ∧ z0 = []) ∨ ∃ x, a0 = some x ∧ len0 ≤ cap0 ∧ cap0 ≤ maxLen ∧ z0.length = cap0 ∧ (∀ i, i < z0.length → w.cell? (x.add i) = some (.int .u8 (z0.getD i 0))) ∧ ∀ n ∈ z0, (Lit.int .u8 n).wf = true) (y0 : len0 * 1 ≤ 140737488351232) (w1 : (a1 = none ∧ len1 = 0 ∧ cap1 = 0 ∧ z1 = []) ∨ ∃ x, a1 = some x ∧ len1 ≤ cap1 ∧ cap1 ≤ maxLen ∧ z1.length = cap1 ∧ (∀ i, i < z1.length → w.cell? (x.add i) = some (.int .u8 (z1.getD i 0))) ∧ ∀ n ∈ z1, (Lit.int .u8 n).wf = true) (y1 : len1 * 1 ≤ 140737488351232) :
  Calls Try.prog 3 #[.slice a0 len0 cap0, .slice a1 len1 cap1] w fun e w' => e = .returned (.bool true) ∧ Below w.heap.size w w' := by
 obtain ⟨l0, rfl, hr0, hm0, hw0, hc0⟩ := ReadsInt.ofRowC w0
 obtain ⟨l1, rfl, hr1, hm1, hw1, hc1⟩ := ReadsInt.ofRowC w1
 obtain ⟨k, h⟩ := P l0 l1 hm0 y0 hw0 hm1 y1 hw1
 refine (laws_FnWheelsAndScales.calls k _ _ l0 _ _ l1 true w (Kd.C_of_reads (d := (0 : Int)) (h1 := fun _ => rfl) hr0) hc0 (Kd.C_of_reads (d := (0 : Int)) (h1 := fun _ => rfl) hr1) hc1 ⟨rfl⟩ h).mono ?_
 rintro e w' ⟨rfl, hd⟩
 exact ⟨rfl, hd⟩

end Go.Proofs.Ytmlkdkeocbhajaa.G
