-- Functions of the program as plain functions, and that the calls come to them. Written by a program (ownprint.py); nothing here is trusted: Lean checks it.
import Derived.Test.YtmlkdkeocbhajaaCx0
import Derived.Test.YtmlkdkeocbhajaaCx1
import Derived.Test.YtmlkdkeocbhajaaCx2
import Derived.Test.YtmlkdkeocbhajaaCx3
namespace Go.Proofs.Ytmlkdkeocbhajaa.C
open Go.RowKit Go.Proofs.YtmlkdkeocbhajaaW.PrintWords Go.Proofs.YtmlkdkeocbhajaaW.PrintLast Go.Proofs.YtmlkdkeocbhajaaW.PrintMore Go.Proofs.Ytmlkdkeocbhajaa.Sq
attribute [local go_sem] max2_int min2_int max_two min_two max_three min_three max_four min_four   -- for this text's walks alone
set_option linter.unusedVariables false
set_option linter.unusedSimpArgs false

attribute [local go_sem high] eqA49
/-! ### laws_FnClocksRun: function 4 -/
mutual
def laws_FnClocksRun.j0 : Nat → List Int → List Int → Bool → Int → Bool → Int → Int → Option (Bool)
 | 0, _, _, _, _, _, _, _ => none
 | k + 1, x1, x6, x7, x10, x158, x352000, x352001 => if x158 = true then (some false) else (if x7 = true then (if (x6.length : Int) = (wrap64 (x10 + 1)) then (if 0 < (x6.length : Int) then (if (rd x6 0) = x352000 then (if 0 ≤ x10 then (if x10 < (x6.length : Int) then (laws_FnClocksRun.j1 k x1 x6 ((rd x6 x10) != 0) x352000 x352001) else (none)) else (none)) else (laws_FnClocksRun.j1 k x1 x6 true x352000 x352001)) else (none)) else (laws_FnClocksRun.j1 k x1 x6 true x352000 x352001)) else (laws_FnClocksRun.j4 k x1))
def laws_FnClocksRun.j4 : Nat → List Int → Option (Bool)
 | 0, _ => none
 | k + 1, x1 => (spec_DrawMarksOf.f x1).bind fun bt382 => ((impl_MarksOf.f k bt382.1 bt382.2.1 bt382.2.2).bind fun bt386 => ((spec_MarksOf.f k bt382.1 bt382.2.1 bt382.2.2).bind fun bt390 => ((spec_DrawTimeOfLevel.f x1).bind fun bt394 => ((impl_TimeOfLevel.f k bt394.1 bt394.2.1 bt394.2.2).bind fun bt398 => ((spec_TimeOfLevel.f k bt394.1 bt394.2.1 bt394.2.2).bind fun bt400 => ((spec_DrawClockAfter.f x1).bind fun bt402 => ((impl_ClockAfter.f k bt402.1 bt402.2.1 bt402.2.2).bind fun bt406 => ((spec_ClockAfter.f k bt402.1 bt402.2.1 bt402.2.2).bind fun bt410 => (if (bt386.2 != bt390.2) = true then (laws_FnClocksRun.j5 k x1 bt382.2.2 bt386.1 bt386.2 bt394.2.2 bt398.1 bt398.2 true bt382.1 bt382.2.1 bt394.1 bt394.2.1) else ((laws_eSame.f k bt386.1 bt390.1).bind fun t414 => (if t414 = true then (if (bt398.2 != bt400.2) = true then (laws_FnClocksRun.j5 k x1 bt382.2.2 bt386.1 bt386.2 bt394.2.2 bt398.1 bt398.2 true bt382.1 bt382.2.1 bt394.1 bt394.2.1) else (if bt398.1 = bt400.1 then (if (bt406.2.2 != bt410.2.2) = true then (laws_FnClocksRun.j5 k x1 bt382.2.2 bt386.1 bt386.2 bt394.2.2 bt398.1 bt398.2 true bt382.1 bt382.2.1 bt394.1 bt394.2.1) else (laws_FnClocksRun.j5 k x1 bt382.2.2 bt386.1 bt386.2 bt394.2.2 bt398.1 bt398.2 (!(bt406.1 == bt410.1) || (!(bt406.2.1 == bt410.2.1))) bt382.1 bt382.2.1 bt394.1 bt394.2.1)) else (laws_FnClocksRun.j5 k x1 bt382.2.2 bt386.1 bt386.2 bt394.2.2 bt398.1 bt398.2 true bt382.1 bt382.2.1 bt394.1 bt394.2.1))) else (laws_FnClocksRun.j5 k x1 bt382.2.2 bt386.1 bt386.2 bt394.2.2 bt398.1 bt398.2 true bt382.1 bt382.2.1 bt394.1 bt394.2.1))))))))))))
def laws_FnClocksRun.j5 : Nat → List Int → Int → List Int → Bool → Int → Int → Bool → Bool → Int → Int → Int → Int → Option (Bool)
 | 0, _, _, _, _, _, _, _, _, _, _, _, _ => none
 | k + 1, x1, x23, x24, x25, x29, x30, x31, x321, x386000, x386001, x398000, x398001 => if x321 = true then (some false) else (if x25 = true then ((impl_TimeToEmpty.f k x386000 x386001).bind fun bt415 => (if bt415.2 = true then (if (x24.length : Int) = x23 then (if 0 ≤ (wrap64 (x23 - 1)) then (if (wrap64 (x23 - 1)) < (x24.length : Int) then (laws_FnClocksRun.j6 k x1 x23 x24 x29 x30 x31 bt415.1 ((rd x24 (wrap64 (x23 - 1))) != 0) x386000 x386001 x398000 x398001) else (none)) else (none)) else (laws_FnClocksRun.j6 k x1 x23 x24 x29 x30 x31 bt415.1 true x386000 x386001 x398000 x398001)) else (laws_FnClocksRun.j6 k x1 x23 x24 x29 x30 x31 bt415.1 true x386000 x386001 x398000 x398001))) else (laws_FnClocksRun.j8 k x1 x29 x30 x31 x398000 x398001))
def laws_FnClocksRun.j8 : Nat → List Int → Int → Int → Bool → Int → Int → Option (Bool)
 | 0, _, _, _, _, _, _ => none
 | k + 1, x1, x29, x30, x31, x398000, x398001 => if x31 = true then ((impl_ClockAfter.f k x398000 x398001 x30).bind fun bt424 => (if bt424.2.2 = true then (laws_FnClocksRun.j9 k x1 x29 x30 (decide (bt424.1 > x29)) x398000 x398001) else (laws_FnClocksRun.j9 k x1 x29 x30 true x398000 x398001))) else (laws_FnClocksRun.j10 k x1)
def laws_FnClocksRun.j10 : Nat → List Int → Option (Bool)
 | 0, _ => none
 | k + 1, x1 => (spec_DrawLeastLevelFor.f x1).bind fun bt432 => ((impl_LeastLevelFor.f k bt432.1 bt432.2).bind fun bt434 => ((spec_LeastLevelFor.f k bt432.1 bt432.2).bind fun bt436 => ((spec_DrawFirstMeeting.f x1).bind fun bt438 => ((impl_FirstMeeting.f k bt438.1 bt438.2.1 bt438.2.2.1 bt438.2.2.2).bind fun bt444 => ((spec_FirstMeeting.f k bt438.1 bt438.2.1 bt438.2.2.1 bt438.2.2.2).bind fun bt446 => (if (bt434.2 != bt436.2) = true then (laws_FnClocksRun.j11 k bt432.1 bt432.2 bt434.1 bt434.2 bt444.1 bt444.2 true bt438.1 bt438.2.1 bt438.2.2.1 bt438.2.2.2) else (if bt434.1 = bt436.1 then (if (bt444.2 != bt446.2) = true then (laws_FnClocksRun.j11 k bt432.1 bt432.2 bt434.1 bt434.2 bt444.1 bt444.2 true bt438.1 bt438.2.1 bt438.2.2.1 bt438.2.2.2) else (laws_FnClocksRun.j11 k bt432.1 bt432.2 bt434.1 bt434.2 bt444.1 bt444.2 (bt444.1 != bt446.1) bt438.1 bt438.2.1 bt438.2.2.1 bt438.2.2.2)) else (laws_FnClocksRun.j11 k bt432.1 bt432.2 bt434.1 bt434.2 bt444.1 bt444.2 true bt438.1 bt438.2.1 bt438.2.2.1 bt438.2.2.2))))))))
def laws_FnClocksRun.j11 : Nat → Int → Int → Int → Bool → Int → Bool → Bool → Int → Int → Int → Int → Option (Bool)
 | 0, _, _, _, _, _, _, _, _, _, _, _ => none
 | k + 1, x50, x51, x52, x53, x58, x59, x467, x443000, x443001, x444000, x444001 => if x467 = true then (some false) else (if x53 = true then ((impl_TimeToEmpty.f k x52 x50).bind fun bt448 => (if bt448.2 = true then (laws_FnClocksRun.j12 k x50 x51 x52 x58 x59 (decide (bt448.1 < x51)) x443000 x443001 x444000 x444001) else (laws_FnClocksRun.j12 k x50 x51 x52 x58 x59 true x443000 x443001 x444000 x444001))) else (laws_FnClocksRun.j13 k x58 x59 x443000 x443001 x444000 x444001))
def laws_FnClocksRun.j13 : Nat → Int → Bool → Int → Int → Int → Int → Option (Bool)
 | 0, _, _, _, _, _, _ => none
 | k + 1, x58, x59, x443000, x443001, x444000, x444001 => if x59 = true then (laws_FnClocksRun.j14 k x58 (decide (x58 ≤ 10000)) x443000 x443001 x444000 x444001) else (laws_FnClocksRun.j14 k x58 false x443000 x443001 x444000 x444001)
def laws_FnClocksRun.j14 : Nat → Int → Bool → Int → Int → Int → Int → Option (Bool)
 | 0, _, _, _, _, _, _ => none
 | k + 1, x58, x504, x443000, x443001, x444000, x444001 => if x504 = true then ((impl_ClockAfter.f k x443000 x443001 x58).bind fun bt452 => ((impl_ClockAfter.f k x444000 x444001 x58).bind fun bt456 => (if bt452.2.2 = true then (if bt456.2.2 = true then (laws_FnClocksRun.j15 k x58 (bt452.1 != bt456.1) x443000 x443001 x444000 x444001) else (laws_FnClocksRun.j15 k x58 true x443000 x443001 x444000 x444001)) else (laws_FnClocksRun.j15 k x58 true x443000 x443001 x444000 x444001)))) else (some true)
def laws_FnClocksRun.j15 : Nat → Int → Bool → Int → Int → Int → Int → Option (Bool)
 | 0, _, _, _, _, _, _ => none
 | k + 1, x58, x529, x443000, x443001, x444000, x444001 => if x529 = true then (some false) else (if x58 > 0 then ((impl_ClockAfter.f k x443000 x443001 (wrap64 (x58 - 1))).bind fun bt460 => ((impl_ClockAfter.f k x444000 x444001 (wrap64 (x58 - 1))).bind fun bt463 => (if bt460.2.2 = true then (if bt463.2.2 = true then (some (bt460.1 != bt463.1)) else (some false)) else (some false)))) else (some true))
def laws_FnClocksRun.j12 : Nat → Int → Int → Int → Int → Bool → Bool → Int → Int → Int → Int → Option (Bool)
 | 0, _, _, _, _, _, _, _, _, _, _ => none
 | k + 1, x50, x51, x52, x58, x59, x482, x443000, x443001, x444000, x444001 => if x482 = true then (some false) else (if x52 > 0 then ((impl_TimeToEmpty.f k (wrap64 (x52 - 1)) x50).bind fun bt450 => (if bt450.2 = true then (if bt450.1 ≥ x51 then (some false) else (laws_FnClocksRun.j13 k x58 x59 x443000 x443001 x444000 x444001)) else (some false))) else (laws_FnClocksRun.j13 k x58 x59 x443000 x443001 x444000 x444001))
def laws_FnClocksRun.j9 : Nat → List Int → Int → Int → Bool → Int → Int → Option (Bool)
 | 0, _, _, _, _, _, _ => none
 | k + 1, x1, x29, x30, x398, x398000, x398001 => if x398 = true then (some false) else (if x30 > 0 then ((impl_ClockAfter.f k x398000 x398001 (wrap64 (x30 - 1))).bind fun bt428 => (if bt428.2.2 = true then (if bt428.1 ≤ x29 then (some false) else (laws_FnClocksRun.j10 k x1)) else (some false))) else (laws_FnClocksRun.j10 k x1))
def laws_FnClocksRun.j6 : Nat → List Int → Int → List Int → Int → Int → Bool → Int → Bool → Int → Int → Int → Int → Option (Bool)
 | 0, _, _, _, _, _, _, _, _, _, _, _, _ => none
 | k + 1, x1, x23, x24, x29, x30, x31, x40, x343, x386000, x386001, x398000, x398001 => if x343 = true then (some false) else (laws_FnClocksRun.l1 k x1 x23 x24 x29 x30 x31 x40 x24 (x24.length : Int) 0 x386000 x386001 x398000 x398001)
def laws_FnClocksRun.l1 : Nat → List Int → Int → List Int → Int → Int → Bool → Int → List Int → Int → Int → Int → Int → Int → Int → Option (Bool)
 | 0, _, _, _, _, _, _, _, _, _, _, _, _, _, _ => none
 | k + 1, x1, x23, x24, x29, x30, x31, x40, x344, x345, x346, x386000, x386001, x398000, x398001 => if x346 < x345 then (if 0 ≤ x346 then (if x346 < (x344.length : Int) then (if x23 = 0 then (none) else ((impl_ClockAfter.f k x386000 x386001 (wrap64 (Int.tdiv (wrap64 ((wrap64 (x346 + 1)) * x40)) x23))).bind fun bt419 => (if bt419.2.2 = true then (if bt419.1 = (rd x344 x346) then (if x346 > 0 then (if 0 ≤ (wrap64 (x346 - 1)) then (if (wrap64 (x346 - 1)) < (x24.length : Int) then (if (rd x24 (wrap64 (x346 - 1))) ≤ (rd x344 x346) then (some false) else (laws_FnClocksRun.l1 k x1 x23 x24 x29 x30 x31 x40 x344 x345 (wrap64 (x346 + 1)) x386000 x386001 x398000 x398001)) else (none)) else (none)) else (laws_FnClocksRun.l1 k x1 x23 x24 x29 x30 x31 x40 x344 x345 (wrap64 (x346 + 1)) x386000 x386001 x398000 x398001)) else (some false)) else (some false)))) else (none)) else (none)) else (laws_FnClocksRun.j8 k x1 x29 x30 x31 x398000 x398001)
def laws_FnClocksRun.j1 : Nat → List Int → List Int → Bool → Int → Int → Option (Bool)
 | 0, _, _, _, _, _ => none
 | k + 1, x1, x6, x179, x352000, x352001 => if x179 = true then (some false) else (laws_FnClocksRun.l0 k x1 x6 x6 (x6.length : Int) 0 x352000 x352001)
def laws_FnClocksRun.l0 : Nat → List Int → List Int → List Int → Int → Int → Int → Int → Option (Bool)
 | 0, _, _, _, _, _, _, _ => none
 | k + 1, x1, x6, x180, x181, x182, x352000, x352001 => if x182 < x181 then (if 0 ≤ x182 then (if x182 < (x180.length : Int) then ((impl_ClockAfter.f k x352000 x352001 x182).bind fun bt375 => (if bt375.2.2 = true then (if bt375.1 = (rd x180 x182) then (laws_FnClocksRun.j3 k x1 x6 x182 (rd x180 x182) x180 x181 x182 (bt375.2.1 != x352001) x352000 x352001) else (laws_FnClocksRun.j3 k x1 x6 x182 (rd x180 x182) x180 x181 x182 true x352000 x352001)) else (laws_FnClocksRun.j3 k x1 x6 x182 (rd x180 x182) x180 x181 x182 true x352000 x352001))) else (none)) else (none)) else (laws_FnClocksRun.j4 k x1)
def laws_FnClocksRun.j3 : Nat → List Int → List Int → Int → Int → List Int → Int → Int → Bool → Int → Int → Option (Bool)
 | 0, _, _, _, _, _, _, _, _, _, _ => none
 | k + 1, x1, x6, x18, x19, x180, x181, x182, x207, x352000, x352001 => if x207 = true then (some false) else (if x18 > 0 then (if 0 ≤ (wrap64 (x18 - 1)) then (if (wrap64 (x18 - 1)) < (x6.length : Int) then (if x352001 = 0 then (none) else (if (wrap64 ((rd x6 (wrap64 (x18 - 1))) - x19)) = (wrap64 (Int.tdiv (wrap64 ((wrap64 ((rd x6 (wrap64 (x18 - 1))) + x352001)) - 1)) x352001)) then (if x19 ≥ (rd x6 (wrap64 (x18 - 1))) then (some false) else (laws_FnClocksRun.l0 k x1 x6 x180 x181 (wrap64 (x182 + 1)) x352000 x352001)) else (some false))) else (none)) else (none)) else (laws_FnClocksRun.l0 k x1 x6 x180 x181 (wrap64 (x182 + 1)) x352000 x352001))
end
def laws_FnClocksRun.f (k : Nat) (l0 : List Int) (l1 : List Int) : Option (Bool) := (laws_big.f l0 l1).bind fun t348 => (if t348 = true then (some true) else ((spec_DrawLevelsOfClock.f l0).bind fun bt349 => ((impl_LevelsOfClock.f k bt349.1 bt349.2).bind fun bt352 => ((spec_LevelsOfClock.f k bt349.1 bt349.2).bind fun bt356 => ((impl_TimeToEmpty.f k bt349.1 bt349.2).bind fun bt360 => ((spec_TimeToEmpty.f k bt349.1 bt349.2).bind fun bt362 => ((impl_DropOf.f bt349.1 bt349.2).bind fun bt364 => ((spec_DropOf.f bt349.1 bt349.2).bind fun bt366 => (if (bt352.2 != bt356.2) = true then (laws_FnClocksRun.j0 k l1 bt352.1 bt352.2 bt360.1 true bt349.1 bt349.2) else ((laws_eSame.f k bt352.1 bt356.1).bind fun t368 => (if t368 = true then (if (bt360.2 != bt362.2) = true then (laws_FnClocksRun.j0 k l1 bt352.1 bt352.2 bt360.1 true bt349.1 bt349.2) else (if bt360.1 = bt362.1 then (if (bt364.2 != bt366.2) = true then (laws_FnClocksRun.j0 k l1 bt352.1 bt352.2 bt360.1 true bt349.1 bt349.2) else (if bt364.1 = bt366.1 then ((impl_IsClock.f bt349.1 bt349.2).bind fun t369 => (if (bt360.2 != t369) = true then (laws_FnClocksRun.j0 k l1 bt352.1 bt352.2 bt360.1 true bt349.1 bt349.2) else ((impl_IsClock.f bt349.1 bt349.2).bind fun t370 => ((spec_IsClock.f bt349.1 bt349.2).bind fun t371 => (if (t370 != t371) = true then (laws_FnClocksRun.j0 k l1 bt352.1 bt352.2 bt360.1 true bt349.1 bt349.2) else (if (bt364.2 != bt360.2) = true then (laws_FnClocksRun.j0 k l1 bt352.1 bt352.2 bt360.1 true bt349.1 bt349.2) else (if bt352.2 = true then (laws_FnClocksRun.j0 k l1 bt352.1 bt352.2 bt360.1 (!bt360.2) bt349.1 bt349.2) else (laws_FnClocksRun.j0 k l1 bt352.1 bt352.2 bt360.1 false bt349.1 bt349.2)))))))) else (laws_FnClocksRun.j0 k l1 bt352.1 bt352.2 bt360.1 true bt349.1 bt349.2))) else (laws_FnClocksRun.j0 k l1 bt352.1 bt352.2 bt360.1 true bt349.1 bt349.2))) else (laws_FnClocksRun.j0 k l1 bt352.1 bt352.2 bt360.1 true bt349.1 bt349.2))))))))))))
theorem laws_FnClocksRun.mono_l : ∀ k, (∀ y0 y1 y2 y3 y4 y5 y6, LeO (laws_FnClocksRun.j0 k y0 y1 y2 y3 y4 y5 y6) (laws_FnClocksRun.j0 (k + 1) y0 y1 y2 y3 y4 y5 y6)) ∧ (∀ y0, LeO (laws_FnClocksRun.j4 k y0) (laws_FnClocksRun.j4 (k + 1) y0)) ∧ (∀ y0 y1 y2 y3 y4 y5 y6 y7 y8 y9 y10 y11, LeO (laws_FnClocksRun.j5 k y0 y1 y2 y3 y4 y5 y6 y7 y8 y9 y10 y11) (laws_FnClocksRun.j5 (k + 1) y0 y1 y2 y3 y4 y5 y6 y7 y8 y9 y10 y11)) ∧ (∀ y0 y1 y2 y3 y4 y5, LeO (laws_FnClocksRun.j8 k y0 y1 y2 y3 y4 y5) (laws_FnClocksRun.j8 (k + 1) y0 y1 y2 y3 y4 y5)) ∧ (∀ y0, LeO (laws_FnClocksRun.j10 k y0) (laws_FnClocksRun.j10 (k + 1) y0)) ∧ (∀ y0 y1 y2 y3 y4 y5 y6 y7 y8 y9 y10, LeO (laws_FnClocksRun.j11 k y0 y1 y2 y3 y4 y5 y6 y7 y8 y9 y10) (laws_FnClocksRun.j11 (k + 1) y0 y1 y2 y3 y4 y5 y6 y7 y8 y9 y10)) ∧ (∀ y0 y1 y2 y3 y4 y5, LeO (laws_FnClocksRun.j13 k y0 y1 y2 y3 y4 y5) (laws_FnClocksRun.j13 (k + 1) y0 y1 y2 y3 y4 y5)) ∧ (∀ y0 y1 y2 y3 y4 y5, LeO (laws_FnClocksRun.j14 k y0 y1 y2 y3 y4 y5) (laws_FnClocksRun.j14 (k + 1) y0 y1 y2 y3 y4 y5)) ∧ (∀ y0 y1 y2 y3 y4 y5, LeO (laws_FnClocksRun.j15 k y0 y1 y2 y3 y4 y5) (laws_FnClocksRun.j15 (k + 1) y0 y1 y2 y3 y4 y5)) ∧ (∀ y0 y1 y2 y3 y4 y5 y6 y7 y8 y9, LeO (laws_FnClocksRun.j12 k y0 y1 y2 y3 y4 y5 y6 y7 y8 y9) (laws_FnClocksRun.j12 (k + 1) y0 y1 y2 y3 y4 y5 y6 y7 y8 y9)) ∧ (∀ y0 y1 y2 y3 y4 y5, LeO (laws_FnClocksRun.j9 k y0 y1 y2 y3 y4 y5) (laws_FnClocksRun.j9 (k + 1) y0 y1 y2 y3 y4 y5)) ∧ (∀ y0 y1 y2 y3 y4 y5 y6 y7 y8 y9 y10 y11, LeO (laws_FnClocksRun.j6 k y0 y1 y2 y3 y4 y5 y6 y7 y8 y9 y10 y11) (laws_FnClocksRun.j6 (k + 1) y0 y1 y2 y3 y4 y5 y6 y7 y8 y9 y10 y11)) ∧ (∀ y0 y1 y2 y3 y4 y5 y6 y7 y8 y9 y10 y11 y12 y13, LeO (laws_FnClocksRun.l1 k y0 y1 y2 y3 y4 y5 y6 y7 y8 y9 y10 y11 y12 y13) (laws_FnClocksRun.l1 (k + 1) y0 y1 y2 y3 y4 y5 y6 y7 y8 y9 y10 y11 y12 y13)) ∧ (∀ y0 y1 y2 y3 y4, LeO (laws_FnClocksRun.j1 k y0 y1 y2 y3 y4) (laws_FnClocksRun.j1 (k + 1) y0 y1 y2 y3 y4)) ∧ (∀ y0 y1 y2 y3 y4 y5 y6, LeO (laws_FnClocksRun.l0 k y0 y1 y2 y3 y4 y5 y6) (laws_FnClocksRun.l0 (k + 1) y0 y1 y2 y3 y4 y5 y6)) ∧ (∀ y0 y1 y2 y3 y4 y5 y6 y7 y8 y9, LeO (laws_FnClocksRun.j3 k y0 y1 y2 y3 y4 y5 y6 y7 y8 y9) (laws_FnClocksRun.j3 (k + 1) y0 y1 y2 y3 y4 y5 y6 y7 y8 y9))
 | 0 => ⟨fun _ _ _ _ _ _ _ r h => by simp [laws_FnClocksRun.j0] at h, fun _ r h => by simp [laws_FnClocksRun.j4] at h, fun _ _ _ _ _ _ _ _ _ _ _ _ r h => by simp [laws_FnClocksRun.j5] at h, fun _ _ _ _ _ _ r h => by simp [laws_FnClocksRun.j8] at h, fun _ r h => by simp [laws_FnClocksRun.j10] at h, fun _ _ _ _ _ _ _ _ _ _ _ r h => by simp [laws_FnClocksRun.j11] at h, fun _ _ _ _ _ _ r h => by simp [laws_FnClocksRun.j13] at h, fun _ _ _ _ _ _ r h => by simp [laws_FnClocksRun.j14] at h, fun _ _ _ _ _ _ r h => by simp [laws_FnClocksRun.j15] at h, fun _ _ _ _ _ _ _ _ _ _ r h => by simp [laws_FnClocksRun.j12] at h, fun _ _ _ _ _ _ r h => by simp [laws_FnClocksRun.j9] at h, fun _ _ _ _ _ _ _ _ _ _ _ _ r h => by simp [laws_FnClocksRun.j6] at h, fun _ _ _ _ _ _ _ _ _ _ _ _ _ _ r h => by simp [laws_FnClocksRun.l1] at h, fun _ _ _ _ _ r h => by simp [laws_FnClocksRun.j1] at h, fun _ _ _ _ _ _ _ r h => by simp [laws_FnClocksRun.l0] at h, fun _ _ _ _ _ _ _ _ _ _ r h => by simp [laws_FnClocksRun.j3] at h⟩
 | k + 1 => by
  obtain ⟨ih0, ih1, ih2, ih3, ih4, ih5, ih6, ih7, ih8, ih9, ih10, ih11, ih12, ih13, ih14, ih15⟩ := laws_FnClocksRun.mono_l k
  refine ⟨?_, ?_, ?_, ?_, ?_, ?_, ?_, ?_, ?_, ?_, ?_, ?_, ?_, ?_, ?_, ?_⟩
  ·intro y0 y1 y2 y3 y4 y5 y6
   unfold laws_FnClocksRun.j0
   repeat' first
   | (with_reducible exact ih0 _ _ _ _ _ _ _)
   | (with_reducible exact ih1 _)
   | (with_reducible exact ih2 _ _ _ _ _ _ _ _ _ _ _ _)
   | (with_reducible exact ih3 _ _ _ _ _ _)
   | (with_reducible exact ih4 _)
   | (with_reducible exact ih5 _ _ _ _ _ _ _ _ _ _ _)
   | (with_reducible exact ih6 _ _ _ _ _ _)
   | (with_reducible exact ih7 _ _ _ _ _ _)
   | (with_reducible exact ih8 _ _ _ _ _ _)
   | (with_reducible exact ih9 _ _ _ _ _ _ _ _ _ _)
   | (with_reducible exact ih10 _ _ _ _ _ _)
   | (with_reducible exact ih11 _ _ _ _ _ _ _ _ _ _ _ _)
   | (with_reducible exact ih12 _ _ _ _ _ _ _ _ _ _ _ _ _ _)
   | (with_reducible exact ih13 _ _ _ _ _)
   | (with_reducible exact ih14 _ _ _ _ _ _ _)
   | (with_reducible exact ih15 _ _ _ _ _ _ _ _ _ _)
   | (with_reducible exact impl_ClockAfter.mono _ _ _ _)
   | (with_reducible exact impl_FirstMeeting.mono _ _ _ _ _)
   | (with_reducible exact impl_LeastLevelFor.mono _ _ _)
   | (with_reducible exact impl_LevelsOfClock.mono _ _ _)
   | (with_reducible exact impl_MarksOf.mono _ _ _ _)
   | (with_reducible exact impl_TimeOfLevel.mono _ _ _ _)
   | (with_reducible exact impl_TimeToEmpty.mono _ _ _)
   | (with_reducible exact laws_eSame.mono _ _ _)
   | (with_reducible exact spec_ClockAfter.mono _ _ _ _)
   | (with_reducible exact spec_FirstMeeting.mono _ _ _ _ _)
   | (with_reducible exact spec_LeastLevelFor.mono _ _ _)
   | (with_reducible exact spec_LevelsOfClock.mono _ _ _)
   | (with_reducible exact spec_MarksOf.mono _ _ _ _)
   | (with_reducible exact spec_TimeOfLevel.mono _ _ _ _)
   | (with_reducible exact spec_TimeToEmpty.mono _ _ _)
   | (with_reducible exact LeO.refl _)
   | (with_reducible exact LeO.none _)
   | (with_reducible refine LeO.ite ?_ ?_)
   | (with_reducible refine LeO.bind ?_ (fun _ => ?_))
   | exact ih0 _ _ _ _ _ _ _
   | exact ih1 _
   | exact ih2 _ _ _ _ _ _ _ _ _ _ _ _
   | exact ih3 _ _ _ _ _ _
   | exact ih4 _
   | exact ih5 _ _ _ _ _ _ _ _ _ _ _
   | exact ih6 _ _ _ _ _ _
   | exact ih7 _ _ _ _ _ _
   | exact ih8 _ _ _ _ _ _
   | exact ih9 _ _ _ _ _ _ _ _ _ _
   | exact ih10 _ _ _ _ _ _
   | exact ih11 _ _ _ _ _ _ _ _ _ _ _ _
   | exact ih12 _ _ _ _ _ _ _ _ _ _ _ _ _ _
   | exact ih13 _ _ _ _ _
   | exact ih14 _ _ _ _ _ _ _
   | exact ih15 _ _ _ _ _ _ _ _ _ _
   | exact impl_ClockAfter.mono _ _ _ _
   | exact impl_FirstMeeting.mono _ _ _ _ _
   | exact impl_LeastLevelFor.mono _ _ _
   | exact impl_LevelsOfClock.mono _ _ _
   | exact impl_MarksOf.mono _ _ _ _
   | exact impl_TimeOfLevel.mono _ _ _ _
   | exact impl_TimeToEmpty.mono _ _ _
   | exact laws_eSame.mono _ _ _
   | exact spec_ClockAfter.mono _ _ _ _
   | exact spec_FirstMeeting.mono _ _ _ _ _
   | exact spec_LeastLevelFor.mono _ _ _
   | exact spec_LevelsOfClock.mono _ _ _
   | exact spec_MarksOf.mono _ _ _ _
   | exact spec_TimeOfLevel.mono _ _ _ _
   | exact spec_TimeToEmpty.mono _ _ _
   | exact LeO.none _
   | refine LeO.ite ?_ ?_
   | refine LeO.bind ?_ (fun _ => ?_)
  ·intro y0
   unfold laws_FnClocksRun.j4
   repeat' first
   | (with_reducible exact ih0 _ _ _ _ _ _ _)
   | (with_reducible exact ih1 _)
   | (with_reducible exact ih2 _ _ _ _ _ _ _ _ _ _ _ _)
   | (with_reducible exact ih3 _ _ _ _ _ _)
   | (with_reducible exact ih4 _)
   | (with_reducible exact ih5 _ _ _ _ _ _ _ _ _ _ _)
   | (with_reducible exact ih6 _ _ _ _ _ _)
   | (with_reducible exact ih7 _ _ _ _ _ _)
   | (with_reducible exact ih8 _ _ _ _ _ _)
   | (with_reducible exact ih9 _ _ _ _ _ _ _ _ _ _)
   | (with_reducible exact ih10 _ _ _ _ _ _)
   | (with_reducible exact ih11 _ _ _ _ _ _ _ _ _ _ _ _)
   | (with_reducible exact ih12 _ _ _ _ _ _ _ _ _ _ _ _ _ _)
   | (with_reducible exact ih13 _ _ _ _ _)
   | (with_reducible exact ih14 _ _ _ _ _ _ _)
   | (with_reducible exact ih15 _ _ _ _ _ _ _ _ _ _)
   | (with_reducible exact impl_ClockAfter.mono _ _ _ _)
   | (with_reducible exact impl_FirstMeeting.mono _ _ _ _ _)
   | (with_reducible exact impl_LeastLevelFor.mono _ _ _)
   | (with_reducible exact impl_LevelsOfClock.mono _ _ _)
   | (with_reducible exact impl_MarksOf.mono _ _ _ _)
   | (with_reducible exact impl_TimeOfLevel.mono _ _ _ _)
   | (with_reducible exact impl_TimeToEmpty.mono _ _ _)
   | (with_reducible exact laws_eSame.mono _ _ _)
   | (with_reducible exact spec_ClockAfter.mono _ _ _ _)
   | (with_reducible exact spec_FirstMeeting.mono _ _ _ _ _)
   | (with_reducible exact spec_LeastLevelFor.mono _ _ _)
   | (with_reducible exact spec_LevelsOfClock.mono _ _ _)
   | (with_reducible exact spec_MarksOf.mono _ _ _ _)
   | (with_reducible exact spec_TimeOfLevel.mono _ _ _ _)
   | (with_reducible exact spec_TimeToEmpty.mono _ _ _)
   | (with_reducible exact LeO.refl _)
   | (with_reducible exact LeO.none _)
   | (with_reducible refine LeO.ite ?_ ?_)
   | (with_reducible refine LeO.bind ?_ (fun _ => ?_))
   | exact ih0 _ _ _ _ _ _ _
   | exact ih1 _
   | exact ih2 _ _ _ _ _ _ _ _ _ _ _ _
   | exact ih3 _ _ _ _ _ _
   | exact ih4 _
   | exact ih5 _ _ _ _ _ _ _ _ _ _ _
   | exact ih6 _ _ _ _ _ _
   | exact ih7 _ _ _ _ _ _
   | exact ih8 _ _ _ _ _ _
   | exact ih9 _ _ _ _ _ _ _ _ _ _
   | exact ih10 _ _ _ _ _ _
   | exact ih11 _ _ _ _ _ _ _ _ _ _ _ _
   | exact ih12 _ _ _ _ _ _ _ _ _ _ _ _ _ _
   | exact ih13 _ _ _ _ _
   | exact ih14 _ _ _ _ _ _ _
   | exact ih15 _ _ _ _ _ _ _ _ _ _
   | exact impl_ClockAfter.mono _ _ _ _
   | exact impl_FirstMeeting.mono _ _ _ _ _
   | exact impl_LeastLevelFor.mono _ _ _
   | exact impl_LevelsOfClock.mono _ _ _
   | exact impl_MarksOf.mono _ _ _ _
   | exact impl_TimeOfLevel.mono _ _ _ _
   | exact impl_TimeToEmpty.mono _ _ _
   | exact laws_eSame.mono _ _ _
   | exact spec_ClockAfter.mono _ _ _ _
   | exact spec_FirstMeeting.mono _ _ _ _ _
   | exact spec_LeastLevelFor.mono _ _ _
   | exact spec_LevelsOfClock.mono _ _ _
   | exact spec_MarksOf.mono _ _ _ _
   | exact spec_TimeOfLevel.mono _ _ _ _
   | exact spec_TimeToEmpty.mono _ _ _
   | exact LeO.none _
   | refine LeO.ite ?_ ?_
   | refine LeO.bind ?_ (fun _ => ?_)
  ·intro y0 y1 y2 y3 y4 y5 y6 y7 y8 y9 y10 y11
   unfold laws_FnClocksRun.j5
   repeat' first
   | (with_reducible exact ih0 _ _ _ _ _ _ _)
   | (with_reducible exact ih1 _)
   | (with_reducible exact ih2 _ _ _ _ _ _ _ _ _ _ _ _)
   | (with_reducible exact ih3 _ _ _ _ _ _)
   | (with_reducible exact ih4 _)
   | (with_reducible exact ih5 _ _ _ _ _ _ _ _ _ _ _)
   | (with_reducible exact ih6 _ _ _ _ _ _)
   | (with_reducible exact ih7 _ _ _ _ _ _)
   | (with_reducible exact ih8 _ _ _ _ _ _)
   | (with_reducible exact ih9 _ _ _ _ _ _ _ _ _ _)
   | (with_reducible exact ih10 _ _ _ _ _ _)
   | (with_reducible exact ih11 _ _ _ _ _ _ _ _ _ _ _ _)
   | (with_reducible exact ih12 _ _ _ _ _ _ _ _ _ _ _ _ _ _)
   | (with_reducible exact ih13 _ _ _ _ _)
   | (with_reducible exact ih14 _ _ _ _ _ _ _)
   | (with_reducible exact ih15 _ _ _ _ _ _ _ _ _ _)
   | (with_reducible exact impl_ClockAfter.mono _ _ _ _)
   | (with_reducible exact impl_FirstMeeting.mono _ _ _ _ _)
   | (with_reducible exact impl_LeastLevelFor.mono _ _ _)
   | (with_reducible exact impl_LevelsOfClock.mono _ _ _)
   | (with_reducible exact impl_MarksOf.mono _ _ _ _)
   | (with_reducible exact impl_TimeOfLevel.mono _ _ _ _)
   | (with_reducible exact impl_TimeToEmpty.mono _ _ _)
   | (with_reducible exact laws_eSame.mono _ _ _)
   | (with_reducible exact spec_ClockAfter.mono _ _ _ _)
   | (with_reducible exact spec_FirstMeeting.mono _ _ _ _ _)
   | (with_reducible exact spec_LeastLevelFor.mono _ _ _)
   | (with_reducible exact spec_LevelsOfClock.mono _ _ _)
   | (with_reducible exact spec_MarksOf.mono _ _ _ _)
   | (with_reducible exact spec_TimeOfLevel.mono _ _ _ _)
   | (with_reducible exact spec_TimeToEmpty.mono _ _ _)
   | (with_reducible exact LeO.refl _)
   | (with_reducible exact LeO.none _)
   | (with_reducible refine LeO.ite ?_ ?_)
   | (with_reducible refine LeO.bind ?_ (fun _ => ?_))
   | exact ih0 _ _ _ _ _ _ _
   | exact ih1 _
   | exact ih2 _ _ _ _ _ _ _ _ _ _ _ _
   | exact ih3 _ _ _ _ _ _
   | exact ih4 _
   | exact ih5 _ _ _ _ _ _ _ _ _ _ _
   | exact ih6 _ _ _ _ _ _
   | exact ih7 _ _ _ _ _ _
   | exact ih8 _ _ _ _ _ _
   | exact ih9 _ _ _ _ _ _ _ _ _ _
   | exact ih10 _ _ _ _ _ _
   | exact ih11 _ _ _ _ _ _ _ _ _ _ _ _
   | exact ih12 _ _ _ _ _ _ _ _ _ _ _ _ _ _
   | exact ih13 _ _ _ _ _
   | exact ih14 _ _ _ _ _ _ _
   | exact ih15 _ _ _ _ _ _ _ _ _ _
   | exact impl_ClockAfter.mono _ _ _ _
   | exact impl_FirstMeeting.mono _ _ _ _ _
   | exact impl_LeastLevelFor.mono _ _ _
   | exact impl_LevelsOfClock.mono _ _ _
   | exact impl_MarksOf.mono _ _ _ _
   | exact impl_TimeOfLevel.mono _ _ _ _
   | exact impl_TimeToEmpty.mono _ _ _
   | exact laws_eSame.mono _ _ _
   | exact spec_ClockAfter.mono _ _ _ _
   | exact spec_FirstMeeting.mono _ _ _ _ _
   | exact spec_LeastLevelFor.mono _ _ _
   | exact spec_LevelsOfClock.mono _ _ _
   | exact spec_MarksOf.mono _ _ _ _
   | exact spec_TimeOfLevel.mono _ _ _ _
   | exact spec_TimeToEmpty.mono _ _ _
   | exact LeO.none _
   | refine LeO.ite ?_ ?_
   | refine LeO.bind ?_ (fun _ => ?_)
  ·intro y0 y1 y2 y3 y4 y5
   unfold laws_FnClocksRun.j8
   repeat' first
   | (with_reducible exact ih0 _ _ _ _ _ _ _)
   | (with_reducible exact ih1 _)
   | (with_reducible exact ih2 _ _ _ _ _ _ _ _ _ _ _ _)
   | (with_reducible exact ih3 _ _ _ _ _ _)
   | (with_reducible exact ih4 _)
   | (with_reducible exact ih5 _ _ _ _ _ _ _ _ _ _ _)
   | (with_reducible exact ih6 _ _ _ _ _ _)
   | (with_reducible exact ih7 _ _ _ _ _ _)
   | (with_reducible exact ih8 _ _ _ _ _ _)
   | (with_reducible exact ih9 _ _ _ _ _ _ _ _ _ _)
   | (with_reducible exact ih10 _ _ _ _ _ _)
   | (with_reducible exact ih11 _ _ _ _ _ _ _ _ _ _ _ _)
   | (with_reducible exact ih12 _ _ _ _ _ _ _ _ _ _ _ _ _ _)
   | (with_reducible exact ih13 _ _ _ _ _)
   | (with_reducible exact ih14 _ _ _ _ _ _ _)
   | (with_reducible exact ih15 _ _ _ _ _ _ _ _ _ _)
   | (with_reducible exact impl_ClockAfter.mono _ _ _ _)
   | (with_reducible exact impl_FirstMeeting.mono _ _ _ _ _)
   | (with_reducible exact impl_LeastLevelFor.mono _ _ _)
   | (with_reducible exact impl_LevelsOfClock.mono _ _ _)
   | (with_reducible exact impl_MarksOf.mono _ _ _ _)
   | (with_reducible exact impl_TimeOfLevel.mono _ _ _ _)
   | (with_reducible exact impl_TimeToEmpty.mono _ _ _)
   | (with_reducible exact laws_eSame.mono _ _ _)
   | (with_reducible exact spec_ClockAfter.mono _ _ _ _)
   | (with_reducible exact spec_FirstMeeting.mono _ _ _ _ _)
   | (with_reducible exact spec_LeastLevelFor.mono _ _ _)
   | (with_reducible exact spec_LevelsOfClock.mono _ _ _)
   | (with_reducible exact spec_MarksOf.mono _ _ _ _)
   | (with_reducible exact spec_TimeOfLevel.mono _ _ _ _)
   | (with_reducible exact spec_TimeToEmpty.mono _ _ _)
   | (with_reducible exact LeO.refl _)
   | (with_reducible exact LeO.none _)
   | (with_reducible refine LeO.ite ?_ ?_)
   | (with_reducible refine LeO.bind ?_ (fun _ => ?_))
   | exact ih0 _ _ _ _ _ _ _
   | exact ih1 _
   | exact ih2 _ _ _ _ _ _ _ _ _ _ _ _
   | exact ih3 _ _ _ _ _ _
   | exact ih4 _
   | exact ih5 _ _ _ _ _ _ _ _ _ _ _
   | exact ih6 _ _ _ _ _ _
   | exact ih7 _ _ _ _ _ _
   | exact ih8 _ _ _ _ _ _
   | exact ih9 _ _ _ _ _ _ _ _ _ _
   | exact ih10 _ _ _ _ _ _
   | exact ih11 _ _ _ _ _ _ _ _ _ _ _ _
   | exact ih12 _ _ _ _ _ _ _ _ _ _ _ _ _ _
   | exact ih13 _ _ _ _ _
   | exact ih14 _ _ _ _ _ _ _
   | exact ih15 _ _ _ _ _ _ _ _ _ _
   | exact impl_ClockAfter.mono _ _ _ _
   | exact impl_FirstMeeting.mono _ _ _ _ _
   | exact impl_LeastLevelFor.mono _ _ _
   | exact impl_LevelsOfClock.mono _ _ _
   | exact impl_MarksOf.mono _ _ _ _
   | exact impl_TimeOfLevel.mono _ _ _ _
   | exact impl_TimeToEmpty.mono _ _ _
   | exact laws_eSame.mono _ _ _
   | exact spec_ClockAfter.mono _ _ _ _
   | exact spec_FirstMeeting.mono _ _ _ _ _
   | exact spec_LeastLevelFor.mono _ _ _
   | exact spec_LevelsOfClock.mono _ _ _
   | exact spec_MarksOf.mono _ _ _ _
   | exact spec_TimeOfLevel.mono _ _ _ _
   | exact spec_TimeToEmpty.mono _ _ _
   | exact LeO.none _
   | refine LeO.ite ?_ ?_
   | refine LeO.bind ?_ (fun _ => ?_)
  ·intro y0
   unfold laws_FnClocksRun.j10
   repeat' first
   | (with_reducible exact ih0 _ _ _ _ _ _ _)
   | (with_reducible exact ih1 _)
   | (with_reducible exact ih2 _ _ _ _ _ _ _ _ _ _ _ _)
   | (with_reducible exact ih3 _ _ _ _ _ _)
   | (with_reducible exact ih4 _)
   | (with_reducible exact ih5 _ _ _ _ _ _ _ _ _ _ _)
   | (with_reducible exact ih6 _ _ _ _ _ _)
   | (with_reducible exact ih7 _ _ _ _ _ _)
   | (with_reducible exact ih8 _ _ _ _ _ _)
   | (with_reducible exact ih9 _ _ _ _ _ _ _ _ _ _)
   | (with_reducible exact ih10 _ _ _ _ _ _)
   | (with_reducible exact ih11 _ _ _ _ _ _ _ _ _ _ _ _)
   | (with_reducible exact ih12 _ _ _ _ _ _ _ _ _ _ _ _ _ _)
   | (with_reducible exact ih13 _ _ _ _ _)
   | (with_reducible exact ih14 _ _ _ _ _ _ _)
   | (with_reducible exact ih15 _ _ _ _ _ _ _ _ _ _)
   | (with_reducible exact impl_ClockAfter.mono _ _ _ _)
   | (with_reducible exact impl_FirstMeeting.mono _ _ _ _ _)
   | (with_reducible exact impl_LeastLevelFor.mono _ _ _)
   | (with_reducible exact impl_LevelsOfClock.mono _ _ _)
   | (with_reducible exact impl_MarksOf.mono _ _ _ _)
   | (with_reducible exact impl_TimeOfLevel.mono _ _ _ _)
   | (with_reducible exact impl_TimeToEmpty.mono _ _ _)
   | (with_reducible exact laws_eSame.mono _ _ _)
   | (with_reducible exact spec_ClockAfter.mono _ _ _ _)
   | (with_reducible exact spec_FirstMeeting.mono _ _ _ _ _)
   | (with_reducible exact spec_LeastLevelFor.mono _ _ _)
   | (with_reducible exact spec_LevelsOfClock.mono _ _ _)
   | (with_reducible exact spec_MarksOf.mono _ _ _ _)
   | (with_reducible exact spec_TimeOfLevel.mono _ _ _ _)
   | (with_reducible exact spec_TimeToEmpty.mono _ _ _)
   | (with_reducible exact LeO.refl _)
   | (with_reducible exact LeO.none _)
   | (with_reducible refine LeO.ite ?_ ?_)
   | (with_reducible refine LeO.bind ?_ (fun _ => ?_))
   | exact ih0 _ _ _ _ _ _ _
   | exact ih1 _
   | exact ih2 _ _ _ _ _ _ _ _ _ _ _ _
   | exact ih3 _ _ _ _ _ _
   | exact ih4 _
   | exact ih5 _ _ _ _ _ _ _ _ _ _ _
   | exact ih6 _ _ _ _ _ _
   | exact ih7 _ _ _ _ _ _
   | exact ih8 _ _ _ _ _ _
   | exact ih9 _ _ _ _ _ _ _ _ _ _
   | exact ih10 _ _ _ _ _ _
   | exact ih11 _ _ _ _ _ _ _ _ _ _ _ _
   | exact ih12 _ _ _ _ _ _ _ _ _ _ _ _ _ _
   | exact ih13 _ _ _ _ _
   | exact ih14 _ _ _ _ _ _ _
   | exact ih15 _ _ _ _ _ _ _ _ _ _
   | exact impl_ClockAfter.mono _ _ _ _
   | exact impl_FirstMeeting.mono _ _ _ _ _
   | exact impl_LeastLevelFor.mono _ _ _
   | exact impl_LevelsOfClock.mono _ _ _
   | exact impl_MarksOf.mono _ _ _ _
   | exact impl_TimeOfLevel.mono _ _ _ _
   | exact impl_TimeToEmpty.mono _ _ _
   | exact laws_eSame.mono _ _ _
   | exact spec_ClockAfter.mono _ _ _ _
   | exact spec_FirstMeeting.mono _ _ _ _ _
   | exact spec_LeastLevelFor.mono _ _ _
   | exact spec_LevelsOfClock.mono _ _ _
   | exact spec_MarksOf.mono _ _ _ _
   | exact spec_TimeOfLevel.mono _ _ _ _
   | exact spec_TimeToEmpty.mono _ _ _
   | exact LeO.none _
   | refine LeO.ite ?_ ?_
   | refine LeO.bind ?_ (fun _ => ?_)
  ·intro y0 y1 y2 y3 y4 y5 y6 y7 y8 y9 y10
   unfold laws_FnClocksRun.j11
   repeat' first
   | (with_reducible exact ih0 _ _ _ _ _ _ _)
   | (with_reducible exact ih1 _)
   | (with_reducible exact ih2 _ _ _ _ _ _ _ _ _ _ _ _)
   | (with_reducible exact ih3 _ _ _ _ _ _)
   | (with_reducible exact ih4 _)
   | (with_reducible exact ih5 _ _ _ _ _ _ _ _ _ _ _)
   | (with_reducible exact ih6 _ _ _ _ _ _)
   | (with_reducible exact ih7 _ _ _ _ _ _)
   | (with_reducible exact ih8 _ _ _ _ _ _)
   | (with_reducible exact ih9 _ _ _ _ _ _ _ _ _ _)
   | (with_reducible exact ih10 _ _ _ _ _ _)
   | (with_reducible exact ih11 _ _ _ _ _ _ _ _ _ _ _ _)
   | (with_reducible exact ih12 _ _ _ _ _ _ _ _ _ _ _ _ _ _)
   | (with_reducible exact ih13 _ _ _ _ _)
   | (with_reducible exact ih14 _ _ _ _ _ _ _)
   | (with_reducible exact ih15 _ _ _ _ _ _ _ _ _ _)
   | (with_reducible exact impl_ClockAfter.mono _ _ _ _)
   | (with_reducible exact impl_FirstMeeting.mono _ _ _ _ _)
   | (with_reducible exact impl_LeastLevelFor.mono _ _ _)
   | (with_reducible exact impl_LevelsOfClock.mono _ _ _)
   | (with_reducible exact impl_MarksOf.mono _ _ _ _)
   | (with_reducible exact impl_TimeOfLevel.mono _ _ _ _)
   | (with_reducible exact impl_TimeToEmpty.mono _ _ _)
   | (with_reducible exact laws_eSame.mono _ _ _)
   | (with_reducible exact spec_ClockAfter.mono _ _ _ _)
   | (with_reducible exact spec_FirstMeeting.mono _ _ _ _ _)
   | (with_reducible exact spec_LeastLevelFor.mono _ _ _)
   | (with_reducible exact spec_LevelsOfClock.mono _ _ _)
   | (with_reducible exact spec_MarksOf.mono _ _ _ _)
   | (with_reducible exact spec_TimeOfLevel.mono _ _ _ _)
   | (with_reducible exact spec_TimeToEmpty.mono _ _ _)
   | (with_reducible exact LeO.refl _)
   | (with_reducible exact LeO.none _)
   | (with_reducible refine LeO.ite ?_ ?_)
   | (with_reducible refine LeO.bind ?_ (fun _ => ?_))
   | exact ih0 _ _ _ _ _ _ _
   | exact ih1 _
   | exact ih2 _ _ _ _ _ _ _ _ _ _ _ _
   | exact ih3 _ _ _ _ _ _
   | exact ih4 _
   | exact ih5 _ _ _ _ _ _ _ _ _ _ _
   | exact ih6 _ _ _ _ _ _
   | exact ih7 _ _ _ _ _ _
   | exact ih8 _ _ _ _ _ _
   | exact ih9 _ _ _ _ _ _ _ _ _ _
   | exact ih10 _ _ _ _ _ _
   | exact ih11 _ _ _ _ _ _ _ _ _ _ _ _
   | exact ih12 _ _ _ _ _ _ _ _ _ _ _ _ _ _
   | exact ih13 _ _ _ _ _
   | exact ih14 _ _ _ _ _ _ _
   | exact ih15 _ _ _ _ _ _ _ _ _ _
   | exact impl_ClockAfter.mono _ _ _ _
   | exact impl_FirstMeeting.mono _ _ _ _ _
   | exact impl_LeastLevelFor.mono _ _ _
   | exact impl_LevelsOfClock.mono _ _ _
   | exact impl_MarksOf.mono _ _ _ _
   | exact impl_TimeOfLevel.mono _ _ _ _
   | exact impl_TimeToEmpty.mono _ _ _
   | exact laws_eSame.mono _ _ _
   | exact spec_ClockAfter.mono _ _ _ _
   | exact spec_FirstMeeting.mono _ _ _ _ _
   | exact spec_LeastLevelFor.mono _ _ _
   | exact spec_LevelsOfClock.mono _ _ _
   | exact spec_MarksOf.mono _ _ _ _
   | exact spec_TimeOfLevel.mono _ _ _ _
   | exact spec_TimeToEmpty.mono _ _ _
   | exact LeO.none _
   | refine LeO.ite ?_ ?_
   | refine LeO.bind ?_ (fun _ => ?_)
  ·intro y0 y1 y2 y3 y4 y5
   unfold laws_FnClocksRun.j13
   repeat' first
   | (with_reducible exact ih0 _ _ _ _ _ _ _)
   | (with_reducible exact ih1 _)
   | (with_reducible exact ih2 _ _ _ _ _ _ _ _ _ _ _ _)
   | (with_reducible exact ih3 _ _ _ _ _ _)
   | (with_reducible exact ih4 _)
   | (with_reducible exact ih5 _ _ _ _ _ _ _ _ _ _ _)
   | (with_reducible exact ih6 _ _ _ _ _ _)
   | (with_reducible exact ih7 _ _ _ _ _ _)
   | (with_reducible exact ih8 _ _ _ _ _ _)
   | (with_reducible exact ih9 _ _ _ _ _ _ _ _ _ _)
   | (with_reducible exact ih10 _ _ _ _ _ _)
   | (with_reducible exact ih11 _ _ _ _ _ _ _ _ _ _ _ _)
   | (with_reducible exact ih12 _ _ _ _ _ _ _ _ _ _ _ _ _ _)
   | (with_reducible exact ih13 _ _ _ _ _)
   | (with_reducible exact ih14 _ _ _ _ _ _ _)
   | (with_reducible exact ih15 _ _ _ _ _ _ _ _ _ _)
   | (with_reducible exact impl_ClockAfter.mono _ _ _ _)
   | (with_reducible exact impl_FirstMeeting.mono _ _ _ _ _)
   | (with_reducible exact impl_LeastLevelFor.mono _ _ _)
   | (with_reducible exact impl_LevelsOfClock.mono _ _ _)
   | (with_reducible exact impl_MarksOf.mono _ _ _ _)
   | (with_reducible exact impl_TimeOfLevel.mono _ _ _ _)
   | (with_reducible exact impl_TimeToEmpty.mono _ _ _)
   | (with_reducible exact laws_eSame.mono _ _ _)
   | (with_reducible exact spec_ClockAfter.mono _ _ _ _)
   | (with_reducible exact spec_FirstMeeting.mono _ _ _ _ _)
   | (with_reducible exact spec_LeastLevelFor.mono _ _ _)
   | (with_reducible exact spec_LevelsOfClock.mono _ _ _)
   | (with_reducible exact spec_MarksOf.mono _ _ _ _)
   | (with_reducible exact spec_TimeOfLevel.mono _ _ _ _)
   | (with_reducible exact spec_TimeToEmpty.mono _ _ _)
   | (with_reducible exact LeO.refl _)
   | (with_reducible exact LeO.none _)
   | (with_reducible refine LeO.ite ?_ ?_)
   | (with_reducible refine LeO.bind ?_ (fun _ => ?_))
   | exact ih0 _ _ _ _ _ _ _
   | exact ih1 _
   | exact ih2 _ _ _ _ _ _ _ _ _ _ _ _
   | exact ih3 _ _ _ _ _ _
   | exact ih4 _
   | exact ih5 _ _ _ _ _ _ _ _ _ _ _
   | exact ih6 _ _ _ _ _ _
   | exact ih7 _ _ _ _ _ _
   | exact ih8 _ _ _ _ _ _
   | exact ih9 _ _ _ _ _ _ _ _ _ _
   | exact ih10 _ _ _ _ _ _
   | exact ih11 _ _ _ _ _ _ _ _ _ _ _ _
   | exact ih12 _ _ _ _ _ _ _ _ _ _ _ _ _ _
   | exact ih13 _ _ _ _ _
   | exact ih14 _ _ _ _ _ _ _
   | exact ih15 _ _ _ _ _ _ _ _ _ _
   | exact impl_ClockAfter.mono _ _ _ _
   | exact impl_FirstMeeting.mono _ _ _ _ _
   | exact impl_LeastLevelFor.mono _ _ _
   | exact impl_LevelsOfClock.mono _ _ _
   | exact impl_MarksOf.mono _ _ _ _
   | exact impl_TimeOfLevel.mono _ _ _ _
   | exact impl_TimeToEmpty.mono _ _ _
   | exact laws_eSame.mono _ _ _
   | exact spec_ClockAfter.mono _ _ _ _
   | exact spec_FirstMeeting.mono _ _ _ _ _
   | exact spec_LeastLevelFor.mono _ _ _
   | exact spec_LevelsOfClock.mono _ _ _
   | exact spec_MarksOf.mono _ _ _ _
   | exact spec_TimeOfLevel.mono _ _ _ _
   | exact spec_TimeToEmpty.mono _ _ _
   | exact LeO.none _
   | refine LeO.ite ?_ ?_
   | refine LeO.bind ?_ (fun _ => ?_)
  ·intro y0 y1 y2 y3 y4 y5
   unfold laws_FnClocksRun.j14
   repeat' first
   | (with_reducible exact ih0 _ _ _ _ _ _ _)
   | (with_reducible exact ih1 _)
   | (with_reducible exact ih2 _ _ _ _ _ _ _ _ _ _ _ _)
   | (with_reducible exact ih3 _ _ _ _ _ _)
   | (with_reducible exact ih4 _)
   | (with_reducible exact ih5 _ _ _ _ _ _ _ _ _ _ _)
   | (with_reducible exact ih6 _ _ _ _ _ _)
   | (with_reducible exact ih7 _ _ _ _ _ _)
   | (with_reducible exact ih8 _ _ _ _ _ _)
   | (with_reducible exact ih9 _ _ _ _ _ _ _ _ _ _)
   | (with_reducible exact ih10 _ _ _ _ _ _)
   | (with_reducible exact ih11 _ _ _ _ _ _ _ _ _ _ _ _)
   | (with_reducible exact ih12 _ _ _ _ _ _ _ _ _ _ _ _ _ _)
   | (with_reducible exact ih13 _ _ _ _ _)
   | (with_reducible exact ih14 _ _ _ _ _ _ _)
   | (with_reducible exact ih15 _ _ _ _ _ _ _ _ _ _)
   | (with_reducible exact impl_ClockAfter.mono _ _ _ _)
   | (with_reducible exact impl_FirstMeeting.mono _ _ _ _ _)
   | (with_reducible exact impl_LeastLevelFor.mono _ _ _)
   | (with_reducible exact impl_LevelsOfClock.mono _ _ _)
   | (with_reducible exact impl_MarksOf.mono _ _ _ _)
   | (with_reducible exact impl_TimeOfLevel.mono _ _ _ _)
   | (with_reducible exact impl_TimeToEmpty.mono _ _ _)
   | (with_reducible exact laws_eSame.mono _ _ _)
   | (with_reducible exact spec_ClockAfter.mono _ _ _ _)
   | (with_reducible exact spec_FirstMeeting.mono _ _ _ _ _)
   | (with_reducible exact spec_LeastLevelFor.mono _ _ _)
   | (with_reducible exact spec_LevelsOfClock.mono _ _ _)
   | (with_reducible exact spec_MarksOf.mono _ _ _ _)
   | (with_reducible exact spec_TimeOfLevel.mono _ _ _ _)
   | (with_reducible exact spec_TimeToEmpty.mono _ _ _)
   | (with_reducible exact LeO.refl _)
   | (with_reducible exact LeO.none _)
   | (with_reducible refine LeO.ite ?_ ?_)
   | (with_reducible refine LeO.bind ?_ (fun _ => ?_))
   | exact ih0 _ _ _ _ _ _ _
   | exact ih1 _
   | exact ih2 _ _ _ _ _ _ _ _ _ _ _ _
   | exact ih3 _ _ _ _ _ _
   | exact ih4 _
   | exact ih5 _ _ _ _ _ _ _ _ _ _ _
   | exact ih6 _ _ _ _ _ _
   | exact ih7 _ _ _ _ _ _
   | exact ih8 _ _ _ _ _ _
   | exact ih9 _ _ _ _ _ _ _ _ _ _
   | exact ih10 _ _ _ _ _ _
   | exact ih11 _ _ _ _ _ _ _ _ _ _ _ _
   | exact ih12 _ _ _ _ _ _ _ _ _ _ _ _ _ _
   | exact ih13 _ _ _ _ _
   | exact ih14 _ _ _ _ _ _ _
   | exact ih15 _ _ _ _ _ _ _ _ _ _
   | exact impl_ClockAfter.mono _ _ _ _
   | exact impl_FirstMeeting.mono _ _ _ _ _
   | exact impl_LeastLevelFor.mono _ _ _
   | exact impl_LevelsOfClock.mono _ _ _
   | exact impl_MarksOf.mono _ _ _ _
   | exact impl_TimeOfLevel.mono _ _ _ _
   | exact impl_TimeToEmpty.mono _ _ _
   | exact laws_eSame.mono _ _ _
   | exact spec_ClockAfter.mono _ _ _ _
   | exact spec_FirstMeeting.mono _ _ _ _ _
   | exact spec_LeastLevelFor.mono _ _ _
   | exact spec_LevelsOfClock.mono _ _ _
   | exact spec_MarksOf.mono _ _ _ _
   | exact spec_TimeOfLevel.mono _ _ _ _
   | exact spec_TimeToEmpty.mono _ _ _
   | exact LeO.none _
   | refine LeO.ite ?_ ?_
   | refine LeO.bind ?_ (fun _ => ?_)
  ·intro y0 y1 y2 y3 y4 y5
   unfold laws_FnClocksRun.j15
   repeat' first
   | (with_reducible exact ih0 _ _ _ _ _ _ _)
   | (with_reducible exact ih1 _)
   | (with_reducible exact ih2 _ _ _ _ _ _ _ _ _ _ _ _)
   | (with_reducible exact ih3 _ _ _ _ _ _)
   | (with_reducible exact ih4 _)
   | (with_reducible exact ih5 _ _ _ _ _ _ _ _ _ _ _)
   | (with_reducible exact ih6 _ _ _ _ _ _)
   | (with_reducible exact ih7 _ _ _ _ _ _)
   | (with_reducible exact ih8 _ _ _ _ _ _)
   | (with_reducible exact ih9 _ _ _ _ _ _ _ _ _ _)
   | (with_reducible exact ih10 _ _ _ _ _ _)
   | (with_reducible exact ih11 _ _ _ _ _ _ _ _ _ _ _ _)
   | (with_reducible exact ih12 _ _ _ _ _ _ _ _ _ _ _ _ _ _)
   | (with_reducible exact ih13 _ _ _ _ _)
   | (with_reducible exact ih14 _ _ _ _ _ _ _)
   | (with_reducible exact ih15 _ _ _ _ _ _ _ _ _ _)
   | (with_reducible exact impl_ClockAfter.mono _ _ _ _)
   | (with_reducible exact impl_FirstMeeting.mono _ _ _ _ _)
   | (with_reducible exact impl_LeastLevelFor.mono _ _ _)
   | (with_reducible exact impl_LevelsOfClock.mono _ _ _)
   | (with_reducible exact impl_MarksOf.mono _ _ _ _)
   | (with_reducible exact impl_TimeOfLevel.mono _ _ _ _)
   | (with_reducible exact impl_TimeToEmpty.mono _ _ _)
   | (with_reducible exact laws_eSame.mono _ _ _)
   | (with_reducible exact spec_ClockAfter.mono _ _ _ _)
   | (with_reducible exact spec_FirstMeeting.mono _ _ _ _ _)
   | (with_reducible exact spec_LeastLevelFor.mono _ _ _)
   | (with_reducible exact spec_LevelsOfClock.mono _ _ _)
   | (with_reducible exact spec_MarksOf.mono _ _ _ _)
   | (with_reducible exact spec_TimeOfLevel.mono _ _ _ _)
   | (with_reducible exact spec_TimeToEmpty.mono _ _ _)
   | (with_reducible exact LeO.refl _)
   | (with_reducible exact LeO.none _)
   | (with_reducible refine LeO.ite ?_ ?_)
   | (with_reducible refine LeO.bind ?_ (fun _ => ?_))
   | exact ih0 _ _ _ _ _ _ _
   | exact ih1 _
   | exact ih2 _ _ _ _ _ _ _ _ _ _ _ _
   | exact ih3 _ _ _ _ _ _
   | exact ih4 _
   | exact ih5 _ _ _ _ _ _ _ _ _ _ _
   | exact ih6 _ _ _ _ _ _
   | exact ih7 _ _ _ _ _ _
   | exact ih8 _ _ _ _ _ _
   | exact ih9 _ _ _ _ _ _ _ _ _ _
   | exact ih10 _ _ _ _ _ _
   | exact ih11 _ _ _ _ _ _ _ _ _ _ _ _
   | exact ih12 _ _ _ _ _ _ _ _ _ _ _ _ _ _
   | exact ih13 _ _ _ _ _
   | exact ih14 _ _ _ _ _ _ _
   | exact ih15 _ _ _ _ _ _ _ _ _ _
   | exact impl_ClockAfter.mono _ _ _ _
   | exact impl_FirstMeeting.mono _ _ _ _ _
   | exact impl_LeastLevelFor.mono _ _ _
   | exact impl_LevelsOfClock.mono _ _ _
   | exact impl_MarksOf.mono _ _ _ _
   | exact impl_TimeOfLevel.mono _ _ _ _
   | exact impl_TimeToEmpty.mono _ _ _
   | exact laws_eSame.mono _ _ _
   | exact spec_ClockAfter.mono _ _ _ _
   | exact spec_FirstMeeting.mono _ _ _ _ _
   | exact spec_LeastLevelFor.mono _ _ _
   | exact spec_LevelsOfClock.mono _ _ _
   | exact spec_MarksOf.mono _ _ _ _
   | exact spec_TimeOfLevel.mono _ _ _ _
   | exact spec_TimeToEmpty.mono _ _ _
   | exact LeO.none _
   | refine LeO.ite ?_ ?_
   | refine LeO.bind ?_ (fun _ => ?_)
  ·intro y0 y1 y2 y3 y4 y5 y6 y7 y8 y9
   unfold laws_FnClocksRun.j12
   repeat' first
   | (with_reducible exact ih0 _ _ _ _ _ _ _)
   | (with_reducible exact ih1 _)
   | (with_reducible exact ih2 _ _ _ _ _ _ _ _ _ _ _ _)
   | (with_reducible exact ih3 _ _ _ _ _ _)
   | (with_reducible exact ih4 _)
   | (with_reducible exact ih5 _ _ _ _ _ _ _ _ _ _ _)
   | (with_reducible exact ih6 _ _ _ _ _ _)
   | (with_reducible exact ih7 _ _ _ _ _ _)
   | (with_reducible exact ih8 _ _ _ _ _ _)
   | (with_reducible exact ih9 _ _ _ _ _ _ _ _ _ _)
   | (with_reducible exact ih10 _ _ _ _ _ _)
   | (with_reducible exact ih11 _ _ _ _ _ _ _ _ _ _ _ _)
   | (with_reducible exact ih12 _ _ _ _ _ _ _ _ _ _ _ _ _ _)
   | (with_reducible exact ih13 _ _ _ _ _)
   | (with_reducible exact ih14 _ _ _ _ _ _ _)
   | (with_reducible exact ih15 _ _ _ _ _ _ _ _ _ _)
   | (with_reducible exact impl_ClockAfter.mono _ _ _ _)
   | (with_reducible exact impl_FirstMeeting.mono _ _ _ _ _)
   | (with_reducible exact impl_LeastLevelFor.mono _ _ _)
   | (with_reducible exact impl_LevelsOfClock.mono _ _ _)
   | (with_reducible exact impl_MarksOf.mono _ _ _ _)
   | (with_reducible exact impl_TimeOfLevel.mono _ _ _ _)
   | (with_reducible exact impl_TimeToEmpty.mono _ _ _)
   | (with_reducible exact laws_eSame.mono _ _ _)
   | (with_reducible exact spec_ClockAfter.mono _ _ _ _)
   | (with_reducible exact spec_FirstMeeting.mono _ _ _ _ _)
   | (with_reducible exact spec_LeastLevelFor.mono _ _ _)
   | (with_reducible exact spec_LevelsOfClock.mono _ _ _)
   | (with_reducible exact spec_MarksOf.mono _ _ _ _)
   | (with_reducible exact spec_TimeOfLevel.mono _ _ _ _)
   | (with_reducible exact spec_TimeToEmpty.mono _ _ _)
   | (with_reducible exact LeO.refl _)
   | (with_reducible exact LeO.none _)
   | (with_reducible refine LeO.ite ?_ ?_)
   | (with_reducible refine LeO.bind ?_ (fun _ => ?_))
   | exact ih0 _ _ _ _ _ _ _
   | exact ih1 _
   | exact ih2 _ _ _ _ _ _ _ _ _ _ _ _
   | exact ih3 _ _ _ _ _ _
   | exact ih4 _
   | exact ih5 _ _ _ _ _ _ _ _ _ _ _
   | exact ih6 _ _ _ _ _ _
   | exact ih7 _ _ _ _ _ _
   | exact ih8 _ _ _ _ _ _
   | exact ih9 _ _ _ _ _ _ _ _ _ _
   | exact ih10 _ _ _ _ _ _
   | exact ih11 _ _ _ _ _ _ _ _ _ _ _ _
   | exact ih12 _ _ _ _ _ _ _ _ _ _ _ _ _ _
   | exact ih13 _ _ _ _ _
   | exact ih14 _ _ _ _ _ _ _
   | exact ih15 _ _ _ _ _ _ _ _ _ _
   | exact impl_ClockAfter.mono _ _ _ _
   | exact impl_FirstMeeting.mono _ _ _ _ _
   | exact impl_LeastLevelFor.mono _ _ _
   | exact impl_LevelsOfClock.mono _ _ _
   | exact impl_MarksOf.mono _ _ _ _
   | exact impl_TimeOfLevel.mono _ _ _ _
   | exact impl_TimeToEmpty.mono _ _ _
   | exact laws_eSame.mono _ _ _
   | exact spec_ClockAfter.mono _ _ _ _
   | exact spec_FirstMeeting.mono _ _ _ _ _
   | exact spec_LeastLevelFor.mono _ _ _
   | exact spec_LevelsOfClock.mono _ _ _
   | exact spec_MarksOf.mono _ _ _ _
   | exact spec_TimeOfLevel.mono _ _ _ _
   | exact spec_TimeToEmpty.mono _ _ _
   | exact LeO.none _
   | refine LeO.ite ?_ ?_
   | refine LeO.bind ?_ (fun _ => ?_)
  ·intro y0 y1 y2 y3 y4 y5
   unfold laws_FnClocksRun.j9
   repeat' first
   | (with_reducible exact ih0 _ _ _ _ _ _ _)
   | (with_reducible exact ih1 _)
   | (with_reducible exact ih2 _ _ _ _ _ _ _ _ _ _ _ _)
   | (with_reducible exact ih3 _ _ _ _ _ _)
   | (with_reducible exact ih4 _)
   | (with_reducible exact ih5 _ _ _ _ _ _ _ _ _ _ _)
   | (with_reducible exact ih6 _ _ _ _ _ _)
   | (with_reducible exact ih7 _ _ _ _ _ _)
   | (with_reducible exact ih8 _ _ _ _ _ _)
   | (with_reducible exact ih9 _ _ _ _ _ _ _ _ _ _)
   | (with_reducible exact ih10 _ _ _ _ _ _)
   | (with_reducible exact ih11 _ _ _ _ _ _ _ _ _ _ _ _)
   | (with_reducible exact ih12 _ _ _ _ _ _ _ _ _ _ _ _ _ _)
   | (with_reducible exact ih13 _ _ _ _ _)
   | (with_reducible exact ih14 _ _ _ _ _ _ _)
   | (with_reducible exact ih15 _ _ _ _ _ _ _ _ _ _)
   | (with_reducible exact impl_ClockAfter.mono _ _ _ _)
   | (with_reducible exact impl_FirstMeeting.mono _ _ _ _ _)
   | (with_reducible exact impl_LeastLevelFor.mono _ _ _)
   | (with_reducible exact impl_LevelsOfClock.mono _ _ _)
   | (with_reducible exact impl_MarksOf.mono _ _ _ _)
   | (with_reducible exact impl_TimeOfLevel.mono _ _ _ _)
   | (with_reducible exact impl_TimeToEmpty.mono _ _ _)
   | (with_reducible exact laws_eSame.mono _ _ _)
   | (with_reducible exact spec_ClockAfter.mono _ _ _ _)
   | (with_reducible exact spec_FirstMeeting.mono _ _ _ _ _)
   | (with_reducible exact spec_LeastLevelFor.mono _ _ _)
   | (with_reducible exact spec_LevelsOfClock.mono _ _ _)
   | (with_reducible exact spec_MarksOf.mono _ _ _ _)
   | (with_reducible exact spec_TimeOfLevel.mono _ _ _ _)
   | (with_reducible exact spec_TimeToEmpty.mono _ _ _)
   | (with_reducible exact LeO.refl _)
   | (with_reducible exact LeO.none _)
   | (with_reducible refine LeO.ite ?_ ?_)
   | (with_reducible refine LeO.bind ?_ (fun _ => ?_))
   | exact ih0 _ _ _ _ _ _ _
   | exact ih1 _
   | exact ih2 _ _ _ _ _ _ _ _ _ _ _ _
   | exact ih3 _ _ _ _ _ _
   | exact ih4 _
   | exact ih5 _ _ _ _ _ _ _ _ _ _ _
   | exact ih6 _ _ _ _ _ _
   | exact ih7 _ _ _ _ _ _
   | exact ih8 _ _ _ _ _ _
   | exact ih9 _ _ _ _ _ _ _ _ _ _
   | exact ih10 _ _ _ _ _ _
   | exact ih11 _ _ _ _ _ _ _ _ _ _ _ _
   | exact ih12 _ _ _ _ _ _ _ _ _ _ _ _ _ _
   | exact ih13 _ _ _ _ _
   | exact ih14 _ _ _ _ _ _ _
   | exact ih15 _ _ _ _ _ _ _ _ _ _
   | exact impl_ClockAfter.mono _ _ _ _
   | exact impl_FirstMeeting.mono _ _ _ _ _
   | exact impl_LeastLevelFor.mono _ _ _
   | exact impl_LevelsOfClock.mono _ _ _
   | exact impl_MarksOf.mono _ _ _ _
   | exact impl_TimeOfLevel.mono _ _ _ _
   | exact impl_TimeToEmpty.mono _ _ _
   | exact laws_eSame.mono _ _ _
   | exact spec_ClockAfter.mono _ _ _ _
   | exact spec_FirstMeeting.mono _ _ _ _ _
   | exact spec_LeastLevelFor.mono _ _ _
   | exact spec_LevelsOfClock.mono _ _ _
   | exact spec_MarksOf.mono _ _ _ _
   | exact spec_TimeOfLevel.mono _ _ _ _
   | exact spec_TimeToEmpty.mono _ _ _
   | exact LeO.none _
   | refine LeO.ite ?_ ?_
   | refine LeO.bind ?_ (fun _ => ?_)
  ·intro y0 y1 y2 y3 y4 y5 y6 y7 y8 y9 y10 y11
   unfold laws_FnClocksRun.j6
   repeat' first
   | (with_reducible exact ih0 _ _ _ _ _ _ _)
   | (with_reducible exact ih1 _)
   | (with_reducible exact ih2 _ _ _ _ _ _ _ _ _ _ _ _)
   | (with_reducible exact ih3 _ _ _ _ _ _)
   | (with_reducible exact ih4 _)
   | (with_reducible exact ih5 _ _ _ _ _ _ _ _ _ _ _)
   | (with_reducible exact ih6 _ _ _ _ _ _)
   | (with_reducible exact ih7 _ _ _ _ _ _)
   | (with_reducible exact ih8 _ _ _ _ _ _)
   | (with_reducible exact ih9 _ _ _ _ _ _ _ _ _ _)
   | (with_reducible exact ih10 _ _ _ _ _ _)
   | (with_reducible exact ih11 _ _ _ _ _ _ _ _ _ _ _ _)
   | (with_reducible exact ih12 _ _ _ _ _ _ _ _ _ _ _ _ _ _)
   | (with_reducible exact ih13 _ _ _ _ _)
   | (with_reducible exact ih14 _ _ _ _ _ _ _)
   | (with_reducible exact ih15 _ _ _ _ _ _ _ _ _ _)
   | (with_reducible exact impl_ClockAfter.mono _ _ _ _)
   | (with_reducible exact impl_FirstMeeting.mono _ _ _ _ _)
   | (with_reducible exact impl_LeastLevelFor.mono _ _ _)
   | (with_reducible exact impl_LevelsOfClock.mono _ _ _)
   | (with_reducible exact impl_MarksOf.mono _ _ _ _)
   | (with_reducible exact impl_TimeOfLevel.mono _ _ _ _)
   | (with_reducible exact impl_TimeToEmpty.mono _ _ _)
   | (with_reducible exact laws_eSame.mono _ _ _)
   | (with_reducible exact spec_ClockAfter.mono _ _ _ _)
   | (with_reducible exact spec_FirstMeeting.mono _ _ _ _ _)
   | (with_reducible exact spec_LeastLevelFor.mono _ _ _)
   | (with_reducible exact spec_LevelsOfClock.mono _ _ _)
   | (with_reducible exact spec_MarksOf.mono _ _ _ _)
   | (with_reducible exact spec_TimeOfLevel.mono _ _ _ _)
   | (with_reducible exact spec_TimeToEmpty.mono _ _ _)
   | (with_reducible exact LeO.refl _)
   | (with_reducible exact LeO.none _)
   | (with_reducible refine LeO.ite ?_ ?_)
   | (with_reducible refine LeO.bind ?_ (fun _ => ?_))
   | exact ih0 _ _ _ _ _ _ _
   | exact ih1 _
   | exact ih2 _ _ _ _ _ _ _ _ _ _ _ _
   | exact ih3 _ _ _ _ _ _
   | exact ih4 _
   | exact ih5 _ _ _ _ _ _ _ _ _ _ _
   | exact ih6 _ _ _ _ _ _
   | exact ih7 _ _ _ _ _ _
   | exact ih8 _ _ _ _ _ _
   | exact ih9 _ _ _ _ _ _ _ _ _ _
   | exact ih10 _ _ _ _ _ _
   | exact ih11 _ _ _ _ _ _ _ _ _ _ _ _
   | exact ih12 _ _ _ _ _ _ _ _ _ _ _ _ _ _
   | exact ih13 _ _ _ _ _
   | exact ih14 _ _ _ _ _ _ _
   | exact ih15 _ _ _ _ _ _ _ _ _ _
   | exact impl_ClockAfter.mono _ _ _ _
   | exact impl_FirstMeeting.mono _ _ _ _ _
   | exact impl_LeastLevelFor.mono _ _ _
   | exact impl_LevelsOfClock.mono _ _ _
   | exact impl_MarksOf.mono _ _ _ _
   | exact impl_TimeOfLevel.mono _ _ _ _
   | exact impl_TimeToEmpty.mono _ _ _
   | exact laws_eSame.mono _ _ _
   | exact spec_ClockAfter.mono _ _ _ _
   | exact spec_FirstMeeting.mono _ _ _ _ _
   | exact spec_LeastLevelFor.mono _ _ _
   | exact spec_LevelsOfClock.mono _ _ _
   | exact spec_MarksOf.mono _ _ _ _
   | exact spec_TimeOfLevel.mono _ _ _ _
   | exact spec_TimeToEmpty.mono _ _ _
   | exact LeO.none _
   | refine LeO.ite ?_ ?_
   | refine LeO.bind ?_ (fun _ => ?_)
  ·intro y0 y1 y2 y3 y4 y5 y6 y7 y8 y9 y10 y11 y12 y13
   unfold laws_FnClocksRun.l1
   repeat' first
   | (with_reducible exact ih0 _ _ _ _ _ _ _)
   | (with_reducible exact ih1 _)
   | (with_reducible exact ih2 _ _ _ _ _ _ _ _ _ _ _ _)
   | (with_reducible exact ih3 _ _ _ _ _ _)
   | (with_reducible exact ih4 _)
   | (with_reducible exact ih5 _ _ _ _ _ _ _ _ _ _ _)
   | (with_reducible exact ih6 _ _ _ _ _ _)
   | (with_reducible exact ih7 _ _ _ _ _ _)
   | (with_reducible exact ih8 _ _ _ _ _ _)
   | (with_reducible exact ih9 _ _ _ _ _ _ _ _ _ _)
   | (with_reducible exact ih10 _ _ _ _ _ _)
   | (with_reducible exact ih11 _ _ _ _ _ _ _ _ _ _ _ _)
   | (with_reducible exact ih12 _ _ _ _ _ _ _ _ _ _ _ _ _ _)
   | (with_reducible exact ih13 _ _ _ _ _)
   | (with_reducible exact ih14 _ _ _ _ _ _ _)
   | (with_reducible exact ih15 _ _ _ _ _ _ _ _ _ _)
   | (with_reducible exact impl_ClockAfter.mono _ _ _ _)
   | (with_reducible exact impl_FirstMeeting.mono _ _ _ _ _)
   | (with_reducible exact impl_LeastLevelFor.mono _ _ _)
   | (with_reducible exact impl_LevelsOfClock.mono _ _ _)
   | (with_reducible exact impl_MarksOf.mono _ _ _ _)
   | (with_reducible exact impl_TimeOfLevel.mono _ _ _ _)
   | (with_reducible exact impl_TimeToEmpty.mono _ _ _)
   | (with_reducible exact laws_eSame.mono _ _ _)
   | (with_reducible exact spec_ClockAfter.mono _ _ _ _)
   | (with_reducible exact spec_FirstMeeting.mono _ _ _ _ _)
   | (with_reducible exact spec_LeastLevelFor.mono _ _ _)
   | (with_reducible exact spec_LevelsOfClock.mono _ _ _)
   | (with_reducible exact spec_MarksOf.mono _ _ _ _)
   | (with_reducible exact spec_TimeOfLevel.mono _ _ _ _)
   | (with_reducible exact spec_TimeToEmpty.mono _ _ _)
   | (with_reducible exact LeO.refl _)
   | (with_reducible exact LeO.none _)
   | (with_reducible refine LeO.ite ?_ ?_)
   | (with_reducible refine LeO.bind ?_ (fun _ => ?_))
   | exact ih0 _ _ _ _ _ _ _
   | exact ih1 _
   | exact ih2 _ _ _ _ _ _ _ _ _ _ _ _
   | exact ih3 _ _ _ _ _ _
   | exact ih4 _
   | exact ih5 _ _ _ _ _ _ _ _ _ _ _
   | exact ih6 _ _ _ _ _ _
   | exact ih7 _ _ _ _ _ _
   | exact ih8 _ _ _ _ _ _
   | exact ih9 _ _ _ _ _ _ _ _ _ _
   | exact ih10 _ _ _ _ _ _
   | exact ih11 _ _ _ _ _ _ _ _ _ _ _ _
   | exact ih12 _ _ _ _ _ _ _ _ _ _ _ _ _ _
   | exact ih13 _ _ _ _ _
   | exact ih14 _ _ _ _ _ _ _
   | exact ih15 _ _ _ _ _ _ _ _ _ _
   | exact impl_ClockAfter.mono _ _ _ _
   | exact impl_FirstMeeting.mono _ _ _ _ _
   | exact impl_LeastLevelFor.mono _ _ _
   | exact impl_LevelsOfClock.mono _ _ _
   | exact impl_MarksOf.mono _ _ _ _
   | exact impl_TimeOfLevel.mono _ _ _ _
   | exact impl_TimeToEmpty.mono _ _ _
   | exact laws_eSame.mono _ _ _
   | exact spec_ClockAfter.mono _ _ _ _
   | exact spec_FirstMeeting.mono _ _ _ _ _
   | exact spec_LeastLevelFor.mono _ _ _
   | exact spec_LevelsOfClock.mono _ _ _
   | exact spec_MarksOf.mono _ _ _ _
   | exact spec_TimeOfLevel.mono _ _ _ _
   | exact spec_TimeToEmpty.mono _ _ _
   | exact LeO.none _
   | refine LeO.ite ?_ ?_
   | refine LeO.bind ?_ (fun _ => ?_)
  ·intro y0 y1 y2 y3 y4
   unfold laws_FnClocksRun.j1
   repeat' first
   | (with_reducible exact ih0 _ _ _ _ _ _ _)
   | (with_reducible exact ih1 _)
   | (with_reducible exact ih2 _ _ _ _ _ _ _ _ _ _ _ _)
   | (with_reducible exact ih3 _ _ _ _ _ _)
   | (with_reducible exact ih4 _)
   | (with_reducible exact ih5 _ _ _ _ _ _ _ _ _ _ _)
   | (with_reducible exact ih6 _ _ _ _ _ _)
   | (with_reducible exact ih7 _ _ _ _ _ _)
   | (with_reducible exact ih8 _ _ _ _ _ _)
   | (with_reducible exact ih9 _ _ _ _ _ _ _ _ _ _)
   | (with_reducible exact ih10 _ _ _ _ _ _)
   | (with_reducible exact ih11 _ _ _ _ _ _ _ _ _ _ _ _)
   | (with_reducible exact ih12 _ _ _ _ _ _ _ _ _ _ _ _ _ _)
   | (with_reducible exact ih13 _ _ _ _ _)
   | (with_reducible exact ih14 _ _ _ _ _ _ _)
   | (with_reducible exact ih15 _ _ _ _ _ _ _ _ _ _)
   | (with_reducible exact impl_ClockAfter.mono _ _ _ _)
   | (with_reducible exact impl_FirstMeeting.mono _ _ _ _ _)
   | (with_reducible exact impl_LeastLevelFor.mono _ _ _)
   | (with_reducible exact impl_LevelsOfClock.mono _ _ _)
   | (with_reducible exact impl_MarksOf.mono _ _ _ _)
   | (with_reducible exact impl_TimeOfLevel.mono _ _ _ _)
   | (with_reducible exact impl_TimeToEmpty.mono _ _ _)
   | (with_reducible exact laws_eSame.mono _ _ _)
   | (with_reducible exact spec_ClockAfter.mono _ _ _ _)
   | (with_reducible exact spec_FirstMeeting.mono _ _ _ _ _)
   | (with_reducible exact spec_LeastLevelFor.mono _ _ _)
   | (with_reducible exact spec_LevelsOfClock.mono _ _ _)
   | (with_reducible exact spec_MarksOf.mono _ _ _ _)
   | (with_reducible exact spec_TimeOfLevel.mono _ _ _ _)
   | (with_reducible exact spec_TimeToEmpty.mono _ _ _)
   | (with_reducible exact LeO.refl _)
   | (with_reducible exact LeO.none _)
   | (with_reducible refine LeO.ite ?_ ?_)
   | (with_reducible refine LeO.bind ?_ (fun _ => ?_))
   | exact ih0 _ _ _ _ _ _ _
   | exact ih1 _
   | exact ih2 _ _ _ _ _ _ _ _ _ _ _ _
   | exact ih3 _ _ _ _ _ _
   | exact ih4 _
   | exact ih5 _ _ _ _ _ _ _ _ _ _ _
   | exact ih6 _ _ _ _ _ _
   | exact ih7 _ _ _ _ _ _
   | exact ih8 _ _ _ _ _ _
   | exact ih9 _ _ _ _ _ _ _ _ _ _
   | exact ih10 _ _ _ _ _ _
   | exact ih11 _ _ _ _ _ _ _ _ _ _ _ _
   | exact ih12 _ _ _ _ _ _ _ _ _ _ _ _ _ _
   | exact ih13 _ _ _ _ _
   | exact ih14 _ _ _ _ _ _ _
   | exact ih15 _ _ _ _ _ _ _ _ _ _
   | exact impl_ClockAfter.mono _ _ _ _
   | exact impl_FirstMeeting.mono _ _ _ _ _
   | exact impl_LeastLevelFor.mono _ _ _
   | exact impl_LevelsOfClock.mono _ _ _
   | exact impl_MarksOf.mono _ _ _ _
   | exact impl_TimeOfLevel.mono _ _ _ _
   | exact impl_TimeToEmpty.mono _ _ _
   | exact laws_eSame.mono _ _ _
   | exact spec_ClockAfter.mono _ _ _ _
   | exact spec_FirstMeeting.mono _ _ _ _ _
   | exact spec_LeastLevelFor.mono _ _ _
   | exact spec_LevelsOfClock.mono _ _ _
   | exact spec_MarksOf.mono _ _ _ _
   | exact spec_TimeOfLevel.mono _ _ _ _
   | exact spec_TimeToEmpty.mono _ _ _
   | exact LeO.none _
   | refine LeO.ite ?_ ?_
   | refine LeO.bind ?_ (fun _ => ?_)
  ·intro y0 y1 y2 y3 y4 y5 y6
   unfold laws_FnClocksRun.l0
   repeat' first
   | (with_reducible exact ih0 _ _ _ _ _ _ _)
   | (with_reducible exact ih1 _)
   | (with_reducible exact ih2 _ _ _ _ _ _ _ _ _ _ _ _)
   | (with_reducible exact ih3 _ _ _ _ _ _)
   | (with_reducible exact ih4 _)
   | (with_reducible exact ih5 _ _ _ _ _ _ _ _ _ _ _)
   | (with_reducible exact ih6 _ _ _ _ _ _)
   | (with_reducible exact ih7 _ _ _ _ _ _)
   | (with_reducible exact ih8 _ _ _ _ _ _)
   | (with_reducible exact ih9 _ _ _ _ _ _ _ _ _ _)
   | (with_reducible exact ih10 _ _ _ _ _ _)
   | (with_reducible exact ih11 _ _ _ _ _ _ _ _ _ _ _ _)
   | (with_reducible exact ih12 _ _ _ _ _ _ _ _ _ _ _ _ _ _)
   | (with_reducible exact ih13 _ _ _ _ _)
   | (with_reducible exact ih14 _ _ _ _ _ _ _)
   | (with_reducible exact ih15 _ _ _ _ _ _ _ _ _ _)
   | (with_reducible exact impl_ClockAfter.mono _ _ _ _)
   | (with_reducible exact impl_FirstMeeting.mono _ _ _ _ _)
   | (with_reducible exact impl_LeastLevelFor.mono _ _ _)
   | (with_reducible exact impl_LevelsOfClock.mono _ _ _)
   | (with_reducible exact impl_MarksOf.mono _ _ _ _)
   | (with_reducible exact impl_TimeOfLevel.mono _ _ _ _)
   | (with_reducible exact impl_TimeToEmpty.mono _ _ _)
   | (with_reducible exact laws_eSame.mono _ _ _)
   | (with_reducible exact spec_ClockAfter.mono _ _ _ _)
   | (with_reducible exact spec_FirstMeeting.mono _ _ _ _ _)
   | (with_reducible exact spec_LeastLevelFor.mono _ _ _)
   | (with_reducible exact spec_LevelsOfClock.mono _ _ _)
   | (with_reducible exact spec_MarksOf.mono _ _ _ _)
   | (with_reducible exact spec_TimeOfLevel.mono _ _ _ _)
   | (with_reducible exact spec_TimeToEmpty.mono _ _ _)
   | (with_reducible exact LeO.refl _)
   | (with_reducible exact LeO.none _)
   | (with_reducible refine LeO.ite ?_ ?_)
   | (with_reducible refine LeO.bind ?_ (fun _ => ?_))
   | exact ih0 _ _ _ _ _ _ _
   | exact ih1 _
   | exact ih2 _ _ _ _ _ _ _ _ _ _ _ _
   | exact ih3 _ _ _ _ _ _
   | exact ih4 _
   | exact ih5 _ _ _ _ _ _ _ _ _ _ _
   | exact ih6 _ _ _ _ _ _
   | exact ih7 _ _ _ _ _ _
   | exact ih8 _ _ _ _ _ _
   | exact ih9 _ _ _ _ _ _ _ _ _ _
   | exact ih10 _ _ _ _ _ _
   | exact ih11 _ _ _ _ _ _ _ _ _ _ _ _
   | exact ih12 _ _ _ _ _ _ _ _ _ _ _ _ _ _
   | exact ih13 _ _ _ _ _
   | exact ih14 _ _ _ _ _ _ _
   | exact ih15 _ _ _ _ _ _ _ _ _ _
   | exact impl_ClockAfter.mono _ _ _ _
   | exact impl_FirstMeeting.mono _ _ _ _ _
   | exact impl_LeastLevelFor.mono _ _ _
   | exact impl_LevelsOfClock.mono _ _ _
   | exact impl_MarksOf.mono _ _ _ _
   | exact impl_TimeOfLevel.mono _ _ _ _
   | exact impl_TimeToEmpty.mono _ _ _
   | exact laws_eSame.mono _ _ _
   | exact spec_ClockAfter.mono _ _ _ _
   | exact spec_FirstMeeting.mono _ _ _ _ _
   | exact spec_LeastLevelFor.mono _ _ _
   | exact spec_LevelsOfClock.mono _ _ _
   | exact spec_MarksOf.mono _ _ _ _
   | exact spec_TimeOfLevel.mono _ _ _ _
   | exact spec_TimeToEmpty.mono _ _ _
   | exact LeO.none _
   | refine LeO.ite ?_ ?_
   | refine LeO.bind ?_ (fun _ => ?_)
  ·intro y0 y1 y2 y3 y4 y5 y6 y7 y8 y9
   unfold laws_FnClocksRun.j3
   repeat' first
   | (with_reducible exact ih0 _ _ _ _ _ _ _)
   | (with_reducible exact ih1 _)
   | (with_reducible exact ih2 _ _ _ _ _ _ _ _ _ _ _ _)
   | (with_reducible exact ih3 _ _ _ _ _ _)
   | (with_reducible exact ih4 _)
   | (with_reducible exact ih5 _ _ _ _ _ _ _ _ _ _ _)
   | (with_reducible exact ih6 _ _ _ _ _ _)
   | (with_reducible exact ih7 _ _ _ _ _ _)
   | (with_reducible exact ih8 _ _ _ _ _ _)
   | (with_reducible exact ih9 _ _ _ _ _ _ _ _ _ _)
   | (with_reducible exact ih10 _ _ _ _ _ _)
   | (with_reducible exact ih11 _ _ _ _ _ _ _ _ _ _ _ _)
   | (with_reducible exact ih12 _ _ _ _ _ _ _ _ _ _ _ _ _ _)
   | (with_reducible exact ih13 _ _ _ _ _)
   | (with_reducible exact ih14 _ _ _ _ _ _ _)
   | (with_reducible exact ih15 _ _ _ _ _ _ _ _ _ _)
   | (with_reducible exact impl_ClockAfter.mono _ _ _ _)
   | (with_reducible exact impl_FirstMeeting.mono _ _ _ _ _)
   | (with_reducible exact impl_LeastLevelFor.mono _ _ _)
   | (with_reducible exact impl_LevelsOfClock.mono _ _ _)
   | (with_reducible exact impl_MarksOf.mono _ _ _ _)
   | (with_reducible exact impl_TimeOfLevel.mono _ _ _ _)
   | (with_reducible exact impl_TimeToEmpty.mono _ _ _)
   | (with_reducible exact laws_eSame.mono _ _ _)
   | (with_reducible exact spec_ClockAfter.mono _ _ _ _)
   | (with_reducible exact spec_FirstMeeting.mono _ _ _ _ _)
   | (with_reducible exact spec_LeastLevelFor.mono _ _ _)
   | (with_reducible exact spec_LevelsOfClock.mono _ _ _)
   | (with_reducible exact spec_MarksOf.mono _ _ _ _)
   | (with_reducible exact spec_TimeOfLevel.mono _ _ _ _)
   | (with_reducible exact spec_TimeToEmpty.mono _ _ _)
   | (with_reducible exact LeO.refl _)
   | (with_reducible exact LeO.none _)
   | (with_reducible refine LeO.ite ?_ ?_)
   | (with_reducible refine LeO.bind ?_ (fun _ => ?_))
   | exact ih0 _ _ _ _ _ _ _
   | exact ih1 _
   | exact ih2 _ _ _ _ _ _ _ _ _ _ _ _
   | exact ih3 _ _ _ _ _ _
   | exact ih4 _
   | exact ih5 _ _ _ _ _ _ _ _ _ _ _
   | exact ih6 _ _ _ _ _ _
   | exact ih7 _ _ _ _ _ _
   | exact ih8 _ _ _ _ _ _
   | exact ih9 _ _ _ _ _ _ _ _ _ _
   | exact ih10 _ _ _ _ _ _
   | exact ih11 _ _ _ _ _ _ _ _ _ _ _ _
   | exact ih12 _ _ _ _ _ _ _ _ _ _ _ _ _ _
   | exact ih13 _ _ _ _ _
   | exact ih14 _ _ _ _ _ _ _
   | exact ih15 _ _ _ _ _ _ _ _ _ _
   | exact impl_ClockAfter.mono _ _ _ _
   | exact impl_FirstMeeting.mono _ _ _ _ _
   | exact impl_LeastLevelFor.mono _ _ _
   | exact impl_LevelsOfClock.mono _ _ _
   | exact impl_MarksOf.mono _ _ _ _
   | exact impl_TimeOfLevel.mono _ _ _ _
   | exact impl_TimeToEmpty.mono _ _ _
   | exact laws_eSame.mono _ _ _
   | exact spec_ClockAfter.mono _ _ _ _
   | exact spec_FirstMeeting.mono _ _ _ _ _
   | exact spec_LeastLevelFor.mono _ _ _
   | exact spec_LevelsOfClock.mono _ _ _
   | exact spec_MarksOf.mono _ _ _ _
   | exact spec_TimeOfLevel.mono _ _ _ _
   | exact spec_TimeToEmpty.mono _ _ _
   | exact LeO.none _
   | refine LeO.ite ?_ ?_
   | refine LeO.bind ?_ (fun _ => ?_)
theorem laws_FnClocksRun.mono : ∀ a0 a1 k, LeO (laws_FnClocksRun.f k a0 a1) (laws_FnClocksRun.f (k + 1) a0 a1) := by
 intro a0 a1 k
 obtain ⟨ih0, ih1, ih2, ih3, ih4, ih5, ih6, ih7, ih8, ih9, ih10, ih11, ih12, ih13, ih14, ih15⟩ := laws_FnClocksRun.mono_l k
 unfold laws_FnClocksRun.f
 repeat' first
   | (with_reducible exact ih0 _ _ _ _ _ _ _)
   | (with_reducible exact ih1 _)
   | (with_reducible exact ih2 _ _ _ _ _ _ _ _ _ _ _ _)
   | (with_reducible exact ih3 _ _ _ _ _ _)
   | (with_reducible exact ih4 _)
   | (with_reducible exact ih5 _ _ _ _ _ _ _ _ _ _ _)
   | (with_reducible exact ih6 _ _ _ _ _ _)
   | (with_reducible exact ih7 _ _ _ _ _ _)
   | (with_reducible exact ih8 _ _ _ _ _ _)
   | (with_reducible exact ih9 _ _ _ _ _ _ _ _ _ _)
   | (with_reducible exact ih10 _ _ _ _ _ _)
   | (with_reducible exact ih11 _ _ _ _ _ _ _ _ _ _ _ _)
   | (with_reducible exact ih12 _ _ _ _ _ _ _ _ _ _ _ _ _ _)
   | (with_reducible exact ih13 _ _ _ _ _)
   | (with_reducible exact ih14 _ _ _ _ _ _ _)
   | (with_reducible exact ih15 _ _ _ _ _ _ _ _ _ _)
   | (with_reducible exact impl_ClockAfter.mono _ _ _ _)
   | (with_reducible exact impl_FirstMeeting.mono _ _ _ _ _)
   | (with_reducible exact impl_LeastLevelFor.mono _ _ _)
   | (with_reducible exact impl_LevelsOfClock.mono _ _ _)
   | (with_reducible exact impl_MarksOf.mono _ _ _ _)
   | (with_reducible exact impl_TimeOfLevel.mono _ _ _ _)
   | (with_reducible exact impl_TimeToEmpty.mono _ _ _)
   | (with_reducible exact laws_eSame.mono _ _ _)
   | (with_reducible exact spec_ClockAfter.mono _ _ _ _)
   | (with_reducible exact spec_FirstMeeting.mono _ _ _ _ _)
   | (with_reducible exact spec_LeastLevelFor.mono _ _ _)
   | (with_reducible exact spec_LevelsOfClock.mono _ _ _)
   | (with_reducible exact spec_MarksOf.mono _ _ _ _)
   | (with_reducible exact spec_TimeOfLevel.mono _ _ _ _)
   | (with_reducible exact spec_TimeToEmpty.mono _ _ _)
   | (with_reducible exact LeO.refl _)
   | (with_reducible exact LeO.none _)
   | (with_reducible refine LeO.ite ?_ ?_)
   | (with_reducible refine LeO.bind ?_ (fun _ => ?_))
   | exact ih0 _ _ _ _ _ _ _
   | exact ih1 _
   | exact ih2 _ _ _ _ _ _ _ _ _ _ _ _
   | exact ih3 _ _ _ _ _ _
   | exact ih4 _
   | exact ih5 _ _ _ _ _ _ _ _ _ _ _
   | exact ih6 _ _ _ _ _ _
   | exact ih7 _ _ _ _ _ _
   | exact ih8 _ _ _ _ _ _
   | exact ih9 _ _ _ _ _ _ _ _ _ _
   | exact ih10 _ _ _ _ _ _
   | exact ih11 _ _ _ _ _ _ _ _ _ _ _ _
   | exact ih12 _ _ _ _ _ _ _ _ _ _ _ _ _ _
   | exact ih13 _ _ _ _ _
   | exact ih14 _ _ _ _ _ _ _
   | exact ih15 _ _ _ _ _ _ _ _ _ _
   | exact impl_ClockAfter.mono _ _ _ _
   | exact impl_FirstMeeting.mono _ _ _ _ _
   | exact impl_LeastLevelFor.mono _ _ _
   | exact impl_LevelsOfClock.mono _ _ _
   | exact impl_MarksOf.mono _ _ _ _
   | exact impl_TimeOfLevel.mono _ _ _ _
   | exact impl_TimeToEmpty.mono _ _ _
   | exact laws_eSame.mono _ _ _
   | exact spec_ClockAfter.mono _ _ _ _
   | exact spec_FirstMeeting.mono _ _ _ _ _
   | exact spec_LeastLevelFor.mono _ _ _
   | exact spec_LevelsOfClock.mono _ _ _
   | exact spec_MarksOf.mono _ _ _ _
   | exact spec_TimeOfLevel.mono _ _ _ _
   | exact spec_TimeToEmpty.mono _ _ _
   | exact LeO.none _
   | refine LeO.ite ?_ ?_
   | refine LeO.bind ?_ (fun _ => ?_)
def laws_FnClocksRun.T10 : Bool × List (List Nat × List Nat) := (true, [([], []), ([], []), ([0, 1], [0, 1]), ([2], [2]), ([3], [3]), ([3], [3]), ([4, 5, 3, 3], [3, 4, 5]), ([6, 3], [3, 6]), ([3, 7], [3, 7]), ([8, 6], [8]), ([9], [9]), ([9], [9]), ([10, 11, 9], [9, 10, 11]), ([9, 12], [9, 12]), ([13, 9], [13]), ([14], [14]), ([14], [14]), ([15, 16, 14], [14, 15, 16]), ([14, 17], [14, 17]), ([18, 14], [18]), ([19], [19]), ([19], [19]), ([20, 21, 19], [19, 20, 21]), ([19, 22], [19, 22]), ([23, 19], [23]), ([24], [24]), ([24], [24]), ([25, 26, 24], [24, 25, 26]), ([24, 27], [24, 27]), ([28, 24], [28]), ([29], [29]), ([29], [29]), ([31, 29, 29], [29, 31]), ([30, 32, 29], [29, 30, 32]), ([29, 33], [29, 33]), ([34, 32], [34]), ([35], [35]), ([36, 35, 35], [35, 36]), ([35], [35]), ([38, 37, 35], [35, 38]), ([37, 39, 35], [35, 37, 39]), ([35, 40], [35, 40]), ([41, 39], [41]), ([42], [42]), ([42], [42]), ([43, 44, 42], [42, 43, 44]), ([42, 45], [42, 45]), ([46, 42], [46]), ([47], [47]), ([48, 47, 47], [47, 48]), ([49], [49]), ([50, 49], [49, 50]), ([49, 51, 47], [47, 49, 51]), ([47, 52], [47, 52])])
def laws_FnClocksRun.B10 : List Nat := [0, 0, 3, 7, 15, 15, 63, 127, 255, 511, 1023, 1023, 4095, 8191, 16383, 32767, 32767, 131071, 262143, 524287, 1048575, 1048575, 4194303, 8388607, 16777215, 33554431, 33554431, 134217727, 268435455, 536870911, 1073741823, 1073741823, 3221225471, 8589934591, 17179869183, 34359738367, 68719476735, 137438953471, 68719476735, 549755813887, 1099511627775, 2199023255551, 4398046511103, 8796093022207, 8796093022207, 35184372088831, 70368744177663, 140737488355327, 281474976710655, 562949953421311, 1125899906842623, 2251799813685247, 4503599627370495, 9007199254740991]
theorem laws_FnClocksRun.tab10 : rtab .any (opsOf Try.f4 10) = laws_FnClocksRun.T10 := by kernel_rfl
theorem laws_FnClocksRun.bits10 : waitsOk laws_FnClocksRun.T10.2 laws_FnClocksRun.B10 = true := by kernel_rfl
def laws_FnClocksRun.T13 : Bool × List (List Nat × List Nat) := (true, [([], []), ([0], [0]), ([], []), ([2], [2]), ([1, 3], [1, 3]), ([4], [4]), ([5], [5]), ([6, 5], [5, 6]), ([7, 5], [5, 7]), ([5], [5]), ([9, 5], [5, 9]), ([8, 10, 5], [5, 8, 10]), ([5, 11], [5, 11]), ([12, 5], [12]), ([13], [13]), ([13], [13]), ([14, 15, 13], [13, 14, 15]), ([16, 13], [13, 16]), ([17, 13], [13, 17]), ([13, 18], [13, 18])])
def laws_FnClocksRun.B13 : List Nat := [0, 1, 0, 4, 15, 31, 63, 127, 255, 63, 575, 2047, 4095, 8191, 16383, 16383, 65535, 131071, 262143, 524287]
theorem laws_FnClocksRun.tab13 : rtab .any (opsOf Try.f4 13) = laws_FnClocksRun.T13 := by kernel_rfl
theorem laws_FnClocksRun.bits13 : waitsOk laws_FnClocksRun.T13.2 laws_FnClocksRun.B13 = true := by kernel_rfl
def laws_FnClocksRun.T21 : Bool × List (List Nat × List Nat) := (true, [([], []), ([0], [0]), ([1], [1]), ([2], [2]), ([2], [2]), ([4, 2], [2, 4]), ([3, 5, 2], [2, 3, 5]), ([6, 2], [2, 6]), ([2], [2]), ([7, 8, 2], [2, 7, 8]), ([2], [2]), ([2], [2]), ([11, 2], [2, 11]), ([10, 12, 2], [2, 10, 12]), ([13, 2], [2, 13]), ([2], [2]), ([15, 2], [2, 15]), ([14, 16, 2], [2, 14, 16]), ([17, 2], [2, 17]), ([2], [2]), ([19, 2], [2, 19]), ([18, 20, 2], [2, 18, 20]), ([9, 21, 2], [2, 9, 21]), ([22, 2, 2], [2, 22]), ([23], [23]), ([23], [23]), ([23], [23]), ([26, 23], [23, 26]), ([25, 27, 23], [23, 25, 27]), ([28, 23], [23, 28]), ([24, 29, 23], [23, 24, 29]), ([23, 30, 2], [2, 23, 30]), ([2, 31], [2, 31])])
def laws_FnClocksRun.B21 : List Nat := [0, 1, 3, 7, 7, 23, 63, 127, 7, 511, 7, 7, 2055, 7175, 15367, 7, 32775, 130055, 261127, 7, 524295, 2096135, 4194303, 8388607, 16777215, 16777215, 16777215, 83886079, 251658239, 520093695, 1073741823, 2147483647, 4294967295]
theorem laws_FnClocksRun.tab21 : rtab .any (opsOf Try.f4 21) = laws_FnClocksRun.T21 := by kernel_rfl
theorem laws_FnClocksRun.bits21 : waitsOk laws_FnClocksRun.T21.2 laws_FnClocksRun.B21 = true := by kernel_rfl
def laws_FnClocksRun.T42 : Bool × List (List Nat × List Nat) := (true, [([], []), ([], []), ([1], [1]), ([], []), ([2, 3], [2, 3]), ([], []), ([4, 5], [4, 5]), ([0, 6], [0, 6]), ([7], [7]), ([8], [8]), ([8], [8]), ([], []), ([11, 9, 7, 0, 1, 2, 3, 4, 5, 6, 7, 8, 9, 11], [9, 11]), ([10, 12, 0, 1, 2, 3, 4, 5, 6, 7, 8, 9, 10, 11, 12], [10])])
def laws_FnClocksRun.B42 : List Nat := [0, 0, 2, 0, 14, 0, 62, 127, 255, 511, 511, 0, 3071, 8191]
theorem laws_FnClocksRun.tab42 : rtab .any (opsOf Try.f4 42) = laws_FnClocksRun.T42 := by kernel_rfl
theorem laws_FnClocksRun.bits42 : waitsOk laws_FnClocksRun.T42.2 laws_FnClocksRun.B42 = true := by kernel_rfl

end Go.Proofs.Ytmlkdkeocbhajaa.C
