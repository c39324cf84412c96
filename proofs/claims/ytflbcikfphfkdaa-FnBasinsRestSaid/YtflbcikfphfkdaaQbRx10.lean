-- Functions of the program as plain functions, and that the calls come to them. Written by a program (ownprint.py); nothing here is trusted: Lean checks it.
import Derived.Test.YtflbcikfphfkdaaQbRx0
import Derived.Test.YtflbcikfphfkdaaQbRx2
import Derived.Test.YtflbcikfphfkdaaQbRx3
import Derived.Test.YtflbcikfphfkdaaQbRx4
import Derived.Test.YtflbcikfphfkdaaQbRx8
import Derived.Test.YtflbcikfphfkdaaQbRx9
namespace Go.Proofs.Ytflbcikfphfkdaa.R
open Go.RowKit Go.Proofs.YtflbcikfphfkdaaW.PrintWords Go.Proofs.YtflbcikfphfkdaaW.PrintLast Go.Proofs.YtflbcikfphfkdaaW.PrintMore Go.Proofs.Ytflbcikfphfkdaa.Sq
attribute [local go_sem] max2_int min2_int max_two min_two max_three min_three max_four min_four   -- for this text's walks alone
set_option linter.unusedVariables false
set_option linter.unusedSimpArgs false
mutual
def laws_FnBasinsRest.j0 : Nat → List Int → List (S30) → Int → Bool → Bool → Bool → Option (Bool)
 | 0, _, _, _, _, _, _ => none
 | k + 1, x1, x5, x6, x7, x11, x122 => if x122 = true then (some false) else (if x11 = true then (laws_FnBasinsRest.l0 k x1 x5 x6 x7 false false x5 (x5.length : Int) 0) else (laws_FnBasinsRest.j2 k x1 x5 x6 x7))
def laws_FnBasinsRest.j2 : Nat → List Int → List (S30) → Int → Bool → Option (Bool)
 | 0, _, _, _, _ => none
 | k + 1, x1, x5, x6, x7 => if x7 = true then (laws_FnBasinsRest.j3 k x1 x5 x6 (decide (x6 ≤ 60))) else (laws_FnBasinsRest.j3 k x1 x5 x6 false)
def laws_FnBasinsRest.j3 : Nat → List Int → List (S30) → Int → Bool → Option (Bool)
 | 0, _, _, _, _ => none
 | k + 1, x1, x5, x6, x153 => if x153 = true then (if 0 ≤ x6 then (if (x6 : Int).toNat ≤ 35184372088832 then ((impl_RowAfter.f k x5 (List.replicate (x6 : Int).toNat 0)).bind fun bt938 => ((impl_HeldInRow.f k bt938.1).bind fun bt942 => (if bt938.2 = true then (if bt942.2 = true then (laws_FnBasinsRest.j4 k x1 x5 x6 (bt942.1 != 0)) else (laws_FnBasinsRest.j4 k x1 x5 x6 true)) else (laws_FnBasinsRest.j4 k x1 x5 x6 true)))) else (none)) else (none)) else (laws_FnBasinsRest.j5 k x1)
def laws_FnBasinsRest.j5 : Nat → List Int → Option (Bool)
 | 0, _ => none
 | k + 1, x1 => (spec_DrawSteadyHeld.f k x1).bind fun bt953 => ((impl_SteadyHeld.f k bt953.1 bt953.2).bind fun bt957 => ((spec_SteadyHeld.f k bt953.1 bt953.2).bind fun bt961 => (if (bt957.2 != bt961.2) = true then (laws_FnBasinsRest.j6 k x1 bt953.1 bt953.2 bt957.1 bt957.2 true) else ((laws_hSame.f k bt957.1 bt961.1).bind fun t965 => (laws_FnBasinsRest.j6 k x1 bt953.1 bt953.2 bt957.1 bt957.2 (!t965))))))
def laws_FnBasinsRest.j6 : Nat → List Int → List (S30) → Int → List Int → Bool → Bool → Option (Bool)
 | 0, _, _, _, _, _, _ => none
 | k + 1, x1, x22, x23, x24, x25, x226 => if x226 = true then (some false) else (if x25 = true then (laws_FnBasinsRest.l1 k x1 x23 x24 ([] : List (S30)) x22 (x22.length : Int) 0) else (laws_FnBasinsRest.j8 k x1))
def laws_FnBasinsRest.j8 : Nat → List Int → Option (Bool)
 | 0, _ => none
 | k + 1, x1 => (spec_DrawLeastSize.f k x1).bind fun bt983 => ((impl_LeastSize.f k bt983.1 bt983.2.1 bt983.2.2).bind fun bt990 => ((spec_LeastSize.f k bt983.1 bt983.2.1 bt983.2.2).bind fun bt992 => ((impl_HeldAlong.f k bt983.1 bt983.2.1 bt983.2.2).bind fun bt994 => ((spec_HeldAlong.f k bt983.1 bt983.2.1 bt983.2.2).bind fun bt998 => ((spec_DrawTickRow.f k x1).bind fun bt1002 => ((impl_TickRow.f k bt1002.1 bt1002.2).bind fun bt1006 => ((spec_TickRow.f k bt1002.1 bt1002.2).bind fun bt1011 => (if (bt990.2 != bt992.2) = true then (laws_FnBasinsRest.j9 k bt983.1 bt983.2.1 bt983.2.2 bt990.1 bt990.2 true) else (if bt990.1 = bt992.1 then (if (bt994.2 != bt998.2) = true then (laws_FnBasinsRest.j9 k bt983.1 bt983.2.1 bt983.2.2 bt990.1 bt990.2 true) else ((laws_hSame.f k bt994.1 bt998.1).bind fun t1016 => (if t1016 = true then (if (bt1006.2.2 != bt1011.2.2) = true then (laws_FnBasinsRest.j9 k bt983.1 bt983.2.1 bt983.2.2 bt990.1 bt990.2 true) else ((laws_hBasins.f k bt1006.1 bt1011.1).bind fun t1017 => (if t1017 = true then (if bt1006.2.1 = bt1011.2.1 then (if bt990.2 = true then (laws_FnBasinsRest.j9 k bt983.1 bt983.2.1 bt983.2.2 bt990.1 bt990.2 (!bt994.2)) else (laws_FnBasinsRest.j9 k bt983.1 bt983.2.1 bt983.2.2 bt990.1 bt990.2 false)) else (laws_FnBasinsRest.j9 k bt983.1 bt983.2.1 bt983.2.2 bt990.1 bt990.2 true)) else (laws_FnBasinsRest.j9 k bt983.1 bt983.2.1 bt983.2.2 bt990.1 bt990.2 true)))) else (laws_FnBasinsRest.j9 k bt983.1 bt983.2.1 bt983.2.2 bt990.1 bt990.2 true)))) else (laws_FnBasinsRest.j9 k bt983.1 bt983.2.1 bt983.2.2 bt990.1 bt990.2 true))))))))))
def laws_FnBasinsRest.j9 : Nat → List (S30) → Int → List Int → Int → Bool → Bool → Option (Bool)
 | 0, _, _, _, _, _, _ => none
 | k + 1, x36, x37, x38, x39, x40, x378 => if x378 = true then (some false) else (if x40 = true then ((some (([x39, wrap64 (x39 - 1)] : List Int) : List Int)).bind fun y1018 => (laws_FnBasinsRest.l2 k x36 x37 x38 x39 y1018 (y1018.length : Int) 0)) else (some true))
def laws_FnBasinsRest.l2 : Nat → List (S30) → Int → List Int → Int → List Int → Int → Int → Option (Bool)
 | 0, _, _, _, _, _, _, _ => none
 | k + 1, x36, x37, x38, x39, x383, x384, x385 => if x385 < x384 then (if 0 ≤ x385 then (if x385 < (x383.length : Int) then (if (rd x383 x385) < 1 then (laws_FnBasinsRest.j11 k x36 x37 x38 x39 (rd x383 x385) x383 x384 x385 true) else (if 0 ≤ x37 then (if x37 < (x36.length : Int) then (laws_FnBasinsRest.j11 k x36 x37 x38 x39 (rd x383 x385) x383 x384 x385 (decide ((rd x383 x385) < ((rd_T30 x36 x37).f2)))) else (none)) else (none))) else (none)) else (none)) else (some true)
def laws_FnBasinsRest.j11 : Nat → List (S30) → Int → List Int → Int → Int → List Int → Int → Int → Bool → Option (Bool)
 | 0, _, _, _, _, _, _, _, _, _ => none
 | k + 1, x36, x37, x38, x39, x56, x383, x384, x385, x399 => if x399 = true then (laws_FnBasinsRest.l2 k x36 x37 x38 x39 x383 x384 (wrap64 (x385 + 1))) else (if ([] : List (S30)).length + x36.length < 5864062014805 then ((some (([] : List (S30)) ++ x36 : List (S30))).bind fun y1023 => (if 0 ≤ x37 then (if x37 < (x36.length : Int) then (if x37 < (y1023.length : Int) then ((impl_SpillsOf.f k (y1023.set (x37 : Int).toNat (⟨x56, (rd_T30 x36 x37).f1, (rd_T30 x36 x37).f2⟩ : S30)) x38).bind fun bt1029 => (if bt1029.2 = true then (if x37 < (bt1029.1.length : Int) then (if ((decide ((rd bt1029.1 x37) > 0)) != (decide (x56 < x39))) = true then (some false) else (laws_FnBasinsRest.l2 k x36 x37 x38 x39 x383 x384 (wrap64 (x385 + 1)))) else (none)) else (some false))) else (none)) else (none)) else (none))) else (none))
def laws_FnBasinsRest.l1 : Nat → List Int → Int → List Int → List (S30) → List (S30) → Int → Int → Option (Bool)
 | 0, _, _, _, _, _, _, _ => none
 | k + 1, x1, x23, x24, x28, x228, x229, x230 => if x230 < x229 then (if 0 ≤ x230 then (if x230 < (x228.length : Int) then (if x230 < (x24.length : Int) then (if x28.length < 5864062014805 then (laws_FnBasinsRest.l1 k x1 x23 x24 (x28 ++ [(⟨(rd_T30 x228 x230).f0, (rd_T30 x228 x230).f1, rd x24 x230⟩ : S30)]) x228 x229 (wrap64 (x230 + 1))) else (none)) else (none)) else (none)) else (none)) else ((impl_TickRow.f k x28 x23).bind fun bt972 => ((impl_SteadyHeld.f k x28 x23).bind fun bt977 => (if bt972.2.2 = true then ((laws_hBasins.f k bt972.1 x28).bind fun t981 => (if t981 = true then (if bt972.2.1 = x23 then (if bt977.2 = true then ((laws_hSame.f k bt977.1 x24).bind fun t982 => (if t982 = true then (laws_FnBasinsRest.j8 k x1) else (some false))) else (some false)) else (some false)) else (some false))) else (some false))))
def laws_FnBasinsRest.j4 : Nat → List Int → List (S30) → Int → Bool → Option (Bool)
 | 0, _, _, _, _ => none
 | k + 1, x1, x5, x6, x175 => if x175 = true then (some false) else (if x6 > 0 then (if 0 ≤ (wrap64 (x6 - 1)) then (if (wrap64 (x6 - 1) : Int).toNat ≤ 35184372088832 then ((impl_RowAfter.f k x5 (List.replicate (wrap64 (x6 - 1) : Int).toNat 0)).bind fun bt947 => ((impl_HeldInRow.f k bt947.1).bind fun bt951 => (if bt947.2 = true then (if bt951.2 = true then (if bt951.1 = 0 then (some false) else (laws_FnBasinsRest.j5 k x1)) else (some false)) else (some false)))) else (none)) else (none)) else (laws_FnBasinsRest.j5 k x1))
def laws_FnBasinsRest.l0 : Nat → List Int → List (S30) → Int → Bool → Bool → Bool → List (S30) → Int → Int → Option (Bool)
 | 0, _, _, _, _, _, _, _, _, _ => none
 | k + 1, x1, x5, x6, x7, x14, x15, x124, x125, x126 => if x126 < x125 then (if 0 ≤ x126 then (if x126 < (x124.length : Int) then (if x15 = true then (if x14 = true then (laws_FnBasinsRest.l0 k x1 x5 x6 x7 true true x124 x125 (wrap64 (x126 + 1))) else (laws_FnBasinsRest.l0 k x1 x5 x6 x7 (((rd_T30 x124 x126).f1) == 0) true x124 x125 (wrap64 (x126 + 1)))) else (if x14 = true then (laws_FnBasinsRest.l0 k x1 x5 x6 x7 true (decide (((rd_T30 x124 x126).f2) > 0)) x124 x125 (wrap64 (x126 + 1))) else (if ((rd_T30 x124 x126).f2) > 0 then (laws_FnBasinsRest.l0 k x1 x5 x6 x7 (((rd_T30 x124 x126).f1) == 0) (decide (((rd_T30 x124 x126).f2) > 0)) x124 x125 (wrap64 (x126 + 1))) else (laws_FnBasinsRest.l0 k x1 x5 x6 x7 false (decide (((rd_T30 x124 x126).f2) > 0)) x124 x125 (wrap64 (x126 + 1)))))) else (none)) else (none)) else (if (x7 == x14) = true then (some false) else (laws_FnBasinsRest.j2 k x1 x5 x6 x7))
end
def laws_FnBasinsRest.f (k : Nat) (l0 : List Int) (l1 : List Int) : Option (Bool) := (laws_big.f l0 l1).bind fun t918 => (if t918 = true then (some true) else ((spec_DrawTicksToEmpty.f k l0).bind fun t919 => ((impl_TicksToEmpty.f k t919).bind fun bt922 => ((spec_TicksToEmpty.f k t919).bind fun bt924 => ((impl_HeldInRow.f k t919).bind fun bt926 => ((spec_HeldInRow.f k t919).bind fun bt928 => (if (bt922.2 != bt924.2) = true then (laws_FnBasinsRest.j0 k l1 t919 bt922.1 bt922.2 bt926.2 true) else (if bt922.1 = bt924.1 then (if (bt926.2 != bt928.2) = true then (laws_FnBasinsRest.j0 k l1 t919 bt922.1 bt922.2 bt926.2 true) else (if bt926.1 = bt928.1 then ((impl_IsRow.f t919).bind fun t930 => (if (bt926.2 != t930) = true then (laws_FnBasinsRest.j0 k l1 t919 bt922.1 bt922.2 bt926.2 true) else ((impl_IsRow.f t919).bind fun t931 => ((spec_IsRow.f k t919).bind fun t932 => (if (t931 != t932) = true then (laws_FnBasinsRest.j0 k l1 t919 bt922.1 bt922.2 bt926.2 true) else (if bt922.2 = true then (laws_FnBasinsRest.j0 k l1 t919 bt922.1 bt922.2 bt926.2 (!bt926.2)) else (laws_FnBasinsRest.j0 k l1 t919 bt922.1 bt922.2 bt926.2 false))))))) else (laws_FnBasinsRest.j0 k l1 t919 bt922.1 bt922.2 bt926.2 true))) else (laws_FnBasinsRest.j0 k l1 t919 bt922.1 bt922.2 bt926.2 true)))))))))
def laws_FnBasinsRest.T41 : Bool × List (List Nat × List Nat) := (true, [([], []), ([], []), ([1], [1]), ([], []), ([3], [3]), ([], []), ([], []), ([5, 6], [5, 6]), ([7], [7]), ([2, 4, 8], [2, 4, 8]), ([9], [9]), ([0, 10], [0, 10]), ([11, 11, 0, 1, 2, 3, 4, 5, 6, 7, 8, 9, 10, 11], [0, 11])])
def laws_FnBasinsRest.B41 : List Nat := [0, 0, 2, 0, 8, 0, 0, 96, 224, 510, 1022, 2047, 4095]
theorem laws_FnBasinsRest.tab41 : rtab .any (opsOf Try.f3 41) = laws_FnBasinsRest.T41 := by kernel_rfl
theorem laws_FnBasinsRest.bits41 : waitsOk laws_FnBasinsRest.T41.2 laws_FnBasinsRest.B41 = true := by kernel_rfl
def laws_FnBasinsRest.T63 : Bool × List (List Nat × List Nat) := (true, [([], []), ([], []), ([], []), ([], []), ([], []), ([3, 4], [3, 4]), ([5], [5]), ([6], [6]), ([], []), ([], []), ([8, 9], [8, 9]), ([10], [10]), ([11], [11]), ([2, 7, 12], [2, 7, 12]), ([0, 1, 0, 1, 2, 3, 4, 5, 6, 7, 8, 9, 10, 11, 12, 13], [0, 1]), ([14, 13, 0, 1, 2, 3, 4, 5, 6, 7, 8, 9, 10, 11, 12, 13], [13, 14])])
def laws_FnBasinsRest.B63 : List Nat := [0, 0, 0, 0, 0, 24, 56, 120, 0, 0, 768, 1792, 3840, 8188, 16383, 32767]
theorem laws_FnBasinsRest.tab63 : rtab .any (opsOf Try.f3 63) = laws_FnBasinsRest.T63 := by kernel_rfl
theorem laws_FnBasinsRest.bits63 : waitsOk laws_FnBasinsRest.T63.2 laws_FnBasinsRest.B63 = true := by kernel_rfl
end Go.Proofs.Ytflbcikfphfkdaa.R
