/- spec.plAll: as a plain function, and that the calls come to it. -/
import Derived.Test.YtieioddimkafbaaTbVplP
namespace Go.Proofs.Ytieioddimkafbaa.V
open Go.RowKit Go.Proofs.YtieioddimkafbaaW.PrintWords Go.Proofs.YtieioddimkafbaaW.PrintLast Go.Proofs.YtieioddimkafbaaW.PrintMore Go.Proofs.Ytieioddimkafbaa.Sq Go.Proofs.Ytieioddimkafbaa.Sep
attribute [local go_sem] max2_int min2_int max_two min_two max_three min_three max_four min_four
set_option linter.unusedVariables false
set_option linter.unusedSimpArgs false
/-- A list with n put in at place q. -/
def plIns (l : List Int) (q n : Int) : List Int := l.take q.toNat ++ n :: l.drop q.toNat
theorem plIns_of (l : List Int) (q n : Int) (h0 : 0 ≤ q) (h1 : q ≤ (l.length : Int)) : ((l ++ [0]).take (q + 1).toNat ++ ((l ++ [0]).drop q.toNat).take ((l ++ [0]).length - (q + 1).toNat)).set q.toNat n = plIns l q n := by
 obtain ⟨p, rfl⟩ : ∃ p : Nat, q = (p : Int) := ⟨q.toNat, by omega⟩
 have hp : p ≤ l.length := by omega
 have e1 : ((p : Int) + 1).toNat = p + 1 := by omega
 rw [e1, Int.toNat_natCast]
 unfold plIns
 rw [Int.toNat_natCast]
 apply List.ext_getElem?
 intro j
 have hl1 : ((l ++ [0]).take (p + 1)).length = p + 1 := by simp; omega
 by_cases h2 : j = p
 · subst h2
   rw [List.getElem?_set_self (by rw [List.length_append, hl1]; omega), List.getElem?_append_right (by simp; omega)]
   simp [Nat.min_eq_left hp]
 · rw [List.getElem?_set_ne (Ne.symm h2)]
   rcases Nat.lt_or_ge j p with h3 | h3
   · rw [List.getElem?_append_left (by rw [hl1]; omega), List.getElem?_append_left (by simp; omega), List.getElem?_take, List.getElem?_take, if_pos (by omega), if_pos h3, List.getElem?_append_left (by omega)]
   · rw [List.getElem?_append_right (by rw [hl1]; omega), hl1, List.getElem?_append_right (by simp; omega), List.getElem?_take, List.getElem?_drop]
     have e2 : j - (l.take p).length = (j - (p + 1)) + 1 := by simp; omega
     rw [e2, List.getElem?_cons_succ, List.getElem?_drop]
     rcases Nat.lt_or_ge (j - (p + 1)) ((l ++ [0]).length - (p + 1)) with h4 | h4
     · rw [if_pos h4, List.getElem?_append_left (by simp at h4; omega)]
     · rw [if_neg (by omega), List.getElem?_eq_none (by simp at h4; omega)]
mutual
def spec_plAll.l0 : Nat → Bool → Int → List S35 → List Int → List S55 → List Int → List Int → Option (List S35 × List Int × List S55 × List Int × List Int × Bool)
 | 0, _, _, _, _, _, _, _ => none
 | k + 1, a, i, x0, x1, x2, x3, x4 => if i < (x0.length : Int) then (if 0 ≤ i then ((spec_veOn.f k (rd_T35 x0 i).f0 (rd_T35 x0 i).f1 a).bind fun ms => spec_plAll.l1 k a i ms 0 x0 x1 x2 x3 x4) else none) else some (x0, x1, x2, x3, x4, true)
def spec_plAll.l1 : Nat → Bool → Int → List S55 → Int → List S35 → List Int → List S55 → List Int → List Int → Option (List S35 × List Int × List S55 × List Int × List Int × Bool)
 | 0, _, _, _, _, _, _, _, _, _ => none
 | k + 1, a, i, ms, j, x0, x1, x2, x3, x4 => if j < (ms.length : Int) then (if 0 ≤ j ∧ 0 ≤ i ∧ i < (x0.length : Int) then ((spec_veMake.f (rd_T35 x0 i).f0 (rd_T35 x0 i).f1 (rd_T55 ms j).f0 (rd_T55 ms j).f1).bind fun n => (spec_plPlace.f k x0 x1 x2 x3 x4 n.1 n.2).bind fun p => if p.2 = true then spec_plAll.l1 k a i ms (wrap64 (j + 1)) x0 x1 x2 x3 x4 else (if x0.length ≤ 3000 ∧ x1.length ≤ 3000 ∧ x2.length ≤ 3000 ∧ x3.length ≤ 3000 ∧ x4.length ≤ 3000 ∧ i < (x3.length : Int) ∧ 0 ≤ p.1 ∧ p.1 ≤ (x4.length : Int) then (if 3000 < ((x0 ++ [(⟨n.1, n.2⟩ : S35)]).length : Int) then some (x0 ++ [⟨n.1, n.2⟩], x1 ++ [i], x2 ++ [⟨(rd_T55 ms j).f0, (rd_T55 ms j).f1⟩], x3 ++ [wrap64 (rd x3 i + 1)], plIns x4 p.1 (x0.length : Int), false) else spec_plAll.l1 k a i ms (wrap64 (j + 1)) (x0 ++ [⟨n.1, n.2⟩]) (x1 ++ [i]) (x2 ++ [⟨(rd_T55 ms j).f0, (rd_T55 ms j).f1⟩]) (x3 ++ [wrap64 (rd x3 i + 1)]) (plIns x4 p.1 (x0.length : Int))) else none)) else none) else spec_plAll.l0 k a (wrap64 (i + 1)) x0 x1 x2 x3 x4
end
def spec_plAll.f (k : Nat) (l0 l1 : List Int) (a : Bool) : Option (List S35 × List Int × List S55 × List Int × List Int × Bool) := spec_plAll.l0 k a 0 [⟨l0, l1⟩] [-1] [⟨0, 0⟩] [0] [0]
def spec_plAll.T8 : Bool × List (List Nat × List Nat) := (true, [([], []), ([0], [0]), ([1], [1]), ([2], [2]), ([], []), ([3, 4], [3, 4]), ([5], [5]), ([], []), ([6, 7], [6, 7]), ([], []), ([9, 8, 8, 0, 1, 2, 3, 4, 5, 6, 7, 8, 9], [8, 9])])
def spec_plAll.B8 : List Nat := [0, 1, 3, 7, 0, 31, 63, 0, 255, 0, 1023]
theorem spec_plAll.tab8 : rtab .any (opsOf Try.f52 8) = spec_plAll.T8 := by kernel_rfl
theorem spec_plAll.bits8 : waitsOk spec_plAll.T8.2 spec_plAll.B8 = true := by kernel_rfl
def spec_plAll.T11 : Bool × List (List Nat × List Nat) := (true, [([], []), ([], []), ([1], [1]), ([2], [2]), ([3], [3]), ([], []), ([5], [5]), ([4, 6], [4, 6]), ([0, 0, 1, 2, 3, 4, 5, 6, 7], [0]), ([8, 0, 1, 2, 3, 4, 5, 6, 7], [8]), ([9, 7, 7, 0, 1, 2, 3, 4, 5, 6, 7], [7, 9])])
def spec_plAll.B11 : List Nat := [0, 0, 2, 6, 14, 0, 32, 126, 255, 511, 1023]
theorem spec_plAll.tab11 : rtab .any (opsOf Try.f52 11) = spec_plAll.T11 := by kernel_rfl
theorem spec_plAll.bits11 : waitsOk spec_plAll.T11.2 spec_plAll.B11 = true := by kernel_rfl
def spec_plAll.T13 : Bool × List (List Nat × List Nat) := (true, [([], []), ([], []), ([1], [1]), ([2], [2]), ([3], [3]), ([], []), ([5], [5]), ([4, 6], [4, 6]), ([0, 0, 1, 2, 3, 4, 5, 6, 7], [0]), ([8, 0, 1, 2, 3, 4, 5, 6, 7], [8]), ([9, 7, 7, 0, 1, 2, 3, 4, 5, 6, 7], [7, 9])])
def spec_plAll.B13 : List Nat := [0, 0, 2, 6, 14, 0, 32, 126, 255, 511, 1023]
theorem spec_plAll.tab13 : rtab .any (opsOf Try.f52 13) = spec_plAll.T13 := by kernel_rfl
theorem spec_plAll.bits13 : waitsOk spec_plAll.T13.2 spec_plAll.B13 = true := by kernel_rfl
def spec_plAll.T14 : Bool × List (List Nat × List Nat) := (true, [([], []), ([], []), ([1], [1]), ([2], [2]), ([3], [3]), ([], []), ([5], [5]), ([6], [6]), ([7], [7]), ([], []), ([8, 9], [8, 9]), ([10], [10]), ([11], [11]), ([12], [12]), ([4, 13], [4, 13]), ([0, 0, 1, 2, 3, 4, 5, 6, 7, 8, 9, 10, 11, 12, 13, 14], [0]), ([15, 0, 1, 2, 3, 4, 5, 6, 7, 8, 9, 10, 11, 12, 13, 14], [15]), ([16, 14, 14, 0, 1, 2, 3, 4, 5, 6, 7, 8, 9, 10, 11, 12, 13, 14], [14, 16])])
def spec_plAll.B14 : List Nat := [0, 0, 2, 6, 14, 0, 32, 96, 224, 0, 992, 2016, 4064, 8160, 16382, 32767, 65535, 131071]
theorem spec_plAll.tab14 : rtab .any (opsOf Try.f52 14) = spec_plAll.T14 := by kernel_rfl
theorem spec_plAll.bits14 : waitsOk spec_plAll.T14.2 spec_plAll.B14 = true := by kernel_rfl
def spec_plAll.T16 : Bool × List (List Nat × List Nat) := (true, [([], []), ([0], [0]), ([1], [1]), ([2], [2]), ([], []), ([4], [4]), ([3, 5], [3, 5]), ([], []), ([7], [7]), ([8], [8]), ([9], [9]), ([], []), ([10, 11], [10, 11]), ([6, 12], [6, 12])])
def spec_plAll.B16 : List Nat := [0, 1, 3, 7, 0, 16, 63, 0, 128, 384, 896, 0, 3968, 8191]
theorem spec_plAll.tab16 : rtab .any (opsOf Try.f52 16) = spec_plAll.T16 := by kernel_rfl
theorem spec_plAll.bits16 : waitsOk spec_plAll.T16.2 spec_plAll.B16 = true := by kernel_rfl
def spec_plAll.T17 : Bool × List (List Nat × List Nat) := (true, [([], []), ([0], [0]), ([1], [1]), ([2], [2]), ([], []), ([], []), ([5], [5]), ([6], [6]), ([7], [7]), ([8], [8]), ([9], [9]), ([3, 4, 0, 1, 2, 3, 4, 5, 6, 7, 8, 9, 10], [3, 4]), ([11, 10, 0, 1, 2, 3, 4, 5, 6, 7, 8, 9, 10], [10, 11])])
def spec_plAll.B17 : List Nat := [0, 1, 3, 7, 0, 0, 32, 96, 224, 480, 992, 2047, 4095]
theorem spec_plAll.tab17 : rtab .any (opsOf Try.f52 17) = spec_plAll.T17 := by kernel_rfl
theorem spec_plAll.bits17 : waitsOk spec_plAll.T17.2 spec_plAll.B17 = true := by kernel_rfl
set_option maxHeartbeats 8000000 in
set_option maxRecDepth 100000 in
theorem spec_plAll.calls (k : Nat) (F0 : Nat → Prop) (A0 : Option Addr) (c0 : Nat) (l0 : List Int) (A1 : Option Addr) (c1 : Nat) (l1 : List Int) (a1 : Bool) (r1 : List S35) (r2 : List Int) (r3 : List S55) (r4 r5 : List Int) (r6 : Bool) (w : World) (hr : Foot (fun w => Kd.C (Kd.int .i64) w A0 l0.length l0 ∧ Kd.C (Kd.int .i64) w A1 l1.length l1) w F0) (hc0 : l0.length ≤ c0) (hc1 : l1.length ≤ c1) (h : spec_plAll.f k l0 l1 a1 = some (r1, r2, r3, r4, r5, r6)) :
  Calls Try.prog 52 #[.agg #[.slice A0 l0.length c0, .slice A1 l1.length c1], .bool a1] w fun e w' => ∃ (g : Nat) (v0 v1 v2 v3 v4 : Value), e = .returned (.tuple #[.pointer (some ⟨g, 0, none⟩), .bool r6]) ∧ w.heap.size ≤ g ∧ Sep (fun k => F0 k ∨ w.heap.size ≤ k) w' (plC w.heap.size g v0 v1 v2 v3 v4 r1 r2 r3 r4 r5) ∧ Below w.heap.size w w' := by
 have hu29 := Try.underlying35
 have hu80 := Try.underlying62
 have hu49 := Try.underlying55
 have HS := SB.start w (fun k => F0 k ∨ w.heap.size ≤ k) _ F0 hr (fun _ hk => .inl hk) (fun _ hk => .inr hk)
 have H' := Aside0.mk (show spec_plAll.l0 k a1 0 [⟨l0, l1⟩] [-1] [⟨0, 0⟩] [0] [0] = some (r1, r2, r3, r4, r5, r6) from h)
 clear h hr
 go_enter Try.func52, Try.ntmps52
 go_wp2_with (first | ((with_reducible refine gate_dst (N := 2) rfl ?_); refine SB.bx HS 2 #[.slice A0 l0.length c0, .slice A1 l1.length c1] 35 ?_; clear HS; intro g2 w3 HS G2; have hk2 := SB.cells (g := g2) (cells := #[.slice A0 l0.length c0, .slice A1 l1.length c1]) (t := 35) HS 1; have hcz2_0 := bc0 hk2; have hcz2_1 := bc1 hk2) | ((with_reducible refine gate_dst (N := 14) rfl ?_); refine SB.litN HS 14 k35 35 [(⟨l0, l1⟩ : S35)] [.slice A0 l0.length c0, .slice A1 l1.length c1] ?hp ?_; (case hp => exact Reps.c2 (show Kd.FK k35 _ _ (⟨l0, l1⟩ : S35) [.slice A0 l0.length c0, .slice A1 l1.length c1] from k35_mkF _ _ (⟨l0, l1⟩ : S35) hc0 ((SB.foot (Q := fun w => Kd.C (Kd.int .i64) w A0 l0.length l0 ∧ Kd.C (Kd.int .i64) w A1 l1.length l1) HS 0).imp (fun _ h => h.1)) hc1 ((SB.foot (Q := fun w => Kd.C (Kd.int .i64) w A0 l0.length l0 ∧ Kd.C (Kd.int .i64) w A1 l1.length l1) HS 0).imp (fun _ h => h.2))) (Reps.none _ _)); clear HS; intro v0 w5 HS) | ((with_reducible refine gate_dst (N := 15) rfl ?_); refine SB.lit HS 15 (Kd.int .i64) 3 [(-1 : Int)] [.int .i64 (-1)] ?hp ?_; (case hp => exact Reps.one (show Kd.M (Kd.int .i64) _ _ _ (-1) [.int .i64 (-1)] from rfl) (Reps.none _ _)); clear HS; intro v1 w_15 HS) | ((with_reducible refine gate_dst (N := 17) rfl ?_); refine SB.lit HS 17 k55 55 [(⟨0, 0⟩ : S55)] [.int .i64 0, .int .i64 0] ?hp ?_; (case hp => exact Reps.c2 (show Kd.M k55 _ _ _ (⟨0, 0⟩ : S55) [.int .i64 0, .int .i64 0] from k55_mkM _ _ _ (⟨0, 0⟩ : S55)) (Reps.none _ _)); clear HS; intro v2 w_17 HS) | ((with_reducible refine gate_dst (N := 18) rfl ?_); refine SB.lit HS 18 (Kd.int .i64) 3 [(0 : Int)] [.int .i64 (0)] ?hp ?_; (case hp => exact Reps.one (show Kd.M (Kd.int .i64) _ _ _ (0) [.int .i64 (0)] from rfl) (Reps.none _ _)); clear HS; intro v3 w_18 HS) | ((with_reducible refine gate_dst (N := 19) rfl ?_); refine SB.lit HS 19 (Kd.int .i64) 3 [(0 : Int)] [.int .i64 (0)] ?hp ?_; (case hp => exact Reps.one (show Kd.M (Kd.int .i64) _ _ _ (0) [.int .i64 (0)] from rfl) (Reps.none _ _)); clear HS; intro v4 w_19 HS; obtain ⟨B0, d0, rfl⟩ := Kd.N_slice (SB.nrows HS 2 (v := v0)); obtain ⟨B1, d1, rfl⟩ := Kd.R_slice (SB.rows HS 3 (v := v1)); obtain ⟨B2, d2, rfl⟩ := Kd.R_slice (SB.rows HS 4 (v := v2)); obtain ⟨B3, d3, rfl⟩ := Kd.R_slice (SB.rows HS 5 (v := v3)); obtain ⟨B4, d4, rfl⟩ := Kd.R_slice (SB.rows HS 6 (v := v4))) | ((with_reducible refine gate_dst (N := 21) rfl ?_); refine SB.bx HS 21 #[.slice B0 [(⟨l0, l1⟩ : S35)].length d0, .slice B1 [(-1 : Int)].length d1, .slice B2 [(⟨0, 0⟩ : S55)].length d2, .slice B3 [(0 : Int)].length d3, .slice B4 [(0 : Int)].length d4] 62 ?_; clear HS; intro g w_21 HS G; replace HS := SB.drop HS 2))
 try simp only [Act.put, List.setIfInBounds_toArray, List.set_cons_zero, List.set_cons_succ]
 go_loopg [7] k (fun kq v7 w' => ∃ (i : Int) (x0 : List S35) (x1 : List Int) (x2 : List S55) (x3 x4 : List Int) (v0 v1 v2 v3 v4 : Value), v7 = .int .i64 i ∧ Aside0 (spec_plAll.l0 kq a1 i x0 x1 x2 x3 x4 = some (r1, r2, r3, r4, r5, r6)) ∧ Aside0 (kq ≤ k) ∧ SB (fun k => F0 k ∨ w.heap.size ≤ k) w w' (plC w.heap.size g v0 v1 v2 v3 v4 x0 x1 x2 x3 x4))
 case atStart => exact ⟨0, _, _, _, _, _, _, _, _, _, _, rfl, H', ⟨Nat.le_refl _⟩, HS⟩
 case round =>
  clear H' HS
  try clear hcz2_0 hcz2_1 hk2
  obtain ⟨i, x0, x1, x2, x3, x4, v0, v1, v2, v3, v4, rfl, HA, HK1, HS⟩ := hrel
  obtain ⟨B0, d0, rfl⟩ := Kd.N_slice (SB.nrows HS 0 (v := v0)); obtain ⟨B1, d1, rfl⟩ := Kd.R_slice (SB.rows HS 1 (v := v1)); obtain ⟨B2, d2, rfl⟩ := Kd.R_slice (SB.rows HS 2 (v := v2)); obtain ⟨B3, d3, rfl⟩ := Kd.R_slice (SB.rows HS 3 (v := v3)); obtain ⟨B4, d4, rfl⟩ := Kd.R_slice (SB.rows HS 4 (v := v4))
  cases gk with
  | zero => exact absurd HA.out (by simp [spec_plAll.l0])
  | succ k1 =>
   have H := HA.out
   clear HA
   simp only [spec_plAll.l0] at H
   have hk5 := SB.cells (g := g) (cells := #[.slice B0 x0.length d0, .slice B1 x1.length d1, .slice B2 x2.length d2, .slice B3 x3.length d3, .slice B4 x4.length d4]) (t := 62) HS 5
   have hcz5_0 := bc0 hk5
   have hcz5_1 := bc1 hk5
   have hcz5_2 := bc2 hk5
   have hcz5_3 := bc3 hk5
   have hcz5_4 := bc4 hk5
   by_cases c21 : i < (x0.length : Int)
   rotate_left
   · rw [if_neg c21] at H
     have c21b0 : decide (i < (x0.length : Int)) = false := decide_eq_false c21
     clear c21
     simp only [Option.some.injEq, Prod.mk.injEq] at H
     obtain ⟨rfl, rfl, rfl, rfl, rfl, rfl⟩ := H
     go_wp2
     go_ret2
     exact ⟨g, _, _, _, _, _, rfl, G.out, HS.s, HS.b⟩
   rw [if_pos c21] at H
   have c21b0 : decide (i < (x0.length : Int)) = true := decide_eq_true c21
   by_cases c22 : 0 ≤ i
   rotate_left
   · rw [if_neg c22] at H
     exact absurd H (by simp)
   rw [if_pos c22] at H
   have c22b0 : decide (0 ≤ i) = true := decide_eq_true c22
   replace H := Option.bind_eq_some_iff.mp H
   obtain ⟨ms, A23, H⟩ := H
   have H' := Aside0.mk H
   clear H
   have A23' := Aside0.mk A23
   clear A23
   obtain ⟨ad, E0, e0, E1, e1, ee, hx0, hx1, hl0, hi0, hl1, hi1⟩ := at_T35 (Kd.N_reads' (SB.nrows HS 0 (v := .slice B0 x0.length d0))).2.2 i c22 c21
   cases ee
   have c21e := eq_true c21
   have c22e := eq_true c22
   clear c21 c22
   go_wp2_with (first | ((with_reducible refine gate_callee (f := 57) rfl ?_); refine gl 39 Try.func57 #[.agg #[.slice E0 (rd_T35 x0 i).f0.length e0, .slice E1 (rd_T35 x0 i).f1.length e1], .bool a1] ?_; (with_reducible refine (spec_veOn.calls k1 _ _ (rd_T35 x0 i).f0 _ _ (rd_T35 x0 i).f1 a1 ms _ ?side1 ?side2 ?side3 ?side4 A23'.out).mono ?_); (case side1 => exact cu hi0); (case side2 => exact hl0); (case side3 => exact cu hi1); (case side4 => exact hl1); rintro e w28 ⟨vm, rfl, ho, hb⟩; refine ⟨_, rfl, ?_⟩; obtain ⟨Bm, dm, rfl⟩ := Kd.R_slice ho; have hcm := (Kd.R_reads' ho).2.1; replace HS := SB.newRd HS hb (R_foot ho); clear ho hb))
   try simp only [Act.put, List.setIfInBounds_toArray, List.set_cons_zero, List.set_cons_succ]
   go_loopg [41] k1 (fun kq v41 w' => ∃ (j : Int) (x0 : List S35) (x1 : List Int) (x2 : List S55) (x3 x4 : List Int) (v0 v1 v2 v3 v4 : Value), v41 = .int .i64 j ∧ Aside0 (spec_plAll.l1 kq a1 i ms j x0 x1 x2 x3 x4 = some (r1, r2, r3, r4, r5, r6)) ∧ Aside0 (kq ≤ k1) ∧ SB (fun k => F0 k ∨ w.heap.size ≤ k) w w' (plC w.heap.size g v0 v1 v2 v3 v4 x0 x1 x2 x3 x4 ++ [rd (fun w => Kd.C k55 w Bm ms.length ms)]))
   case atStart => exact ⟨0, _, _, _, _, _, _, _, _, _, _, rfl, H', ⟨Nat.le_refl _⟩, HS⟩
   case round =>
    clear H' HS A23' hx0 hx1 hi0 hi1 hl0 hl1 hk5 c21b0 c22b0 c21e c22e
    try clear hcz5_0 hcz5_1 hcz5_2 hcz5_3 hcz5_4
    skip
    obtain ⟨j, x0, x1, x2, x3, x4, v0, v1, v2, v3, v4, rfl, HA, HK2, HS⟩ := hrel
    obtain ⟨B0, d0, rfl⟩ := Kd.N_slice (SB.nrows HS 0 (v := v0)); obtain ⟨B1, d1, rfl⟩ := Kd.R_slice (SB.rows HS 1 (v := v1)); obtain ⟨B2, d2, rfl⟩ := Kd.R_slice (SB.rows HS 2 (v := v2)); obtain ⟨B3, d3, rfl⟩ := Kd.R_slice (SB.rows HS 3 (v := v3)); obtain ⟨B4, d4, rfl⟩ := Kd.R_slice (SB.rows HS 4 (v := v4))
    cases gk with
    | zero => exact absurd HA.out (by simp [spec_plAll.l1])
    | succ k2 =>
     have H := HA.out
     clear HA
     simp only [spec_plAll.l1] at H
     have hk6 := SB.cells (g := g) (cells := #[.slice B0 x0.length d0, .slice B1 x1.length d1, .slice B2 x2.length d2, .slice B3 x3.length d3, .slice B4 x4.length d4]) (t := 62) HS 5
     have hcz6_0 := bc0 hk6
     have hcz6_1 := bc1 hk6
     have hcz6_2 := bc2 hk6
     have hcz6_3 := bc3 hk6
     have hcz6_4 := bc4 hk6
     by_cases c29 : j < (ms.length : Int)
     rotate_left
     · rw [if_neg c29] at H
       have c29b0 : decide (j < (ms.length : Int)) = false := decide_eq_false c29
       clear c29
       have H' := Aside0.mk H
       clear H
       go_wp2
       go_roundg k2
       case measure => have := HK1.out; have := HK2.out; omega
       case rel => exact ⟨wrap64 (i + 1), _, _, _, _, _, _, _, _, _, _, rfl, H', ⟨by have := HK1.out; have := HK2.out; omega⟩, SB.take HS 6⟩
     rw [if_pos c29] at H
     have c29b0 : decide (j < (ms.length : Int)) = true := decide_eq_true c29
     by_cases c30 : 0 ≤ j ∧ 0 ≤ i ∧ i < (x0.length : Int)
     rotate_left
     · rw [if_neg c30] at H
       exact absurd H (by simp)
     rw [if_pos c30] at H
     obtain ⟨c30a, c30b, c30c⟩ := c30
     replace H := Option.bind_eq_some_iff.mp H
     obtain ⟨⟨n0, n1⟩, A34, H⟩ := H
     replace H := Option.bind_eq_some_iff.mp H
     obtain ⟨⟨p0, p1⟩, A35, H⟩ := H
     have A34' := Aside0.mk A34
     have A35' := Aside0.mk A35
     clear A34 A35
     dsimp only at H A35'
     obtain ⟨am, ema, hm0, hm1⟩ := at_T55 (SB.foot (Q := fun w => Kd.C k55 w Bm ms.length ms) HS 6).now j c30a c29
     cases ema
     have c29e := eq_true c29
     have c30ae := eq_true c30a
     clear c29 c30a
     try go_wp2_with (first | ((with_reducible refine gate_dst (N := 9) rfl ?_); refine SB.bx HS 9 #[.int .i64 0, .int .i64 0] 55 ?_; clear HS; intro g9 w76 HS G9; have hk9 := SB.cells (g := g9) (cells := #[.int .i64 0, .int .i64 0]) (t := 55) HS 7; have hcz9_0 := bc0 hk9; have hcz9_1 := bc1 hk9; have hfz9_0 := blk_frozen hk9.out 0; have hfz9_1 := blk_frozen hk9.out 1))
     replace HS := SB.set (SB.set HS 7 0 (.int .i64 (rd_T55 ms j).f0) #[(.int .i64 (rd_T55 ms j).f0), .int .i64 0] G9.out) 7 1 (.int .i64 (rd_T55 ms j).f1) #[(.int .i64 (rd_T55 ms j).f0), (.int .i64 (rd_T55 ms j).f1)] G9.out
     clear hk9 hcz9_0 hcz9_1 hfz9_0 hfz9_1 hm0 hm1
     try clear hk6 hcz6_0 hcz6_1 hcz6_2 hcz6_3 hcz6_4
     revert HS
     generalize (w76.setCell ⟨g9, 0, none⟩ (.int .i64 (rd_T55 ms j).f0)).setCell ⟨g9, 1, none⟩ (.int .i64 (rd_T55 ms j).f1) = w80
     intro HS
     replace HS := SB.up (W := w80.drew) HS
     have hk7 := SB.cells (g := g) (cells := #[.slice B0 x0.length d0, .slice B1 x1.length d1, .slice B2 x2.length d2, .slice B3 x3.length d3, .slice B4 x4.length d4]) (t := 62) HS 5
     have hk8 := SB.cells (g := g9) (cells := #[(.int .i64 (rd_T55 ms j).f0), (.int .i64 (rd_T55 ms j).f1)]) (t := 55) HS 7
     obtain ⟨ad, E0, e0, E1, e1, ee, hx0, hx1, hl0, hi0, hl1, hi1⟩ := at_T35 (Kd.N_reads' (SB.nrows HS 0 (v := .slice B0 x0.length d0))).2.2 i c30b c30c
     cases ee
     have c30be := eq_true c30b
     have c30ce := eq_true c30c
     refine start_ (n := 11) (S := fun w' => w'.cell? ⟨g, 0, none⟩ = some (.slice (some ad) x0.length d0) ∧ w'.cell? ⟨g9, 0, none⟩ = some (.int .i64 (rd_T55 ms j).f0) ∧ w'.cell? ⟨g9, 1, none⟩ = some (.int .i64 (rd_T55 ms j).f1) ∧ w'.cell? (ad.add (i.toNat * 2)) = some (.slice E0 (rd_T35 x0 i).f0.length e0) ∧ w'.cell? ⟨(ad.add (i.toNat * 2)).block, (ad.add (i.toNat * 2)).off + 1, none⟩ = some (.slice E1 (rd_T35 x0 i).f1.length e1)) (ds := [10]) (bl 11 0) (by kernel_rfl) rfl rfl ⟨bc0 hk7, bc0 hk8, bc1 hk8, hx0, hx1⟩ (fun hHeld => ?_)
     refine with_tabW spec_plAll.tab8 spec_plAll.bits8 (fun HT_ HW_ => ?_)
     clear hk7 hk8 hx0 hx1
     generalize w80.drew = w81 at HS hi0 hi1 hHeld ⊢
     refine pu 0 45 (bl 11 1) HT_.out (v := ?_) (a' := ?_) ?_ ?_ ?_
     rotate_left; (intro w'; go_simp; with_reducible rfl); rotate_left; (simp only [sqa, sqb, sqc, sqd, i64_w, i32_w]; rfl)
     refine pu 1 46 (bl 11 3) HT_.out (v := ?_) (a' := ?_) ?_ ?_ ?_
     rotate_left; (intro w'; go_simp; with_reducible rfl); rotate_left; (simp only [sqa, sqb, sqc, sqd, i64_w, i32_w]; rfl)
     refine pu 2 47 (bl 11 7) HT_.out (v := ?_) (a' := ?_) ?_ ?_ ?_
     rotate_left; (intro w'; go_simp; with_reducible rfl); rotate_left; (simp only [sqa, sqb, sqc, sqd, i64_w, i32_w]; rfl)
     refine pu 4 49 (bl 11 23) HT_.out (v := ?_) (a' := ?_) ?_ ?_ ?_
     rotate_left; (intro w'; go_simp; with_reducible rfl); rotate_left; (simp only [sqa, sqb, sqc, sqd, i64_w, i32_w]; rfl)
     refine tk 3 48 (bl 11 31) HT_.out HW_.out hHeld (v := ?_) (a' := ?_) ?_ ?_ ?_
     rotate_left; (rintro w' ⟨s0, s1, s2, s3, s4⟩; go_simp; with_reducible rfl); rotate_left; (simp only [sqa, sqb, sqc, sqd, i64_w, i32_w]; rfl)
     refine pu 5 50 (bl 11 63) HT_.out (v := ?_) (a' := ?_) ?_ ?_ ?_
     rotate_left; (intro w'; go_simp; with_reducible rfl); rotate_left; (simp only [sqa, sqb, sqc, sqd, i64_w, i32_w]; rfl)
     refine tk 6 51 (bl 11 127) HT_.out HW_.out hHeld (v := ?_) (a' := ?_) ?_ ?_ ?_
     rotate_left; (rintro w' ⟨s0, s1, s2, s3, s4⟩; go_simp; with_reducible rfl); rotate_left; (simp only [sqa, sqb, sqc, sqd, i64_w, i32_w]; rfl)
     refine tk 7 52 (bl 11 255) HT_.out HW_.out hHeld (v := ?_) (a' := ?_) ?_ ?_ ?_
     rotate_left; (rintro w' ⟨s0, s1, s2, s3, s4⟩; go_simp; with_reducible rfl); rotate_left; (simp only [sqa, sqb, sqc, sqd, i64_w, i32_w]; rfl)
     refine join_ (σ := Option Addr × Nat × Option Addr × Nat × Nat) 1 (bl 11 1023) (fun s => [(53, .agg #[.slice s.1 n0.length s.2.1, .slice s.2.2.1 n1.length s.2.2.2.1]), (10, .pointer (some ⟨s.2.2.2.2, 0, none⟩))]) (fun s w' => n0.length ≤ s.2.1 ∧ n1.length ≤ s.2.2.2.1 ∧ w.heap.size ≤ s.2.2.2.2 ∧ SB (fun k => F0 k ∨ w.heap.size ≤ k) w w' (plC w.heap.size g (.slice (some ad) x0.length d0) (.slice B1 x1.length d1) (.slice B2 x2.length d2) (.slice B3 x3.length d3) (.slice B4 x4.length d4) x0 x1 x2 x3 x4 ++ [rd (fun w => Kd.C k55 w (some am) ms.length ms), blk g9 #[(.int .i64 (rd_T55 ms j).f0), (.int .i64 (rd_T55 ms j).f1)] 55, rd (fun w => Kd.C (Kd.int .i64) w s.1 n0.length n0 ∧ Kd.C (Kd.int .i64) w s.2.2.1 n1.length n1), blk s.2.2.2.2 #[.slice none 0 0, .slice none 0 0] 35])) ?_ ?_
     rotate_left
     · intro hCont
       refine two_ (i := 8) (j := 9) (Ni := some 53) (Nj := some 10) (bl 11 511) (bl 11 767) rfl rfl rfl rfl (two_of HT_.out (by kernel_rfl)) (by decide) (by decide) (fun K hK => ?_) (fun K hK => ?_)
       · skip
         refine gs Try.func59 #[.agg #[.slice E0 (rd_T35 x0 i).f0.length e0, .slice E1 (rd_T35 x0 i).f1.length e1], .agg #[(.int .i64 (rd_T55 ms j).f0), (.int .i64 (rd_T55 ms j).f1)]] ?_
         with_reducible refine (spec_veMake.calls _ _ (rd_T35 x0 i).f0 _ _ (rd_T35 x0 i).f1 (rd_T55 ms j).f0 (rd_T55 ms j).f1 n0 n1 _ ?side1 ?side2 ?side3 ?side4 A34'.out).mono ?_
         (case side1 => exact cu hi0)
         (case side2 => exact hl0)
         (case side3 => exact cu hi1)
         (case side4 => exact hl1)
         rintro e w83 ⟨v5, v6, rfl, ho0, ho1, hb⟩
         obtain ⟨N0, m0, rfl⟩ := Kd.R_slice ho0
         obtain ⟨N1, m1, rfl⟩ := Kd.R_slice ho1
         have hn0 := (Kd.R_reads' ho0).2.1
         have hn1 := (Kd.R_reads' ho1).2.1
         refine ⟨_, rfl, ?_⟩
         replace HS := SB.newRd HS hb (foot_and (R_foot ho0) (R_foot ho1))
         refine hK.out _ _ ⟨cb hHeld.1 hb, cb hHeld.2.1 hb, cb hHeld.2.2.1 hb, cb hHeld.2.2.2.1 hb, cb hHeld.2.2.2.2 hb⟩ (fun hHeld => ?_)
         clear hK K
         refine norm_ (a' := ?_) ?_ ?_; rotate_left; (show Act.put _ (some 53) _ = _; simp only [sqa, sqb, sqc, sqd, i64_w, i32_w]; rfl)
         refine on 9 10 (bl 11 1023) HT_.out (fun K hK => ?_)
         refine SB.bx_step HS 10 #[.slice none 0 0, .slice none 0 0] 35 ?_
         clear HS
         intro g10 w84 HS G10 hb
         refine hK.out _ _ ⟨cb hHeld.1 hb, cb hHeld.2.1 hb, cb hHeld.2.2.1 hb, cb hHeld.2.2.2.1 hb, cb hHeld.2.2.2.2 hb⟩ (fun hHeld => ?_)
         clear hK K
         refine norm_ (a' := ?_) ?_ ?_; rotate_left; (show Act.put _ (some 10) _ = _; simp only [sqa, sqb, sqc, sqd, i64_w, i32_w]; rfl)
         exact norm_ (by simp only [putAll, Act.put, List.setIfInBounds_toArray, List.set_cons_zero, List.set_cons_succ]) (hCont (N0, m0, N1, m1, g10) _ ⟨hn0, hn1, G10.out, HS⟩)
       · skip
         refine SB.bx_step HS 10 #[.slice none 0 0, .slice none 0 0] 35 ?_
         clear HS
         intro g10 w83 HS G10 hb
         replace hi0 := Kd.C_below hi0 hb
         replace hi1 := Kd.C_below hi1 hb
         refine hK.out _ _ ⟨cb hHeld.1 hb, cb hHeld.2.1 hb, cb hHeld.2.2.1 hb, cb hHeld.2.2.2.1 hb, cb hHeld.2.2.2.2 hb⟩ (fun hHeld => ?_)
         clear hK K
         refine norm_ (a' := ?_) ?_ ?_; rotate_left; (show Act.put _ (some 10) _ = _; simp only [sqa, sqb, sqc, sqd, i64_w, i32_w]; rfl)
         refine on 8 53 (bl 11 1023) HT_.out (fun K hK => ?_)
         refine gs Try.func59 #[.agg #[.slice E0 (rd_T35 x0 i).f0.length e0, .slice E1 (rd_T35 x0 i).f1.length e1], .agg #[(.int .i64 (rd_T55 ms j).f0), (.int .i64 (rd_T55 ms j).f1)]] ?_
         with_reducible refine (spec_veMake.calls _ _ (rd_T35 x0 i).f0 _ _ (rd_T35 x0 i).f1 (rd_T55 ms j).f0 (rd_T55 ms j).f1 n0 n1 _ ?side1 ?side2 ?side3 ?side4 A34'.out).mono ?_
         (case side1 => exact cu hi0)
         (case side2 => exact hl0)
         (case side3 => exact cu hi1)
         (case side4 => exact hl1)
         rintro e w84 ⟨v5, v6, rfl, ho0, ho1, hb⟩
         obtain ⟨N0, m0, rfl⟩ := Kd.R_slice ho0
         obtain ⟨N1, m1, rfl⟩ := Kd.R_slice ho1
         have hn0 := (Kd.R_reads' ho0).2.1
         have hn1 := (Kd.R_reads' ho1).2.1
         refine ⟨_, rfl, ?_⟩
         replace HS := SB.newRd HS hb (foot_and (R_foot ho0) (R_foot ho1))
         refine hK.out _ _ ⟨cb hHeld.1 hb, cb hHeld.2.1 hb, cb hHeld.2.2.1 hb, cb hHeld.2.2.2.1 hb, cb hHeld.2.2.2.2 hb⟩ (fun hHeld => ?_)
         clear hK K
         refine norm_ (a' := ?_) ?_ ?_; rotate_left; (show Act.put _ (some 53) _ = _; simp only [sqa, sqb, sqc, sqd, i64_w, i32_w]; rfl)
         exact norm_ (by simp only [putAll, Act.put, List.setIfInBounds_toArray, List.set_cons_zero, List.set_cons_succ]) (hCont (N0, m0, N1, m1, g10) _ ⟨hn0, hn1, G10.out, SB.swap HS 8⟩)
     rintro ⟨N0, m0, N1, m1, g10⟩ w85 ⟨hn0, hn1, G10, HS'⟩
     clear HS hi0 hi1 hHeld
     have HS := HS'
     clear HS'
     replace hn0 : n0.length ≤ m0 := hn0
     replace hn1 : n1.length ≤ m1 := hn1
     replace G10 : w.heap.size ≤ g10 := G10
     refine norm_ (a' := ?_) ?_ ?_
     rotate_left
     · simp only [putAll, Act.put, List.setIfInBounds_toArray, List.set_cons_zero, List.set_cons_succ]
       rfl
     refine last_ (i := 10) (N := none) (bl 11 2047) rfl rfl (one_of HT_.out (by kernel_rfl)) (by decide) (fun K hK => ?_)
     have hk10 := SB.cells (g := g10) (cells := #[.slice none 0 0, .slice none 0 0]) (t := 35) HS 9
     have hcz10_0 := bc0 hk10
     have hcz10_1 := bc1 hk10
     have hfz10_0 := blk_frozen hk10.out 0
     have hfz10_1 := blk_frozen hk10.out 1
     refine skip_ (w1 := ?_) (by rfl) rfl ?_ ?_
     rotate_left
     · go_simp
       rfl
     refine hK.out _ _ ?_
     clear hK K
     refine done_ (done_of HT_.out (by kernel_rfl)) ?_
     clear HT_ HW_ hk10 hcz10_0 hcz10_1 hfz10_0 hfz10_1
     replace HS := SB.set (SB.set HS 9 0 (.slice N0 n0.length m0) #[.slice N0 n0.length m0, .slice none 0 0] G10) 9 1 (.slice N1 n1.length m1) #[.slice N0 n0.length m0, .slice N1 n1.length m1] G10
     revert HS
     generalize (w85.setCell ⟨g10, 0, none⟩ (.slice N0 n0.length m0)).setCell ⟨g10, 1, none⟩ (.slice N1 n1.length m1) = w90
     intro HS
     have HS : SB (fun k => F0 k ∨ w.heap.size ≤ k) w w90 (plC w.heap.size g (.slice (some ad) x0.length d0) (.slice B1 x1.length d1) (.slice B2 x2.length d2) (.slice B3 x3.length d3) (.slice B4 x4.length d4) (x0) (x1) (x2) (x3) (x4) ++ [rd (fun w => Kd.C k55 w (some am) ms.length ms), blk g9 #[(.int .i64 (rd_T55 ms j).f0), (.int .i64 (rd_T55 ms j).f1)] 55, rd (fun w => Kd.C (Kd.int .i64) w N0 n0.length n0 ∧ Kd.C (Kd.int .i64) w N1 n1.length n1), blk g10 #[.slice N0 n0.length m0, .slice N1 n1.length m1] 35]) := HS
     have hk11 := SB.cells (g := g10) (cells := #[.slice N0 n0.length m0, .slice N1 n1.length m1]) (t := 35) HS 9
     have hcz11_0 := bc0 hk11
     have hcz11_1 := bc1 hk11
     by_cases c36 : p1 = true
     · subst c36
       rw [if_pos rfl] at H
       have H' := Aside0.mk H
       clear H
       go_wp2_with (first | ((with_reducible refine gate_callee (f := 53) rfl ?_); refine gl 57 Try.func53 #[.pointer (some ⟨g, 0, none⟩), .agg #[.slice N0 n0.length m0, .slice N1 n1.length m1]] ?_; (with_reducible refine (spec_plPlace.sep k2 HS _ _ n0 _ _ n1 p0 true ?side1 ?side2 ?side3 ?side4 A35'.out).mono ?_); (case side1 => exact (SB.foot (Q := fun w => Kd.C (Kd.int .i64) w N0 n0.length n0 ∧ Kd.C (Kd.int .i64) w N1 n1.length n1) HS 8).now.1); (case side2 => exact hn0); (case side3 => exact (SB.foot (Q := fun w => Kd.C (Kd.int .i64) w N0 n0.length n0 ∧ Kd.C (Kd.int .i64) w N1 n1.length n1) HS 8).now.2); (case side4 => exact hn1); rintro e w100 ⟨rfl, hb⟩; refine ⟨_, rfl, ?_⟩; replace HS := SB.call HS hb; clear hb))
       go_roundg k2
       case measure => have := HK1.out; have := HK2.out; omega
       case rel => exact ⟨wrap64 (j + 1), _, _, _, _, _, _, _, _, _, _, rfl, H', ⟨by have := HK1.out; have := HK2.out; omega⟩, SB.take HS 7⟩
     replace c36 := Bool.eq_false_iff.mpr c36
     subst c36
     rw [if_neg (by simp)] at H
     by_cases c37 : x0.length ≤ 3000 ∧ x1.length ≤ 3000 ∧ x2.length ≤ 3000 ∧ x3.length ≤ 3000 ∧ x4.length ≤ 3000 ∧ i < (x3.length : Int) ∧ 0 ≤ p0 ∧ p0 ≤ (x4.length : Int)
     rotate_left
     · rw [if_neg c37] at H
       exact absurd H (by simp)
     rw [if_pos c37] at H
     obtain ⟨M0, M1, M2, M3, M4, c38, c39, c40⟩ := c37
     obtain ⟨y0, hy0⟩ : ∃ y_ : List S35, y_ = x0 ++ [(⟨n0, n1⟩ : S35)] := ⟨_, rfl⟩
     rw [← hy0] at H
     obtain ⟨y1, hy1⟩ : ∃ y_ : List Int, y_ = x1 ++ [i] := ⟨_, rfl⟩
     rw [← hy1] at H
     obtain ⟨y2, hy2⟩ : ∃ y_ : List S55, y_ = x2 ++ [(⟨(rd_T55 ms j).f0, (rd_T55 ms j).f1⟩ : S55)] := ⟨_, rfl⟩
     rw [← hy2] at H
     obtain ⟨y3, hy3⟩ : ∃ y_ : List Int, y_ = x3 ++ [wrap64 (rd x3 i + 1)] := ⟨_, rfl⟩
     rw [← hy3] at H
     obtain ⟨y4, hy4⟩ : ∃ y_ : List Int, y_ = plIns x4 p0 (x0.length : Int) := ⟨_, rfl⟩
     rw [← hy4] at H
     have Ny0 := Aside0.mk hy0
     clear hy0
     have Ny1 := Aside0.mk hy1
     clear hy1
     have Ny2 := Aside0.mk hy2
     clear hy2
     have Ny3 := Aside0.mk hy3
     clear hy3
     have Ny4 := Aside0.mk hy4
     clear hy4
     have H' := Aside0.mk H
     clear H
     try go_wp2_with (first | ((with_reducible refine gate_callee (f := 53) rfl ?_); refine gl 57 Try.func53 #[.pointer (some ⟨g, 0, none⟩), .agg #[.slice N0 n0.length m0, .slice N1 n1.length m1]] ?_; (with_reducible refine (spec_plPlace.sep k2 HS _ _ n0 _ _ n1 p0 false ?side1 ?side2 ?side3 ?side4 A35'.out).mono ?_); (case side1 => exact (SB.foot (Q := fun w => Kd.C (Kd.int .i64) w N0 n0.length n0 ∧ Kd.C (Kd.int .i64) w N1 n1.length n1) HS 8).now.1); (case side2 => exact hn0); (case side3 => exact (SB.foot (Q := fun w => Kd.C (Kd.int .i64) w N0 n0.length n0 ∧ Kd.C (Kd.int .i64) w N1 n1.length n1) HS 8).now.2); (case side4 => exact hn1); rintro e w100 ⟨rfl, hb⟩; refine ⟨_, rfl, ?_⟩; replace HS := SB.call HS hb; clear hb))
     clear hk11 hcz11_0 hcz11_1
     replace HS := SB.up (W := w100.drew) HS
     have HS : SB (fun k => F0 k ∨ w.heap.size ≤ k) w w100.drew (plC w.heap.size g (.slice (some ad) x0.length d0) (.slice B1 x1.length d1) (.slice B2 x2.length d2) (.slice B3 x3.length d3) (.slice B4 x4.length d4) (x0) (x1) (x2) (x3) (x4) ++ [rd (fun w => Kd.C k55 w (some am) ms.length ms), blk g9 #[(.int .i64 (rd_T55 ms j).f0), (.int .i64 (rd_T55 ms j).f1)] 55, rd (fun w => Kd.C (Kd.int .i64) w N0 n0.length n0 ∧ Kd.C (Kd.int .i64) w N1 n1.length n1), blk g10 #[.slice N0 n0.length m0, .slice N1 n1.length m1] 35]) := HS
     have hk12 := SB.cells (g := g) (cells := #[.slice (some ad) x0.length d0, .slice B1 x1.length d1, .slice B2 x2.length d2, .slice B3 x3.length d3, .slice B4 x4.length d4]) (t := 62) HS 5
     have hk13 := SB.cells (g := g10) (cells := #[.slice N0 n0.length m0, .slice N1 n1.length m1]) (t := 35) HS 9
     refine start_ (n := 11) (S := fun w' => w'.cell? ⟨g, 0, none⟩ = some (.slice (some ad) x0.length d0) ∧ w'.cell? ⟨g10, 0, none⟩ = some (.slice N0 n0.length m0) ∧ w'.cell? ⟨g10, 1, none⟩ = some (.slice N1 n1.length m1)) (ds := [10]) (bl 11 0) (by kernel_rfl) rfl rfl ⟨bc0 hk12, bc0 hk13, bc1 hk13⟩ (fun hHeld => ?_)
     refine with_tabW spec_plAll.tab11 spec_plAll.bits11 (fun HT_ HW_ => ?_)
     generalize w100.drew = w101 at HS hHeld ⊢
     clear hk12 hk13
     refine pu 0 61 (bl 11 1) HT_.out (v := ?_) (a' := ?_) ?_ ?_ ?_
     rotate_left; (intro w'; go_simp; with_reducible rfl); rotate_left; (simp only [sqa, sqb, sqc, sqd, i64_w, i32_w]; rfl)
     refine pu 1 62 (bl 11 3) HT_.out (v := ?_) (a' := ?_) ?_ ?_ ?_
     rotate_left; (intro w'; go_simp; with_reducible rfl); rotate_left; (simp only [sqa, sqb, sqc, sqd, i64_w, i32_w]; rfl)
     refine pu 2 63 (bl 11 7) HT_.out (v := ?_) (a' := ?_) ?_ ?_ ?_
     rotate_left; (intro w'; go_simp; with_reducible rfl); rotate_left; (simp only [sqa, sqb, sqc, sqd, i64_w, i32_w]; rfl)
     refine pu 3 64 (bl 11 15) HT_.out (v := ?_) (a' := ?_) ?_ ?_ ?_
     rotate_left; (intro w'; go_simp; with_reducible rfl); rotate_left; (simp only [sqa, sqb, sqc, sqd, i64_w, i32_w]; rfl)
     refine tk 4 65 (bl 11 31) HT_.out HW_.out hHeld (v := ?_) (a' := ?_) ?_ ?_ ?_
     rotate_left; (rintro w' ⟨s0, s1, s2⟩; go_simp; with_reducible rfl); rotate_left; (simp only [sqa, sqb, sqc, sqd, i64_w, i32_w]; rfl)
     refine tk 5 66 (bl 11 63) HT_.out HW_.out hHeld (v := ?_) (a' := ?_) ?_ ?_ ?_
     rotate_left; (rintro w' ⟨s0, s1, s2⟩; go_simp; with_reducible rfl); rotate_left; (simp only [sqa, sqb, sqc, sqd, i64_w, i32_w]; rfl)
     refine on 6 67 (bl 11 127) HT_.out (fun K hK => ?_)
     refine value_ (w1 := ?_) (v := ?_) (by rfl) rfl ?_ ?_
     rotate_left 2
     · go_simp
       constructor
       · rfl
       · rfl
     refine hK.out _ _ ⟨ca hHeld.1 _, ca hHeld.2.1 _, ca hHeld.2.2 _⟩ (fun hHeld => ?_)
     clear hK K
     refine norm_ (a' := ?_) ?_ ?_; rotate_left; (show Act.put _ (some 67) _ = _; simp only [sqa, sqb, sqc, sqd, i64_w, i32_w]; rfl)
     refine on 7 68 (bl 11 255) HT_.out (fun K hK => ?_)
     refine SB.appN_step HS 0 k35 (.tmp 65) (.tmp 67) 60 35 (.agg #[(.slice none 0 0), (.slice none 0 0)]) 48 (.slice (some ad) x0.length d0) x0 (⟨n0, n1⟩ : S35) [.slice N0 n0.length m0, .slice N1 n1.length m1] Try.underlying60 info35 rfl (k35_mkF _ _ (⟨n0, n1⟩ : S35) hn0 ((SB.foot (Q := fun w => Kd.C (Kd.int .i64) w N0 n0.length n0 ∧ Kd.C (Kd.int .i64) w N1 n1.length n1) HS 8).imp (fun _ h => h.1)) hn1 ((SB.foot (Q := fun w => Kd.C (Kd.int .i64) w N0 n0.length n0 ∧ Kd.C (Kd.int .i64) w N1 n1.length n1) HS 8).imp (fun _ h => h.2))) (by omega) ?_
     clear HS
     intro v0 w102 HS
     obtain ⟨D0, f0, rfl⟩ := Kd.N_slice (SB.nrows HS 0 (v := v0))
     rw [← Ny0.out] at HS ⊢
     have hk14 := SB.cells (g := g) (cells := #[.slice (some ad) x0.length d0, .slice B1 x1.length d1, .slice B2 x2.length d2, .slice B3 x3.length d3, .slice B4 x4.length d4]) (t := 62) HS 5
     have hk15 := SB.cells (g := g10) (cells := #[.slice N0 n0.length m0, .slice N1 n1.length m1]) (t := 35) HS 9
     refine hK.out _ _ ⟨bc0 hk14, bc0 hk15, bc1 hk15⟩ (fun hHeld => ?_)
     clear hK K hk15
     refine norm_ (a' := ?_) ?_ ?_; rotate_left; (show Act.put _ (some 68) _ = _; simp only [sqa, sqb, sqc, sqd, i64_w, i32_w]; rfl)
     refine pu 8 69 (bl 11 511) HT_.out (v := ?_) (a' := ?_) ?_ ?_ ?_
     rotate_left; (intro w'; go_simp; with_reducible rfl); rotate_left; (simp only [sqa, sqb, sqc, sqd, i64_w, i32_w]; rfl)
     refine pu 9 70 (bl 11 1023) HT_.out (v := ?_) (a' := ?_) ?_ ?_ ?_
     rotate_left; (intro w'; go_simp; with_reducible rfl); rotate_left; (simp only [sqa, sqb, sqc, sqd, i64_w, i32_w]; rfl)
     refine last_ (i := 10) (N := none) (bl 11 2047) rfl rfl (one_of HT_.out (by kernel_rfl)) (by decide) (fun K hK => ?_)
     have hcz14_0 := bc0 hk14
     have hfz14_0 := blk_frozen hk14.out 0
     refine skip_ (w1 := ?_) (by rfl) rfl ?_ ?_
     rotate_left
     · go_simp
       rfl
     refine hK.out _ _ ?_
     clear hK K
     refine done_ (done_of HT_.out (by kernel_rfl)) ?_
     clear HT_ HW_
     clear hk14 hcz14_0 hfz14_0
     replace HS := SB.set HS 5 0 (.slice D0 y0.length f0) #[.slice D0 y0.length f0, .slice B1 x1.length d1, .slice B2 x2.length d2, .slice B3 x3.length d3, .slice B4 x4.length d4] G.out
     revert HS
     generalize w102.setCell ⟨g, 0, none⟩ (.slice D0 y0.length f0) = w105
     intro HS
     have HS : SB (fun k => F0 k ∨ w.heap.size ≤ k) w w105 (plC w.heap.size g (.slice D0 y0.length f0) (.slice B1 x1.length d1) (.slice B2 x2.length d2) (.slice B3 x3.length d3) (.slice B4 x4.length d4) (y0) (x1) (x2) (x3) (x4) ++ [rd (fun w => Kd.C k55 w (some am) ms.length ms), blk g9 #[(.int .i64 (rd_T55 ms j).f0), (.int .i64 (rd_T55 ms j).f1)] 55, rd (fun w => Kd.C (Kd.int .i64) w N0 n0.length n0 ∧ Kd.C (Kd.int .i64) w N1 n1.length n1), blk g10 #[.slice N0 n0.length m0, .slice N1 n1.length m1] 35]) := HS
     have hk16 := SB.cells (g := g) (cells := #[.slice D0 y0.length f0, .slice B1 x1.length d1, .slice B2 x2.length d2, .slice B3 x3.length d3, .slice B4 x4.length d4]) (t := 62) HS 5
     have hcz16_0 := bc0 hk16
     have hcz16_1 := bc1 hk16
     have hcz16_2 := bc2 hk16
     have hcz16_3 := bc3 hk16
     have hcz16_4 := bc4 hk16
     have hfz16_0 := blk_frozen hk16.out 0
     have hfz16_1 := blk_frozen hk16.out 1
     have hfz16_2 := blk_frozen hk16.out 2
     have hfz16_3 := blk_frozen hk16.out 3
     have hfz16_4 := blk_frozen hk16.out 4
     try go_wp2_with (first | ((with_reducible refine gate_builtin (b := .append) (xs := #[.tmp 75, .tmp 77]) rfl ?_); at_builtin; refine SB.app HS 1 (Kd.int .i64) (.tmp 75) (.tmp 77) 30 3 (.int .i64 0) 8 (.slice B1 x1.length d1) x1 (i) [.int .i64 (i)] Try.underlying30 info3 (by first | (go_simp; done) | (go_simp; rfl)) rfl (by omega) ?_; clear HS; intro v1 w106 HS; obtain ⟨D1, f1, rfl⟩ := Kd.R_slice (SB.rows HS 1 (v := v1)); rw [← Ny1.out] at HS; (try rw [← Ny1.out]); have hk17 := SB.cells (g := g) (cells := #[.slice D0 y0.length f0, .slice B1 x1.length d1, .slice B2 x2.length d2, .slice B3 x3.length d3, .slice B4 x4.length d4]) (t := 62) HS 5; have hcz17_0 := bc0 hk17; have hcz17_1 := bc1 hk17; have hcz17_2 := bc2 hk17; have hcz17_3 := bc3 hk17; have hcz17_4 := bc4 hk17; have hfz17_0 := blk_frozen hk17.out 0; have hfz17_1 := blk_frozen hk17.out 1; have hfz17_2 := blk_frozen hk17.out 2; have hfz17_3 := blk_frozen hk17.out 3; have hfz17_4 := blk_frozen hk17.out 4))
     try clear hk16 hcz16_0 hcz16_1 hcz16_2 hcz16_3 hcz16_4 hfz16_0 hfz16_1 hfz16_2 hfz16_3 hfz16_4
     try clear hk17 hcz17_0 hcz17_1 hcz17_2 hcz17_3 hcz17_4 hfz17_0 hfz17_1 hfz17_2 hfz17_3 hfz17_4
     replace HS := SB.set HS 5 1 (.slice D1 y1.length f1) #[.slice D0 y0.length f0, .slice D1 y1.length f1, .slice B2 x2.length d2, .slice B3 x3.length d3, .slice B4 x4.length d4] G.out
     revert HS
     generalize w106.setCell ⟨g, 1, none⟩ (.slice D1 y1.length f1) = w109
     intro HS
     replace HS := SB.up (W := w109.drew) HS
     have HS : SB (fun k => F0 k ∨ w.heap.size ≤ k) w w109.drew (plC w.heap.size g (.slice D0 y0.length f0) (.slice D1 y1.length f1) (.slice B2 x2.length d2) (.slice B3 x3.length d3) (.slice B4 x4.length d4) (y0) (y1) (x2) (x3) (x4) ++ [rd (fun w => Kd.C k55 w (some am) ms.length ms), blk g9 #[(.int .i64 (rd_T55 ms j).f0), (.int .i64 (rd_T55 ms j).f1)] 55, rd (fun w => Kd.C (Kd.int .i64) w N0 n0.length n0 ∧ Kd.C (Kd.int .i64) w N1 n1.length n1), blk g10 #[.slice N0 n0.length m0, .slice N1 n1.length m1] 35]) := HS
     have hk18 := SB.cells (g := g) (cells := #[.slice D0 y0.length f0, .slice D1 y1.length f1, .slice B2 x2.length d2, .slice B3 x3.length d3, .slice B4 x4.length d4]) (t := 62) HS 5
     have hk19 := SB.cells (g := g9) (cells := #[(.int .i64 (rd_T55 ms j).f0), (.int .i64 (rd_T55 ms j).f1)]) (t := 55) HS 7
     refine start_ (n := 11) (S := fun w' => w'.cell? ⟨g, 2, none⟩ = some (.slice B2 x2.length d2) ∧ w'.cell? ⟨g9, 0, none⟩ = some (.int .i64 (rd_T55 ms j).f0) ∧ w'.cell? ⟨g9, 1, none⟩ = some (.int .i64 (rd_T55 ms j).f1)) (ds := [10]) (bl 11 0) (by kernel_rfl) rfl rfl ⟨bc2 hk18, bc0 hk19, bc1 hk19⟩ (fun hHeld => ?_)
     refine with_tabW spec_plAll.tab13 spec_plAll.bits13 (fun HT_ HW_ => ?_)
     generalize w109.drew = w110 at HS hHeld ⊢
     clear hk18 hk19
     refine pu 0 81 (bl 11 1) HT_.out (v := ?_) (a' := ?_) ?_ ?_ ?_
     rotate_left; (intro w'; go_simp; with_reducible rfl); rotate_left; (simp only [sqa, sqb, sqc, sqd, i64_w, i32_w]; rfl)
     refine pu 1 82 (bl 11 3) HT_.out (v := ?_) (a' := ?_) ?_ ?_ ?_
     rotate_left; (intro w'; go_simp; with_reducible rfl); rotate_left; (simp only [sqa, sqb, sqc, sqd, i64_w, i32_w]; rfl)
     refine pu 2 83 (bl 11 7) HT_.out (v := ?_) (a' := ?_) ?_ ?_ ?_
     rotate_left; (intro w'; go_simp; with_reducible rfl); rotate_left; (simp only [sqa, sqb, sqc, sqd, i64_w, i32_w]; rfl)
     refine pu 3 84 (bl 11 15) HT_.out (v := ?_) (a' := ?_) ?_ ?_ ?_
     rotate_left; (intro w'; go_simp; with_reducible rfl); rotate_left; (simp only [sqa, sqb, sqc, sqd, i64_w, i32_w]; rfl)
     refine tk 4 85 (bl 11 31) HT_.out HW_.out hHeld (v := ?_) (a' := ?_) ?_ ?_ ?_
     rotate_left; (rintro w' ⟨s0, s1, s2⟩; go_simp; with_reducible rfl); rotate_left; (simp only [sqa, sqb, sqc, sqd, i64_w, i32_w]; rfl)
     refine tk 5 86 (bl 11 63) HT_.out HW_.out hHeld (v := ?_) (a' := ?_) ?_ ?_ ?_
     rotate_left; (rintro w' ⟨s0, s1, s2⟩; go_simp; with_reducible rfl); rotate_left; (simp only [sqa, sqb, sqc, sqd, i64_w, i32_w]; rfl)
     refine on 6 87 (bl 11 127) HT_.out (fun K hK => ?_)
     refine value_ (w1 := ?_) (v := ?_) (by rfl) rfl ?_ ?_
     rotate_left 2
     · go_simp
       constructor
       · rfl
       · rfl
     refine hK.out _ _ ⟨ca hHeld.1 _, ca hHeld.2.1 _, ca hHeld.2.2 _⟩ (fun hHeld => ?_)
     clear hK K
     refine norm_ (a' := ?_) ?_ ?_; rotate_left; (show Act.put _ (some 87) _ = _; simp only [sqa, sqb, sqc, sqd, i64_w, i32_w]; rfl)
     refine on 7 88 (bl 11 255) HT_.out (fun K hK => ?_)
     refine SB.app_step HS 2 k55 (.tmp 85) (.tmp 87) 25 55 (.agg #[(.int .i64 0), (.int .i64 0)]) 16 (.slice B2 x2.length d2) x2 (⟨(rd_T55 ms j).f0, (rd_T55 ms j).f1⟩ : S55) [.int .i64 (rd_T55 ms j).f0, .int .i64 (rd_T55 ms j).f1] Try.underlying25 info55 rfl (k55_mkM _ _ _ (⟨(rd_T55 ms j).f0, (rd_T55 ms j).f1⟩ : S55)) (by omega) ?_
     clear HS
     intro v2 w111 HS
     obtain ⟨D2, f2, rfl⟩ := Kd.R_slice (SB.rows HS 2 (v := v2))
     rw [← Ny2.out] at HS ⊢
     have hk20 := SB.cells (g := g) (cells := #[.slice D0 y0.length f0, .slice D1 y1.length f1, .slice B2 x2.length d2, .slice B3 x3.length d3, .slice B4 x4.length d4]) (t := 62) HS 5
     have hk21 := SB.cells (g := g9) (cells := #[(.int .i64 (rd_T55 ms j).f0), (.int .i64 (rd_T55 ms j).f1)]) (t := 55) HS 7
     refine hK.out _ _ ⟨bc2 hk20, bc0 hk21, bc1 hk21⟩ (fun hHeld => ?_)
     clear hK K hk21
     refine norm_ (a' := ?_) ?_ ?_; rotate_left; (show Act.put _ (some 88) _ = _; simp only [sqa, sqb, sqc, sqd, i64_w, i32_w]; rfl)
     refine pu 8 89 (bl 11 511) HT_.out (v := ?_) (a' := ?_) ?_ ?_ ?_
     rotate_left; (intro w'; go_simp; with_reducible rfl); rotate_left; (simp only [sqa, sqb, sqc, sqd, i64_w, i32_w]; rfl)
     refine pu 9 90 (bl 11 1023) HT_.out (v := ?_) (a' := ?_) ?_ ?_ ?_
     rotate_left; (intro w'; go_simp; with_reducible rfl); rotate_left; (simp only [sqa, sqb, sqc, sqd, i64_w, i32_w]; rfl)
     refine last_ (i := 10) (N := none) (bl 11 2047) rfl rfl (one_of HT_.out (by kernel_rfl)) (by decide) (fun K hK => ?_)
     have hcz20_2 := bc2 hk20
     have hfz20_2 := blk_frozen hk20.out 2
     refine skip_ (w1 := ?_) (by rfl) rfl ?_ ?_
     rotate_left
     · go_simp
       rfl
     refine hK.out _ _ ?_
     clear hK K
     refine done_ (done_of HT_.out (by kernel_rfl)) ?_
     clear HT_ HW_
     try go_wp2
     clear hk20 hcz20_2 hfz20_2
     replace HS := SB.set HS 5 2 (.slice D2 y2.length f2) #[.slice D0 y0.length f0, .slice D1 y1.length f1, .slice D2 y2.length f2, .slice B3 x3.length d3, .slice B4 x4.length d4] G.out
     revert HS
     generalize w111.setCell ⟨g, 2, none⟩ (.slice D2 y2.length f2) = w113
     intro HS
     replace HS := SB.up (W := w113.drew) HS
     have HS : SB (fun k => F0 k ∨ w.heap.size ≤ k) w w113.drew (plC w.heap.size g (.slice D0 y0.length f0) (.slice D1 y1.length f1) (.slice D2 y2.length f2) (.slice B3 x3.length d3) (.slice B4 x4.length d4) (y0) (y1) (y2) (x3) (x4) ++ [rd (fun w => Kd.C k55 w (some am) ms.length ms), blk g9 #[(.int .i64 (rd_T55 ms j).f0), (.int .i64 (rd_T55 ms j).f1)] 55, rd (fun w => Kd.C (Kd.int .i64) w N0 n0.length n0 ∧ Kd.C (Kd.int .i64) w N1 n1.length n1), blk g10 #[.slice N0 n0.length m0, .slice N1 n1.length m1] 35]) := HS
     have hk22 := SB.cells (g := g) (cells := #[.slice D0 y0.length f0, .slice D1 y1.length f1, .slice D2 y2.length f2, .slice B3 x3.length d3, .slice B4 x4.length d4]) (t := 62) HS 5
     obtain ⟨ad3, ee3, hx3⟩ := Kd.at_int (Kd.R_reads' (SB.rows HS 3 (v := .slice B3 x3.length d3))).2.2 i c30b c38
     cases ee3
     have c38e := eq_true c38
     refine start_ (n := 18) (S := fun w' => w'.cell? ⟨g, 3, none⟩ = some (.slice (some ad3) x3.length d3) ∧ w'.cell? (ad3.add i.toNat) = some (.int .i64 (rd x3 i))) (ds := [14, 17]) (bl 18 0) (by kernel_rfl) rfl rfl ⟨bc3 hk22, hx3⟩ (fun hHeld => ?_)
     refine with_tabW spec_plAll.tab14 spec_plAll.bits14 (fun HT_ HW_ => ?_)
     generalize w113.drew = w114 at HS hHeld ⊢
     clear hk22 hx3
     refine pu 0 91 (bl 18 1) HT_.out (v := ?_) (a' := ?_) ?_ ?_ ?_
     rotate_left; (intro w'; go_simp; with_reducible rfl); rotate_left; (simp only [sqa, sqb, sqc, sqd, i64_w, i32_w]; rfl)
     refine pu 1 92 (bl 18 3) HT_.out (v := ?_) (a' := ?_) ?_ ?_ ?_
     rotate_left; (intro w'; go_simp; with_reducible rfl); rotate_left; (simp only [sqa, sqb, sqc, sqd, i64_w, i32_w]; rfl)
     refine pu 2 93 (bl 18 7) HT_.out (v := ?_) (a' := ?_) ?_ ?_ ?_
     rotate_left; (intro w'; go_simp; with_reducible rfl); rotate_left; (simp only [sqa, sqb, sqc, sqd, i64_w, i32_w]; rfl)
     refine pu 3 94 (bl 18 15) HT_.out (v := ?_) (a' := ?_) ?_ ?_ ?_
     rotate_left; (intro w'; go_simp; with_reducible rfl); rotate_left; (simp only [sqa, sqb, sqc, sqd, i64_w, i32_w]; rfl)
     refine pu 5 96 (bl 18 47) HT_.out (v := ?_) (a' := ?_) ?_ ?_ ?_
     rotate_left; (intro w'; go_simp; with_reducible rfl); rotate_left; (simp only [sqa, sqb, sqc, sqd, i64_w, i32_w]; rfl)
     refine pu 6 97 (bl 18 111) HT_.out (v := ?_) (a' := ?_) ?_ ?_ ?_
     rotate_left; (intro w'; go_simp; with_reducible rfl); rotate_left; (simp only [sqa, sqb, sqc, sqd, i64_w, i32_w]; rfl)
     refine pu 7 98 (bl 18 239) HT_.out (v := ?_) (a' := ?_) ?_ ?_ ?_
     rotate_left; (intro w'; go_simp; with_reducible rfl); rotate_left; (simp only [sqa, sqb, sqc, sqd, i64_w, i32_w]; rfl)
     refine pu 9 100 (bl 18 751) HT_.out (v := ?_) (a' := ?_) ?_ ?_ ?_
     rotate_left; (intro w'; go_simp; with_reducible rfl); rotate_left; (simp only [sqa, sqb, sqc, sqd, i64_w, i32_w]; rfl)
     refine tk 4 95 (bl 18 767) HT_.out HW_.out hHeld (v := ?_) (a' := ?_) ?_ ?_ ?_
     rotate_left; (rintro w' ⟨s0, s1⟩; go_simp; with_reducible rfl); rotate_left; (simp only [sqa, sqb, sqc, sqd, i64_w, i32_w]; rfl)
     refine tk 8 99 (bl 18 1023) HT_.out HW_.out hHeld (v := ?_) (a' := ?_) ?_ ?_ ?_
     rotate_left; (rintro w' ⟨s0, s1⟩; go_simp; with_reducible rfl); rotate_left; (simp only [sqa, sqb, sqc, sqd, i64_w, i32_w]; rfl)
     refine pu 10 101 (bl 18 2047) HT_.out (v := ?_) (a' := ?_) ?_ ?_ ?_
     rotate_left; (intro w'; go_simp; with_reducible rfl); rotate_left; (simp only [sqa, sqb, sqc, sqd, i64_w, i32_w]; rfl)
     refine tk 11 102 (bl 18 4095) HT_.out HW_.out hHeld (v := ?_) (a' := ?_) ?_ ?_ ?_
     rotate_left; (rintro w' ⟨s0, s1⟩; go_simp; with_reducible rfl); rotate_left; (simp only [sqa, sqb, sqc, sqd, i64_w, i32_w]; rfl)
     refine pu 12 103 (bl 18 8191) HT_.out (v := ?_) (a' := ?_) ?_ ?_ ?_
     rotate_left; (intro w'; go_simp; with_reducible rfl); rotate_left; (simp only [sqa, sqb, sqc, sqd, i64_w, i32_w]; rfl)
     refine on 13 104 (bl 18 16383) HT_.out (fun K hK => ?_)
     refine value_ (w1 := ?_) (v := ?_) (by rfl) rfl ?_ ?_
     rotate_left 2
     · go_simp
       constructor
       · rfl
       · rfl
     refine hK.out _ _ ⟨ca hHeld.1 _, ca hHeld.2 _⟩ (fun hHeld => ?_)
     clear hK K
     refine norm_ (a' := ?_) ?_ ?_; rotate_left; (show Act.put _ (some 104) _ = _; simp only [sqa, sqb, sqc, sqd, i64_w, i32_w]; rfl)
     refine last_ (i := 14) (N := some 105) (bl 18 32767) rfl rfl (one_of HT_.out (by kernel_rfl)) (by decide) (fun K hK => ?_)
     refine SB.app_step HS 3 (Kd.int .i64) (.tmp 95) (.tmp 104) 30 3 (.int .i64 0) 8 (.slice (some ad3) x3.length d3) x3 (wrap64 (rd x3 i + 1)) [.int .i64 (wrap64 (rd x3 i + 1))] Try.underlying30 info3 rfl rfl (by omega) ?_
     clear HS
     intro v3 w115 HS
     obtain ⟨D3, f3, rfl⟩ := Kd.R_slice (SB.rows HS 3 (v := v3))
     rw [← Ny3.out] at HS ⊢
     refine hK.out _ _ ?_
     clear hK K hHeld
     refine norm_ (a' := ?_) ?_ ?_; rotate_left; (show Act.put _ (some 105) _ = _; simp only [sqa, sqb, sqc, sqd, i64_w, i32_w]; rfl)
     have hk23 := SB.cells (g := g) (cells := #[.slice D0 y0.length f0, .slice D1 y1.length f1, .slice D2 y2.length f2, .slice (some ad3) x3.length d3, .slice B4 x4.length d4]) (t := 62) HS 5
     refine pu 15 106 (bl 18 65535) HT_.out (v := ?_) (a' := ?_) ?_ ?_ ?_
     rotate_left; (intro w'; go_simp; with_reducible rfl); rotate_left; (simp only [sqa, sqb, sqc, sqd, i64_w, i32_w]; rfl)
     refine pu 16 107 (bl 18 131071) HT_.out (v := ?_) (a' := ?_) ?_ ?_ ?_
     rotate_left; (intro w'; go_simp; with_reducible rfl); rotate_left; (simp only [sqa, sqb, sqc, sqd, i64_w, i32_w]; rfl)
     refine last_ (i := 17) (N := none) (bl 18 262143) rfl rfl (one_of HT_.out (by kernel_rfl)) (by decide) (fun K hK => ?_)
     have hcz23_3 := bc3 hk23
     have hfz23_3 := blk_frozen hk23.out 3
     refine skip_ (w1 := ?_) (by rfl) rfl ?_ ?_
     rotate_left
     · go_simp
       rfl
     refine hK.out _ _ ?_
     clear hK K
     refine done_ (done_of HT_.out (by kernel_rfl)) ?_
     clear HT_ HW_
     clear hk23 hcz23_3 hfz23_3
     replace HS := SB.set HS 5 3 (.slice D3 y3.length f3) #[.slice D0 y0.length f0, .slice D1 y1.length f1, .slice D2 y2.length f2, .slice D3 y3.length f3, .slice B4 x4.length d4] G.out
     revert HS
     generalize w115.setCell ⟨g, 3, none⟩ (.slice D3 y3.length f3) = w118
     intro HS
     have HS : SB (fun k => F0 k ∨ w.heap.size ≤ k) w w118 (plC w.heap.size g (.slice D0 y0.length f0) (.slice D1 y1.length f1) (.slice D2 y2.length f2) (.slice D3 y3.length f3) (.slice B4 x4.length d4) (y0) (y1) (y2) (y3) (x4) ++ [rd (fun w => Kd.C k55 w (some am) ms.length ms), blk g9 #[(.int .i64 (rd_T55 ms j).f0), (.int .i64 (rd_T55 ms j).f1)] 55, rd (fun w => Kd.C (Kd.int .i64) w N0 n0.length n0 ∧ Kd.C (Kd.int .i64) w N1 n1.length n1), blk g10 #[.slice N0 n0.length m0, .slice N1 n1.length m1] 35]) := HS
     have hk24 := SB.cells (g := g) (cells := #[.slice D0 y0.length f0, .slice D1 y1.length f1, .slice D2 y2.length f2, .slice D3 y3.length f3, .slice B4 x4.length d4]) (t := 62) HS 5
     have hcz24_0 := bc0 hk24
     have hcz24_1 := bc1 hk24
     have hcz24_2 := bc2 hk24
     have hcz24_3 := bc3 hk24
     have hcz24_4 := bc4 hk24
     have hfz24_0 := blk_frozen hk24.out 0
     have hfz24_1 := blk_frozen hk24.out 1
     have hfz24_2 := blk_frozen hk24.out 2
     have hfz24_3 := blk_frozen hk24.out 3
     have hfz24_4 := blk_frozen hk24.out 4
     obtain ⟨o4, ho4⟩ : ∃ y_ : List Int, y_ = x4 ++ [0] := ⟨_, rfl⟩
     have No4 := Aside0.mk ho4
     clear ho4
     try go_wp2_with (first | ((with_reducible refine gate_builtin (b := .append) (xs := #[.tmp 112, .tmp 113]) rfl ?_); at_builtin; refine SB.app HS 4 (Kd.int .i64) (.tmp 112) (.tmp 113) 30 3 (.int .i64 0) 8 (.slice B4 x4.length d4) x4 (0) [.int .i64 (0)] Try.underlying30 info3 (by first | (go_simp; done) | (go_simp; rfl)) rfl (by omega) ?_; clear HS; intro v4 w106 HS; obtain ⟨D4, f4, rfl⟩ := Kd.R_slice (SB.rows HS 4 (v := v4)); rw [← No4.out] at HS; (try rw [← No4.out]); have hk25 := SB.cells (g := g) (cells := #[.slice D0 y0.length f0, .slice D1 y1.length f1, .slice D2 y2.length f2, .slice D3 y3.length f3, .slice B4 x4.length d4]) (t := 62) HS 5; have hcz25_0 := bc0 hk25; have hcz25_1 := bc1 hk25; have hcz25_2 := bc2 hk25; have hcz25_3 := bc3 hk25; have hcz25_4 := bc4 hk25; have hfz25_0 := blk_frozen hk25.out 0; have hfz25_1 := blk_frozen hk25.out 1; have hfz25_2 := blk_frozen hk25.out 2; have hfz25_3 := blk_frozen hk25.out 3; have hfz25_4 := blk_frozen hk25.out 4))
     try clear hk24 hcz24_0 hcz24_1 hcz24_2 hcz24_3 hcz24_4 hfz24_0 hfz24_1 hfz24_2 hfz24_3 hfz24_4
     try clear hk25 hcz25_0 hcz25_1 hcz25_2 hcz25_3 hcz25_4 hfz25_0 hfz25_1 hfz25_2 hfz25_3 hfz25_4
     replace HS := SB.set HS 5 4 (.slice D4 o4.length f4) #[.slice D0 y0.length f0, .slice D1 y1.length f1, .slice D2 y2.length f2, .slice D3 y3.length f3, .slice D4 o4.length f4] G.out
     revert HS
     generalize w106.setCell ⟨g, 4, none⟩ (.slice D4 o4.length f4) = w121
     intro HS
     replace HS := SB.up (W := w121.drew) HS
     have HS : SB (fun k => F0 k ∨ w.heap.size ≤ k) w w121.drew (plC w.heap.size g (.slice D0 y0.length f0) (.slice D1 y1.length f1) (.slice D2 y2.length f2) (.slice D3 y3.length f3) (.slice D4 o4.length f4) (y0) (y1) (y2) (y3) (o4) ++ [rd (fun w => Kd.C k55 w (some am) ms.length ms), blk g9 #[(.int .i64 (rd_T55 ms j).f0), (.int .i64 (rd_T55 ms j).f1)] 55, rd (fun w => Kd.C (Kd.int .i64) w N0 n0.length n0 ∧ Kd.C (Kd.int .i64) w N1 n1.length n1), blk g10 #[.slice N0 n0.length m0, .slice N1 n1.length m1] 35]) := HS
     have hk26 := SB.cells (g := g) (cells := #[.slice D0 y0.length f0, .slice D1 y1.length f1, .slice D2 y2.length f2, .slice D3 y3.length f3, .slice D4 o4.length f4]) (t := 62) HS 5
     have lo4 : Aside0 (o4.length = x4.length + 1) := ⟨by rw [No4.out]; simp⟩
     obtain ⟨q4, cq4, eq4, _⟩ := Kd.R_form (SB.rows HS 4 (v := .slice D4 o4.length f4)) (by have := lo4.out; omega)
     injection eq4 with e4a e4b e4c
     subst e4a e4c
     have hw1 : wrap64 (p0 + 1) = p0 + 1 := wrap64_small (by omega) (by omega)
     have hw2 : IntKind.i64.wrap (p0 + 1) = p0 + 1 := (i64_w _).trans hw1
     have c39a : 0 ≤ p0 + 1 := by omega
     have c40a : p0 + 1 ≤ (o4.length : Int) := by have := lo4.out; omega
     have c40b : p0 ≤ (o4.length : Int) := by have := lo4.out; omega
     have c40c : p0 < (o4.length : Int) := by have := lo4.out; omega
     have c39e := eq_true c39
     have c39ae := eq_true c39a
     have c40ae := eq_true c40a
     have c40be := eq_true c40b
     have c40ce := eq_true c40c
     refine start_ (n := 14) (S := fun w' => w'.cell? ⟨g, 4, none⟩ = some (.slice (some ⟨q4, 0, none⟩) o4.length f4)) (ds := []) (bl 14 0) (by kernel_rfl) rfl rfl (bc4 hk26) (fun hHeld => ?_)
     refine with_tabW spec_plAll.tab16 spec_plAll.bits16 (fun HT_ HW_ => ?_)
     generalize w121.drew = w122 at HS hHeld ⊢
     clear hk26
     refine pu 0 117 (bl 14 1) HT_.out (v := ?_) (a' := ?_) ?_ ?_ ?_
     rotate_left; (intro w'; go_simp; with_reducible rfl); rotate_left; (simp only [sqa, sqb, sqc, sqd, i64_w, i32_w]; rfl)
     refine pu 1 118 (bl 14 3) HT_.out (v := ?_) (a' := ?_) ?_ ?_ ?_
     rotate_left; (intro w'; go_simp; with_reducible rfl); rotate_left; (simp only [sqa, sqb, sqc, sqd, i64_w, i32_w]; rfl)
     refine pu 2 119 (bl 14 7) HT_.out (v := ?_) (a' := ?_) ?_ ?_ ?_
     rotate_left; (intro w'; go_simp; with_reducible rfl); rotate_left; (simp only [sqa, sqb, sqc, sqd, i64_w, i32_w]; rfl)
     refine pu 4 121 (bl 14 23) HT_.out (v := ?_) (a' := ?_) ?_ ?_ ?_
     rotate_left; (intro w'; go_simp; with_reducible rfl); rotate_left; (simp only [sqa, sqb, sqc, sqd, i64_w, i32_w]; rfl)
     refine pu 5 122 (bl 14 55) HT_.out (v := ?_) (a' := ?_) ?_ ?_ ?_
     rotate_left; (intro w'; go_simp; with_reducible rfl); rotate_left; (simp only [sqa, sqb, sqc, sqd, i64_w, i32_w]; rfl)
     refine pu 7 124 (bl 14 183) HT_.out (v := ?_) (a' := ?_) ?_ ?_ ?_
     rotate_left; (intro w'; go_simp; with_reducible rfl); rotate_left; (simp only [sqa, sqb, sqc, sqd, i64_w, i32_w]; rfl)
     refine pu 8 125 (bl 14 439) HT_.out (v := ?_) (a' := ?_) ?_ ?_ ?_
     rotate_left; (intro w'; go_simp; with_reducible rfl); rotate_left; (simp only [sqa, sqb, sqc, sqd, i64_w, i32_w]; rfl)
     refine pu 9 126 (bl 14 951) HT_.out (v := ?_) (a' := ?_) ?_ ?_ ?_
     rotate_left; (intro w'; go_simp; with_reducible rfl); rotate_left; (simp only [sqa, sqb, sqc, sqd, i64_w, i32_w]; rfl)
     refine pu 11 128 (bl 14 2999) HT_.out (v := ?_) (a' := ?_) ?_ ?_ ?_
     rotate_left; (intro w'; go_simp; with_reducible rfl); rotate_left; (simp only [sqa, sqb, sqc, sqd, i64_w, i32_w]; rfl)
     refine tk 3 120 (bl 14 3007) HT_.out HW_.out hHeld (v := ?_) (a' := ?_) ?_ ?_ ?_
     rotate_left; (intro w' s0; go_simp; with_reducible rfl); rotate_left; (simp only [sqa, sqb, sqc, sqd, i64_w, i32_w]; rfl)
     refine pu 6 123 (bl 14 3071) HT_.out (v := ?_) (a' := ?_) ?_ ?_ ?_
     rotate_left; (intro w'; go_simp; with_reducible rfl); rotate_left; (simp only [sqa, sqb, sqc, sqd, i64_w, i32_w]; rfl)
     refine tk 10 127 (bl 14 4095) HT_.out HW_.out hHeld (v := ?_) (a' := ?_) ?_ ?_ ?_
     rotate_left; (intro w' s0; go_simp; with_reducible rfl); rotate_left; (simp only [sqa, sqb, sqc, sqd, i64_w, i32_w]; rfl)
     refine pu 12 129 (bl 14 8191) HT_.out (v := ?_) (a' := ?_) ?_ ?_ ?_
     rotate_left; (intro w'; go_simp; with_reducible rfl); rotate_left; (simp only [sqa, sqb, sqc, sqd, i64_w, i32_w]; rfl)
     obtain ⟨o5, ho5⟩ : ∃ y_ : List Int, y_ = o4.take (p0 + 1).toNat ++ (o4.drop p0.toNat).take (o4.length - (p0 + 1).toNat) := ⟨_, rfl⟩
     have No5 := Aside0.mk ho5
     clear ho5
     refine on 13 130 (bl 14 16383) HT_.out (fun K hK => ?_)
     refine SB.shift_step HS 4 3 (.tmp 123) (.tmp 129) 30 30 q4 f4 (p0 + 1).toNat p0.toNat o4 Try.underlying30 (by kernel_rfl) rfl rfl (by omega) (by have := lo4.out; omega) ?_
     clear HS
     intro w123 nn HS
     rw [← No5.out] at HS
     have hk27 := SB.cells (g := g) (cells := #[.slice D0 y0.length f0, .slice D1 y1.length f1, .slice D2 y2.length f2, .slice D3 y3.length f3, .slice (some ⟨q4, 0, none⟩) o4.length f4]) (t := 62) HS 5
     refine hK.out _ _ (bc4 hk27) (fun hHeld => ?_)
     clear hK K hk27
     refine norm_ (a' := ?_) ?_ ?_; rotate_left; (show Act.put _ (some 130) _ = _; simp only [sqa, sqb, sqc, sqd, i64_w, i32_w]; rfl)
     refine done_ (done_of HT_.out (by kernel_rfl)) ?_
     clear HT_ HW_ hHeld
     generalize (if f4 = (p0 + 1).toNat then (some (⟨q4, 0, none⟩ : Addr)) else some ⟨q4, (p0 + 1).toNat, none⟩) = sl1
     generalize (if f4 = p0.toNat then (some (⟨q4, 0, none⟩ : Addr)) else some ⟨q4, p0.toNat, none⟩) = sl2
     try go_wp2
     replace HS := SB.up (W := w123.drew) HS
     have HS : SB (fun k => F0 k ∨ w.heap.size ≤ k) w w123.drew (plC w.heap.size g (.slice D0 y0.length f0) (.slice D1 y1.length f1) (.slice D2 y2.length f2) (.slice D3 y3.length f3) (.slice (some ⟨q4, 0, none⟩) o4.length f4) (y0) (y1) (y2) (y3) (o5) ++ [rd (fun w => Kd.C k55 w (some am) ms.length ms), blk g9 #[(.int .i64 (rd_T55 ms j).f0), (.int .i64 (rd_T55 ms j).f1)] 55, rd (fun w => Kd.C (Kd.int .i64) w N0 n0.length n0 ∧ Kd.C (Kd.int .i64) w N1 n1.length n1), blk g10 #[.slice N0 n0.length m0, .slice N1 n1.length m1] 35]) := HS
     have hk28 := SB.cells (g := g) (cells := #[.slice D0 y0.length f0, .slice D1 y1.length f1, .slice D2 y2.length f2, .slice D3 y3.length f3, .slice (some ⟨q4, 0, none⟩) o4.length f4]) (t := 62) HS 5
     obtain ⟨hx4, hf4⟩ := Kd.R_celln 0 (SB.rows HS 4 (d := Kd.int .i64) (v := .slice (some ⟨q4, 0, none⟩) o4.length f4)) p0 c39 c40c
     refine start_ (n := 13) (S := fun w' => w'.cell? ⟨g, 0, none⟩ = some (.slice D0 y0.length f0) ∧ w'.cell? ⟨g, 4, none⟩ = some (.slice (some ⟨q4, 0, none⟩) o4.length f4)) (ds := [12]) (bl 13 0) (by kernel_rfl) rfl rfl ⟨bc0 hk28, bc4 hk28⟩ (fun hHeld => ?_)
     refine with_tabW spec_plAll.tab17 spec_plAll.bits17 (fun HT_ HW_ => ?_)
     generalize w123.drew = w124 at HS hHeld hx4 hf4 ⊢
     clear hk28
     refine pu 0 131 (bl 13 1) HT_.out (v := ?_) (a' := ?_) ?_ ?_ ?_
     rotate_left; (intro w'; go_simp; with_reducible rfl); rotate_left; (simp only [sqa, sqb, sqc, sqd, i64_w, i32_w]; rfl)
     refine pu 1 132 (bl 13 3) HT_.out (v := ?_) (a' := ?_) ?_ ?_ ?_
     rotate_left; (intro w'; go_simp; with_reducible rfl); rotate_left; (simp only [sqa, sqb, sqc, sqd, i64_w, i32_w]; rfl)
     refine pu 2 133 (bl 13 7) HT_.out (v := ?_) (a' := ?_) ?_ ?_ ?_
     rotate_left; (intro w'; go_simp; with_reducible rfl); rotate_left; (simp only [sqa, sqb, sqc, sqd, i64_w, i32_w]; rfl)
     refine pu 4 135 (bl 13 23) HT_.out (v := ?_) (a' := ?_) ?_ ?_ ?_
     rotate_left; (intro w'; go_simp; with_reducible rfl); rotate_left; (simp only [sqa, sqb, sqc, sqd, i64_w, i32_w]; rfl)
     refine pu 5 136 (bl 13 55) HT_.out (v := ?_) (a' := ?_) ?_ ?_ ?_
     rotate_left; (intro w'; go_simp; with_reducible rfl); rotate_left; (simp only [sqa, sqb, sqc, sqd, i64_w, i32_w]; rfl)
     refine pu 6 137 (bl 13 119) HT_.out (v := ?_) (a' := ?_) ?_ ?_ ?_
     rotate_left; (intro w'; go_simp; with_reducible rfl); rotate_left; (simp only [sqa, sqb, sqc, sqd, i64_w, i32_w]; rfl)
     refine pu 7 138 (bl 13 247) HT_.out (v := ?_) (a' := ?_) ?_ ?_ ?_
     rotate_left; (intro w'; go_simp; with_reducible rfl); rotate_left; (simp only [sqa, sqb, sqc, sqd, i64_w, i32_w]; rfl)
     refine tk 3 134 (bl 13 255) HT_.out HW_.out hHeld (v := ?_) (a' := ?_) ?_ ?_ ?_
     rotate_left; (rintro w' ⟨s0, s1⟩; go_simp; with_reducible rfl); rotate_left; (simp only [sqa, sqb, sqc, sqd, i64_w, i32_w]; rfl)
     refine tk 8 139 (bl 13 511) HT_.out HW_.out hHeld (v := ?_) (a' := ?_) ?_ ?_ ?_
     rotate_left; (rintro w' ⟨s0, s1⟩; go_simp; with_reducible rfl); rotate_left; (simp only [sqa, sqb, sqc, sqd, i64_w, i32_w]; rfl)
     refine pu 9 140 (bl 13 1023) HT_.out (v := ?_) (a' := ?_) ?_ ?_ ?_
     rotate_left; (intro w'; go_simp; with_reducible rfl); rotate_left; (simp only [sqa, sqb, sqc, sqd, i64_w, i32_w]; rfl)
     refine pu 10 141 (bl 13 2047) HT_.out (v := ?_) (a' := ?_) ?_ ?_ ?_
     rotate_left; (intro w'; go_simp; with_reducible rfl); rotate_left; (simp only [sqa, sqb, sqc, sqd, i64_w, i32_w]; rfl)
     refine pu 11 142 (bl 13 4095) HT_.out (v := ?_) (a' := ?_) ?_ ?_ ?_
     rotate_left; (intro w'; go_simp; with_reducible rfl); rotate_left; (simp only [sqa, sqb, sqc, sqd, i64_w, i32_w]; rfl)
     refine last_ (i := 12) (N := none) (bl 13 8191) rfl rfl (one_of HT_.out (by kernel_rfl)) (by decide) (fun K hK => ?_)
     refine skip_ (w1 := ?_) (by rfl) rfl ?_ ?_
     rotate_left
     · go_simp
       rfl
     refine hK.out _ _ ?_
     clear hK K
     refine done_ (done_of HT_.out (by kernel_rfl)) ?_
     clear HT_ HW_
     replace HS := SB.putI HS 4 p0 (wrap64 ((y0.length : Int) - 1))
     revert HS
     generalize w124.setCell ⟨q4, p0.toNat, none⟩ (.int .i64 (wrap64 ((y0.length : Int) - 1))) = w128
     intro HS
     have ly0 : y0.length = x0.length + 1 := by rw [Ny0.out]; simp
     have e_ins : o5.set p0.toNat (wrap64 ((y0.length : Int) - 1)) = y4 := by rw [No5.out, No4.out, Ny4.out, ly0, show wrap64 (((x0.length + 1 : Nat) : Int) - 1) = (x0.length : Int) by rw [wrap64_small (by omega) (by omega)]; omega]; exact plIns_of x4 p0 _ c39 c40
     have HS : SB (fun k => F0 k ∨ w.heap.size ≤ k) w w128 (plC w.heap.size g (.slice D0 y0.length f0) (.slice D1 y1.length f1) (.slice D2 y2.length f2) (.slice D3 y3.length f3) (.slice (some ⟨q4, 0, none⟩) o4.length f4) (y0) (y1) (y2) (y3) (y4) ++ [rd (fun w => Kd.C k55 w (some am) ms.length ms), blk g9 #[(.int .i64 (rd_T55 ms j).f0), (.int .i64 (rd_T55 ms j).f1)] 55, rd (fun w => Kd.C (Kd.int .i64) w N0 n0.length n0 ∧ Kd.C (Kd.int .i64) w N1 n1.length n1), blk g10 #[.slice N0 n0.length m0, .slice N1 n1.length m1] 35]) := e_ins ▸ HS
     have hk29 := SB.cells (g := g) (cells := #[.slice D0 y0.length f0, .slice D1 y1.length f1, .slice D2 y2.length f2, .slice D3 y3.length f3, .slice (some ⟨q4, 0, none⟩) o4.length f4]) (t := 62) HS 5
     have hcz29_0 := bc0 hk29
     have hcz29_1 := bc1 hk29
     have hcz29_2 := bc2 hk29
     have hcz29_3 := bc3 hk29
     have hcz29_4 := bc4 hk29
     have H := H'.out
     clear H' ly0 e_ins
     by_cases c75 : 3000 < (y0.length : Int)
     · rw [if_pos c75] at H
       have c75b0 : decide (3000 < (y0.length : Int)) = true := decide_eq_true c75
       have c75b1 : decide (3000 < y0.length) = true := decide_eq_true (by omega)
       simp only [Option.some.injEq, Prod.mk.injEq] at H
       obtain ⟨rfl, rfl, rfl, rfl, rfl, rfl⟩ := H
       try go_wp2
       go_ret2
       exact ⟨g, _, _, _, _, _, rfl, G.out, (SB.take HS 6).s, HS.b⟩
     rw [if_neg c75] at H
     have c75b0 : decide (3000 < (y0.length : Int)) = false := decide_eq_false c75
     have c75b1 : decide (3000 < y0.length) = false := decide_eq_false (by omega)
     have H' := Aside0.mk H
     clear H c75
     try go_wp2
     go_roundg k2
     case measure => have := HK1.out; have := HK2.out; omega
     case rel => exact ⟨wrap64 (j + 1), _, _, _, _, _, _, _, _, _, _, rfl, H', ⟨by have := HK1.out; have := HK2.out; omega⟩, SB.take HS 7⟩
end Go.Proofs.Ytieioddimkafbaa.V
