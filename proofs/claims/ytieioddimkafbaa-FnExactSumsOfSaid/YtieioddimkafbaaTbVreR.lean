/- impl.reachOf: as a plain function, and that the calls come to it. -/
import Derived.Test.YtieioddimkafbaaTbVreK
import Derived.Test.YtieioddimkafbaaTbVplP
namespace Go.Proofs.Ytieioddimkafbaa.V
open Go.RowKit Go.Proofs.YtieioddimkafbaaW.PrintWords Go.Proofs.YtieioddimkafbaaW.PrintLast Go.Proofs.YtieioddimkafbaaW.PrintMore Go.Proofs.Ytieioddimkafbaa.Sq Go.Proofs.Ytieioddimkafbaa.Sep
attribute [local go_sem] max2_int min2_int max_two min_two max_three min_three max_four min_four
set_option linter.unusedVariables false
set_option linter.unusedSimpArgs false
mutual
def impl_reachOf.l0 : Nat → Bool → Int → Int → List S35 → List (Gv.K5 × Int) → List Int → List Int → List S55 → Option (List S35 × List (Gv.K5 × Int) × List Int × List Int × List S55 × Bool)
 | 0, _, _, _, _, _, _, _, _ => none
 | k + 1, a, most, i, x0, m, x2, x3, x4 => if i < (x0.length : Int) then (if 0 ≤ i then ((impl_Vessels_moves.f k (rd_T35 x0 i).f0 (rd_T35 x0 i).f1 a).bind fun ms => impl_reachOf.l1 k a most i ms 0 x0 m x2 x3 x4) else none) else some (x0, m, x2, x3, x4, true)
def impl_reachOf.l1 : Nat → Bool → Int → Int → List S55 → Int → List S35 → List (Gv.K5 × Int) → List Int → List Int → List S55 → Option (List S35 × List (Gv.K5 × Int) × List Int × List Int × List S55 × Bool)
 | 0, _, _, _, _, _, _, _, _, _, _ => none
 | k + 1, a, most, i, ms, j, x0, m, x2, x3, x4 => if j < (ms.length : Int) then (if 0 ≤ j ∧ 0 ≤ i ∧ i < (x0.length : Int) then ((impl_Vessels_behind.f (rd_T35 x0 i).f0 (rd_T35 x0 i).f1 (rd_T55 ms j).f0 (rd_T55 ms j).f1).bind fun n => if Gv.wf5 (Gv.key5 n.2) = true then (if (Gv.lk m (Gv.key5 n.2)).isSome = true then impl_reachOf.l1 k a most i ms (wrap64 (j + 1)) x0 m x2 x3 x4 else (if (x0.length : Int) = most then some ([], [], [], [], [], false) else (if x0.length ≤ 3000 ∧ m.length ≤ 3000 ∧ x2.length ≤ 3000 ∧ x3.length ≤ 3000 ∧ x4.length ≤ 3000 ∧ i < (x2.length : Int) then impl_reachOf.l1 k a most i ms (wrap64 (j + 1)) (x0 ++ [⟨n.1, n.2⟩]) (m ++ [(Gv.key5 n.2, (x0.length : Int))]) (x2 ++ [wrap64 (rd x2 i + 1)]) (x3 ++ [i]) (x4 ++ [⟨(rd_T55 ms j).f0, (rd_T55 ms j).f1⟩]) else none))) else none) else none) else impl_reachOf.l0 k a most (wrap64 (i + 1)) x0 m x2 x3 x4
end
def impl_reachOf.f (k : Nat) (l0 l1 : List Int) (a : Bool) (most : Int) : Option (List S35 × List (Gv.K5 × Int) × List Int × List Int × List S55 × Bool) := (impl_AreVessels.f k l0 l1).bind fun t => if t = true then ((impl_Vessels_own.f l0 l1).bind fun o => if Gv.wf5 (Gv.key5 l1) = true then impl_reachOf.l0 k a most 0 [⟨o.1, o.2⟩] [(Gv.key5 l1, 0)] [0] [-1] [⟨0, 0⟩] else none) else some ([], [], [], [], [], false)
/-- What a reach is made of. -/
def reR (b mb : Nat) (v0 v2 v3 v4 : Value) (x0 : List S35) (m : List (Gv.K5 × Int)) (x2 x3 : List Int) (x4 : List S55) (ok : Bool) : List Comp :=
 [nrow k35 35 b v0 x0, bif ok then mp Gv.ev5 90 3 mb m else triv, row (Kd.int .i64) 3 b v2 x2, row (Kd.int .i64) 3 b v3 x3, row k55 55 b v4 x4]
def reC (b g6 g8 mb : Nat) (v0 v2 v3 v4 : Value) (x0 : List S35) (m : List (Gv.K5 × Int)) (x2 x3 : List Int) (x4 : List S55) : List Comp :=
 [blk g6 #[.slice none 0 0, .map none, .slice none 0 0, .slice none 0 0, .slice none 0 0] 68, triv, nrow k35 35 b v0 x0, mp Gv.ev5 90 3 mb m, row (Kd.int .i64) 3 b v2 x2, row (Kd.int .i64) 3 b v3 x3, row k55 55 b v4 x4, blk g8 #[v0, .map (some mb), v2, v3, v4] 68]
theorem reR_none (F : Nat → Prop) (w : World) (b mb : Nat) : Sep F w (reR b mb (.slice none 0 0) (.slice none 0 0) (.slice none 0 0) (.slice none 0 0) [] [] [] [] [] false) := by
 intro i c hi
 rcases i with _ | _ | _ | _ | _ | i
 · obtain rfl := Option.some.inj hi; exact Kd.N_nil _ _ _ _ _
 · obtain rfl := Option.some.inj hi; exact fun _ _ => trivial
 · obtain rfl := Option.some.inj hi; exact Kd.R_nil _ _ _ _ _
 · obtain rfl := Option.some.inj hi; exact Kd.R_nil _ _ _ _ _
 · obtain rfl := Option.some.inj hi; exact Kd.R_nil _ _ _ _ _
 · simp [reR] at hi
def impl_reachOf.T3 : Bool × List (List Nat × List Nat) := (true, [([], []), ([0], [0]), ([1], [1]), ([], []), ([], []), ([4, 1], [4]), ([3, 5], [3, 5]), ([3, 4, 5, 6], [3]), ([], []), ([], []), ([], []), ([10], [10]), ([2, 7, 8, 9, 11], [2, 7, 8, 9, 11]), ([], []), ([13, 12, 5, 0, 1, 2, 3, 4, 5, 6, 7, 8, 9, 10, 11, 12, 13], [12, 13])])
def impl_reachOf.B3 : List Nat := [0, 1, 3, 0, 0, 19, 59, 123, 0, 0, 0, 1024, 4095, 0, 16383]
theorem impl_reachOf.tab3 : rtab .any (opsOf Try.f45 3) = impl_reachOf.T3 := by kernel_rfl
theorem impl_reachOf.bits3 : waitsOk impl_reachOf.T3.2 impl_reachOf.B3 = true := by kernel_rfl
def impl_reachOf.T10 : Bool × List (List Nat × List Nat) := (true, [([], []), ([0], [0]), ([], []), ([1, 2], [1, 2]), ([3], [3]), ([], []), ([4, 5], [4, 5]), ([], []), ([7, 6, 6, 0, 1, 2, 3, 4, 5, 6, 7], [6, 7])])
def impl_reachOf.B10 : List Nat := [0, 1, 0, 7, 15, 0, 63, 0, 255]
theorem impl_reachOf.tab10 : rtab .any (opsOf Try.f45 10) = impl_reachOf.T10 := by kernel_rfl
theorem impl_reachOf.bits10 : waitsOk impl_reachOf.T10.2 impl_reachOf.B10 = true := by kernel_rfl
def impl_reachOf.T11 : Bool × List (List Nat × List Nat) := (true, [([], []), ([0], [0]), ([], []), ([2], [2]), ([1, 3], [1, 3]), ([4], [4]), ([5], [5]), ([5], [5]), ([6, 3, 0, 1, 2, 3, 4, 5, 6], [6]), ([7, 8, 0, 1, 2, 3, 4, 5, 6, 7, 8], [7])])
def impl_reachOf.B11 : List Nat := [0, 1, 0, 4, 15, 31, 63, 63, 127, 511]
theorem impl_reachOf.tab11 : rtab .any (opsOf Try.f45 11) = impl_reachOf.T11 := by kernel_rfl
theorem impl_reachOf.bits11 : waitsOk impl_reachOf.T11.2 impl_reachOf.B11 = true := by kernel_rfl
def impl_reachOf.T15 : Bool × List (List Nat × List Nat) := (true, [([], []), ([0], [0]), ([], []), ([2], [2]), ([], []), ([4], [4]), ([5], [5]), ([1, 3, 6, 3, 0, 1, 2, 3, 4, 5, 6], [1, 3, 6])])
def impl_reachOf.B15 : List Nat := [0, 1, 0, 4, 0, 16, 48, 127]
theorem impl_reachOf.tab15 : rtab .any (opsOf Try.f45 15) = impl_reachOf.T15 := by kernel_rfl
theorem impl_reachOf.bits15 : waitsOk impl_reachOf.T15.2 impl_reachOf.B15 = true := by kernel_rfl
def impl_reachOf.T16 : Bool × List (List Nat × List Nat) := (true, [([], []), ([0], [0]), ([], []), ([2], [2]), ([1, 3], [1, 3]), ([], []), ([5], [5]), ([], []), ([7], [7]), ([], []), ([8, 9], [8, 9]), ([10], [10]), ([11], [11]), ([12], [12]), ([6, 13, 4], [6, 13]), ([0, 1, 2, 3, 4, 5, 6, 7, 8], []), ([15, 4, 14, 0, 1, 2, 3, 4, 5, 6, 7, 8], [4, 15]), ([0, 1, 2, 3, 4, 5, 6, 7, 8, 9, 10, 11, 12, 13, 14, 15, 16], []), ([17, 14, 16, 0, 1, 2, 3, 4, 5, 6, 7, 8, 9, 10, 11, 12, 13, 14, 15, 16], [14, 17])])
def impl_reachOf.B16 : List Nat := [0, 1, 0, 4, 15, 0, 32, 0, 128, 0, 896, 1920, 3968, 8064, 16383, 511, 65535, 131071, 262143]
theorem impl_reachOf.tab16 : rtab .any (opsOf Try.f45 16) = impl_reachOf.T16 := by kernel_rfl
theorem impl_reachOf.bits16 : waitsOk impl_reachOf.T16.2 impl_reachOf.B16 = true := by kernel_rfl
def impl_reachOf.T17 : Bool × List (List Nat × List Nat) := (true, [([], []), ([0], [0]), ([], []), ([2], [2]), ([1, 3], [1, 3]), ([], []), ([5], [5]), ([], []), ([7], [7]), ([6, 8, 4], [6, 8]), ([0, 1, 2, 3, 4, 5, 6], []), ([10, 4, 9, 0, 1, 2, 3, 4, 5, 6], [4, 10]), ([0, 1, 2, 3, 4, 5, 6, 7, 8, 9, 10, 11], []), ([12, 9, 11, 0, 1, 2, 3, 4, 5, 6, 7, 8, 9, 10, 11], [9, 12])])
def impl_reachOf.B17 : List Nat := [0, 1, 0, 4, 15, 0, 32, 0, 128, 511, 127, 2047, 4095, 8191]
theorem impl_reachOf.tab17 : rtab .any (opsOf Try.f45 17) = impl_reachOf.T17 := by kernel_rfl
theorem impl_reachOf.bits17 : waitsOk impl_reachOf.T17.2 impl_reachOf.B17 = true := by kernel_rfl
set_option maxHeartbeats 16000000 in
set_option maxRecDepth 100000 in
theorem impl_reachOf.calls (k : Nat) (F0 : Nat → Prop) (A0 : Option Addr) (c0 : Nat) (l0 : List Int) (A1 : Option Addr) (c1 : Nat) (l1 : List Int) (a1 : Bool) (most : Int) (r1 : List S35) (r2 : List (Gv.K5 × Int)) (r3 r4 : List Int) (r5 : List S55) (r6 : Bool) (w : World) (hr : Foot (fun w => Kd.C (Kd.int .i64) w A0 l0.length l0 ∧ Kd.C (Kd.int .i64) w A1 l1.length l1) w F0) (hc0 : l0.length ≤ c0) (hc1 : l1.length ≤ c1) (h : impl_reachOf.f k l0 l1 a1 most = some (r1, r2, r3, r4, r5, r6)) :
  Calls Try.prog 45 #[.agg #[.slice A0 l0.length c0, .slice A1 l1.length c1], .bool a1, .int .i64 most] w fun e w' => ∃ (mb : Nat) (v0 v2 v3 v4 : Value), e = .returned (.tuple #[.agg #[v0, bif r6 then .map (some mb) else .map none, v2, v3, v4], .bool r6]) ∧ w.heap.size ≤ mb ∧ Sep (fun k => F0 k ∨ w.heap.size ≤ k) w' (reR w.heap.size mb v0 v2 v3 v4 r1 r2 r3 r4 r5 r6) ∧ Below w.heap.size w w' := by
 have hu29 := Try.underlying35
 have hu83 := Try.underlying68
 have hu49 := Try.underlying55
 have HS := SB.start w (fun k => F0 k ∨ w.heap.size ≤ k) _ F0 hr (fun _ hk => .inl hk) (fun _ hk => .inr hk)
 clear hr
 unfold impl_reachOf.f at h
 replace h := Option.bind_eq_some_iff.mp h
 obtain ⟨t, AV, H⟩ := h
 have AV' := Aside0.mk AV
 clear AV
 go_enter Try.func45, Try.ntmps45
 by_cases ct : t = true
 rotate_left
 · replace ct := Bool.eq_false_iff.mpr ct
   subst ct
   rw [if_neg (by simp)] at H
   simp only [Option.some.injEq, Prod.mk.injEq] at H
   obtain ⟨rfl, rfl, rfl, rfl, rfl, rfl⟩ := H
   go_wp2_with (first | ((with_reducible refine gate_dst (N := 3) rfl ?_); refine SB.bx HS 3 #[.slice A0 l0.length c0, .slice A1 l1.length c1] 35 ?_; clear HS; intro g3 w1 HS G3; have hk3 := SB.cells (g := g3) (cells := #[.slice A0 l0.length c0, .slice A1 l1.length c1]) (t := 35) HS 1; have hcz3_0 := bc0 hk3; have hcz3_1 := bc1 hk3) | ((with_reducible refine gate_dst (N := 6) rfl ?_); refine SB.bx HS 6 #[.slice none 0 0, .map none, .slice none 0 0, .slice none 0 0, .slice none 0 0] 68 ?_; clear HS; intro g6 w2 HS G6; clear hk3 hcz3_0 hcz3_1; have hk3 := SB.cells (g := g3) (cells := #[.slice A0 l0.length c0, .slice A1 l1.length c1]) (t := 35) HS 1; have hcz3_0 := bc0 hk3; have hcz3_1 := bc1 hk3; have hk4 := SB.cells (g := g6) (cells := #[.slice none 0 0, .map none, .slice none 0 0, .slice none 0 0, .slice none 0 0]) (t := 68) HS 2; have hcz4_0 := bc0 hk4; have hcz4_1 := bc1 hk4; have hcz4_2 := bc2 hk4; have hcz4_3 := bc3 hk4; have hcz4_4 := bc4 hk4; have hfz4_0 := blk_frozen hk4.out 0; have hfz4_1 := blk_frozen hk4.out 1; have hfz4_2 := blk_frozen hk4.out 2; have hfz4_3 := blk_frozen hk4.out 3; have hfz4_4 := blk_frozen hk4.out 4) | ((with_reducible refine gate_callee (f := 70) rfl ?_); refine gl 16 Try.func70 #[.agg #[.slice A0 l0.length c0, .slice A1 l1.length c1]] ?_; (with_reducible refine (impl_AreVessels.calls k _ _ l0 _ _ l1 false _ ?side1 ?side2 ?side3 ?side4 AV'.out).mono ?_); (case side1 => exact (SB.foot (Q := fun w => Kd.C (Kd.int .i64) w A0 l0.length l0 ∧ Kd.C (Kd.int .i64) w A1 l1.length l1) HS 0).now.1); (case side2 => exact hc0); (case side3 => exact (SB.foot (Q := fun w => Kd.C (Kd.int .i64) w A0 l0.length l0 ∧ Kd.C (Kd.int .i64) w A1 l1.length l1) HS 0).now.2); (case side4 => exact hc1); rintro e w3 ⟨rfl, hb⟩; refine ⟨_, rfl, ?_⟩; replace HS := SB.call HS hb; clear hb; (try clear hk3 hcz3_0 hcz3_1 ); (try clear hk4 hcz4_0 hcz4_1 hcz4_2 hcz4_3 hcz4_4 hfz4_0 hfz4_1 hfz4_2 hfz4_3 hfz4_4); have hk4 := SB.cells (g := g6) (cells := #[.slice none 0 0, .map none, .slice none 0 0, .slice none 0 0, .slice none 0 0]) (t := 68) HS 2; have hcz4_0 := bc0 hk4; have hcz4_1 := bc1 hk4; have hcz4_2 := bc2 hk4; have hcz4_3 := bc3 hk4; have hcz4_4 := bc4 hk4; have hfz4_0 := blk_frozen hk4.out 0; have hfz4_1 := blk_frozen hk4.out 1; have hfz4_2 := blk_frozen hk4.out 2; have hfz4_3 := blk_frozen hk4.out 3; have hfz4_4 := blk_frozen hk4.out 4))
   replace HS := (SB.set (SB.set (SB.set (SB.set (SB.set HS 2 0 (.slice none 0 0) #[.slice none 0 0, .map none, .slice none 0 0, .slice none 0 0, .slice none 0 0] G6.out) 2 1 (.map none) #[.slice none 0 0, .map none, .slice none 0 0, .slice none 0 0, .slice none 0 0] G6.out) 2 2 (.slice none 0 0) #[.slice none 0 0, .map none, .slice none 0 0, .slice none 0 0, .slice none 0 0] G6.out) 2 3 (.slice none 0 0) #[.slice none 0 0, .map none, .slice none 0 0, .slice none 0 0, .slice none 0 0] G6.out) 2 4 (.slice none 0 0) #[.slice none 0 0, .map none, .slice none 0 0, .slice none 0 0, .slice none 0 0] G6.out)
   (try clear hk4 hcz4_0 hcz4_1 hcz4_2 hcz4_3 hcz4_4 hfz4_0 hfz4_1 hfz4_2 hfz4_3 hfz4_4)
   revert HS
   generalize (((((w3.setCell ⟨g6, 0, none⟩ (.slice none 0 0)).setCell ⟨g6, 1, none⟩ (.map none)).setCell ⟨g6, 2, none⟩ (.slice none 0 0)).setCell ⟨g6, 3, none⟩ (.slice none 0 0)).setCell ⟨g6, 4, none⟩ (.slice none 0 0)) = w9
   intro HS
   have hk9 := SB.cells (g := g6) (cells := #[.slice none 0 0, .map none, .slice none 0 0, .slice none 0 0, .slice none 0 0]) (t := 68) HS 2
   (try simp only [Exit.inBlock, Exit.then])
   refine bodyPost_ret (Sep.results_ct rfl _ _ g6 68 #[.slice none 0 0, .map none, .slice none 0 0, .slice none 0 0, .slice none 0 0] (0, 0) _ rfl hk9.out Try.underlying68 rfl (by kernel_rfl)) rfl ?_
   exact ⟨w.heap.size, _, _, _, _, rfl, Nat.le_refl _, reR_none _ _ _ _, HS.b⟩
 subst ct
 rw [if_pos rfl] at H
 replace H := Option.bind_eq_some_iff.mp H
 obtain ⟨⟨o1, o2⟩, AO, H⟩ := H
 by_cases cw : Gv.wf5 (Gv.key5 l1) = true
 rotate_left
 · rw [if_neg cw] at H
   exact absurd H (by simp)
 rw [if_pos cw] at H
 have AO' := Aside0.mk AO
 clear AO
 have cw' := Aside0.mk cw
 clear cw
 have H' := Aside0.mk H
 clear H
 dsimp only at H'
 go_wp2_with (first | ((with_reducible refine gate_dst (N := 3) rfl ?_); refine SB.bx HS 3 #[.slice A0 l0.length c0, .slice A1 l1.length c1] 35 ?_; clear HS; intro g3 w1 HS G3; have hk3 := SB.cells (g := g3) (cells := #[.slice A0 l0.length c0, .slice A1 l1.length c1]) (t := 35) HS 1; have hcz3_0 := bc0 hk3; have hcz3_1 := bc1 hk3) | ((with_reducible refine gate_dst (N := 6) rfl ?_); refine SB.bx HS 6 #[.slice none 0 0, .map none, .slice none 0 0, .slice none 0 0, .slice none 0 0] 68 ?_; clear HS; intro g6 w2 HS G6; clear hk3 hcz3_0 hcz3_1; have hk3 := SB.cells (g := g3) (cells := #[.slice A0 l0.length c0, .slice A1 l1.length c1]) (t := 35) HS 1; have hcz3_0 := bc0 hk3; have hcz3_1 := bc1 hk3; have hk4 := SB.cells (g := g6) (cells := #[.slice none 0 0, .map none, .slice none 0 0, .slice none 0 0, .slice none 0 0]) (t := 68) HS 2; have hcz4_0 := bc0 hk4; have hcz4_1 := bc1 hk4; have hcz4_2 := bc2 hk4; have hcz4_3 := bc3 hk4; have hcz4_4 := bc4 hk4; have hfz4_0 := blk_frozen hk4.out 0; have hfz4_1 := blk_frozen hk4.out 1; have hfz4_2 := blk_frozen hk4.out 2; have hfz4_3 := blk_frozen hk4.out 3; have hfz4_4 := blk_frozen hk4.out 4) | ((with_reducible refine gate_callee (f := 70) rfl ?_); refine gl 16 Try.func70 #[.agg #[.slice A0 l0.length c0, .slice A1 l1.length c1]] ?_; (with_reducible refine (impl_AreVessels.calls k _ _ l0 _ _ l1 true _ ?side1 ?side2 ?side3 ?side4 AV'.out).mono ?_); (case side1 => exact (SB.foot (Q := fun w => Kd.C (Kd.int .i64) w A0 l0.length l0 ∧ Kd.C (Kd.int .i64) w A1 l1.length l1) HS 0).now.1); (case side2 => exact hc0); (case side3 => exact (SB.foot (Q := fun w => Kd.C (Kd.int .i64) w A0 l0.length l0 ∧ Kd.C (Kd.int .i64) w A1 l1.length l1) HS 0).now.2); (case side4 => exact hc1); rintro e w3 ⟨rfl, hb⟩; refine ⟨_, rfl, ?_⟩; replace HS := SB.call HS hb; clear hb; (try clear hk3 hcz3_0 hcz3_1 ); (try clear hk4 hcz4_0 hcz4_1 hcz4_2 hcz4_3 hcz4_4 hfz4_0 hfz4_1 hfz4_2 hfz4_3 hfz4_4); have hk4 := SB.cells (g := g6) (cells := #[.slice none 0 0, .map none, .slice none 0 0, .slice none 0 0, .slice none 0 0]) (t := 68) HS 2; have hcz4_0 := bc0 hk4; have hcz4_1 := bc1 hk4; have hcz4_2 := bc2 hk4; have hcz4_3 := bc3 hk4; have hcz4_4 := bc4 hk4; have hfz4_0 := blk_frozen hk4.out 0; have hfz4_1 := blk_frozen hk4.out 1; have hfz4_2 := blk_frozen hk4.out 2; have hfz4_3 := blk_frozen hk4.out 3; have hfz4_4 := blk_frozen hk4.out 4))
 (try clear hk4 hcz4_0 hcz4_1 hcz4_2 hcz4_3 hcz4_4 hfz4_0 hfz4_1 hfz4_2 hfz4_3 hfz4_4)
 replace HS := SB.addTriv (SB.addTriv (SB.addTriv (SB.addTriv (SB.addTriv (SB.addTriv (SB.addTriv (SB.up (W := w3.drew) HS)))))))
 have HS : SB (fun k => F0 k ∨ w.heap.size ≤ k) w w3.drew [rd (fun w => Kd.C (Kd.int .i64) w A0 l0.length l0 ∧ Kd.C (Kd.int .i64) w A1 l1.length l1), blk g3 #[.slice A0 l0.length c0, .slice A1 l1.length c1] 35, blk g6 #[.slice none 0 0, .map none, .slice none 0 0, .slice none 0 0, .slice none 0 0] 68, triv, triv, triv, triv, triv, triv, triv] := HS
 have hk5 := SB.cells (g := g3) (cells := #[.slice A0 l0.length c0, .slice A1 l1.length c1]) (t := 35) HS 1
 refine start_ (n := 15) (S := fun w' => w'.cell? ⟨g3, 0, none⟩ = some (.slice A0 l0.length c0) ∧ w'.cell? ⟨g3, 1, none⟩ = some (.slice A1 l1.length c1)) (ds := []) (bl 15 0) (by kernel_rfl) rfl rfl ⟨bc0 hk5, bc1 hk5⟩ (fun hHeld => ?_)
 refine with_tabW impl_reachOf.tab3 impl_reachOf.bits3 (fun HT_ HW_ => ?_)
 clear hk5
 generalize w3.drew = w5 at HS hHeld ⊢
 refine pu 10 28 (bl 15 1024) HT_.out (v := ?_) (a' := ?_) ?_ ?_ ?_
 rotate_left; (intro w'; go_simp; with_reducible rfl); rotate_left; (simp only [sqa, sqb, sqc, sqd, i64_w, i32_w]; rfl)
 refine tk 0 19 (bl 15 1025) HT_.out HW_.out hHeld (v := ?_) (a' := ?_) ?_ ?_ ?_
 rotate_left; (rintro w' ⟨s0, s1⟩; go_simp; with_reducible rfl); rotate_left; (simp only [sqa, sqb, sqc, sqd, i64_w, i32_w]; rfl)
 refine tk 4 23 (bl 15 1041) HT_.out HW_.out hHeld (v := ?_) (a' := ?_) ?_ ?_ ?_
 rotate_left; (rintro w' ⟨s0, s1⟩; go_simp; with_reducible rfl); rotate_left; (simp only [sqa, sqb, sqc, sqd, i64_w, i32_w]; rfl)
 refine inv_last' (fun a0 l a w' => ∃ (b1 b2 b3 b5 b6 b7 b8 b9 b11 b12 b13 b14 : Bool) (x20 x21 x22 x24 x25 x26 x27 x29 x30 x8 : Value) (Y0 Y1 : Option Addr) (e0 e1 mb g8 : Nat), l = #[true, b1, b2, b3, true, b5, b6, b7, b8, b9, true, b11, b12, b13, b14] ∧ a = ((((((((((a0.put (some 20) x20).put (some 21) x21).put (some 22) x22).put (some 24) x24).put (some 25) x25).put (some 26) x26).put (some 27) x27).put (some 29) x29).put (some 30) x30).put (some 8) x8) ∧ (b2 = true → b1 = true) ∧ (b5 = true → b1 = true) ∧ (b6 = true → b3 = true ∧ b5 = true) ∧ (b7 = true → b6 = true) ∧ (b12 = true → b2 = true ∧ b7 = true ∧ b8 = true ∧ b9 = true ∧ b11 = true) ∧ (b14 = true → b12 = true ∧ b13 = true) ∧ (b1 = true → x20 = .agg #[.slice Y0 o1.length e0, .slice Y1 o2.length e1] ∧ o1.length ≤ e0 ∧ o2.length ≤ e1) ∧ (b3 = true → x22 = .map (some mb) ∧ w.heap.size ≤ mb) ∧ (b5 = true → x24 = Gv.ev5 (Gv.key5 l1)) ∧ (b7 = true → x25 = .map (some mb)) ∧ (b12 = true → x30 = .agg #[x21, .map (some mb), x26, x27, x29]) ∧ (b13 = true → x8 = .pointer (some ⟨g8, 0, none⟩) ∧ w.heap.size ≤ g8) ∧ SB (fun k => F0 k ∨ w.heap.size ≤ k) w w' [rd (fun w => Kd.C (Kd.int .i64) w A0 l0.length l0 ∧ Kd.C (Kd.int .i64) w A1 l1.length l1), blk g3 #[.slice A0 l0.length c0, .slice A1 l1.length c1] 35, blk g6 #[.slice none 0 0, .map none, .slice none 0 0, .slice none 0 0, .slice none 0 0] 68, bif b1 then rd (fun w => Kd.C (Kd.int .i64) w Y0 o1.length o1 ∧ Kd.C (Kd.int .i64) w Y1 o2.length o2) else triv, bif b2 then nrow k35 35 w.heap.size x21 [(⟨o1, o2⟩ : S35)] else triv, bif b3 then mp Gv.ev5 90 3 mb (bif b6 then [(Gv.key5 l1, 0)] else []) else triv, bif b8 then row (Kd.int .i64) 3 w.heap.size x26 [(0 : Int)] else triv, bif b9 then row (Kd.int .i64) 3 w.heap.size x27 [(-1 : Int)] else triv, bif b11 then row k55 55 w.heap.size x29 [(⟨0, 0⟩ : S55)] else triv, bif b13 then blk g8 (bif b14 then #[x21, .map (some mb), x26, x27, x29] else #[.slice none 0 0, .map none, .slice none 0 0, .slice none 0 0, .slice none 0 0]) 68 else triv]) HT_.out ?_ ?_ ?_ (by decide) ?_
 · rintro l a w' ⟨b1, b2, b3, b5, b6, b7, b8, b9, b11, b12, b13, b14, x20, x21, x22, x24, x25, x26, x27, x29, x30, x8, Y0, Y1, e0, e1, mb, g8, rfl, rfl, h2, h5, h6, h7, h12, h14, k1, k3, k5, k7, k12, k13, HS⟩
   have hk5 := SB.cells (g := g3) (cells := #[.slice A0 l0.length c0, .slice A1 l1.length c1]) (t := 35) HS 1
   exact ⟨bc0 hk5, bc1 hk5⟩
 · rintro l a w' q o K ⟨b1, b2, b3, b5, b6, b7, b8, b9, b11, b12, b13, b14, x20, x21, x22, x24, x25, x26, x27, x29, x30, x8, Y0, Y1, e0, e1, mb, g8, rfl, ha, h2, h5, h6, h7, h12, h14, k1, k3, k5, k7, k12, k13, HS⟩ hoi hq hK
   simp only [Act.put, List.setIfInBounds_toArray, List.set_cons_zero, List.set_cons_succ] at ha
   subst ha
   have hq15 : q < 15 := by
    rcases Nat.lt_or_ge q 15 with hh | hh
    · exact hh
    · exfalso
      have e : impl_reachOf.T3.2[q]? = none := List.getElem?_eq_none hh
      unfold readyAt at hq
      rw [e] at hq
      simp at hq
   obtain rfl | rfl | rfl | rfl | rfl | rfl | rfl | rfl | rfl | rfl | rfl | rfl | rfl | rfl | rfl : q = 0 ∨ q = 1 ∨ q = 2 ∨ q = 3 ∨ q = 4 ∨ q = 5 ∨ q = 6 ∨ q = 7 ∨ q = 8 ∨ q = 9 ∨ q = 10 ∨ q = 11 ∨ q = 12 ∨ q = 13 ∨ q = 14 := by omega
   · cases (show false = true from hq)
   · obtain rfl : b1 = false := by cases b1; rfl; cases (show false = true from hq)
     obtain rfl : b2 = false := by cases b2; rfl; (have hh := h2 rfl; simp at hh)
     obtain rfl : b5 = false := by cases b5; rfl; (have hh := h5 rfl; simp at hh)
     obtain rfl : b6 = false := by cases b6; rfl; (have hh := h6 rfl; simp at hh)
     obtain rfl : b7 = false := by cases b7; rfl; (have hh := h7 rfl; simp at hh)
     obtain rfl : b12 = false := by cases b12; rfl; (have hh := h12 rfl; simp at hh)
     obtain rfl : b14 = false := by cases b14; rfl; (have hh := h14 rfl; simp at hh)
     change some _ = some o at hoi
     injection hoi with hoi
     subst hoi
     clear hq hq15
     refine gs Try.func71 #[.agg #[.slice A0 l0.length c0, .slice A1 l1.length c1]] ?_
     with_reducible refine (impl_Vessels_own.calls _ _ l0 _ _ l1 o1 o2 _ ?side1 ?side2 ?side3 ?side4 AO'.out).mono ?_
     (case side1 => exact (SB.foot (Q := fun w => Kd.C (Kd.int .i64) w A0 l0.length l0 ∧ Kd.C (Kd.int .i64) w A1 l1.length l1) HS 0).now.1)
     (case side2 => exact hc0)
     (case side3 => exact (SB.foot (Q := fun w => Kd.C (Kd.int .i64) w A0 l0.length l0 ∧ Kd.C (Kd.int .i64) w A1 l1.length l1) HS 0).now.2)
     (case side4 => exact hc1)
     rintro e w2 ⟨v5, v6, rfl, ho0, ho1, hb⟩
     obtain ⟨N0, m0, rfl⟩ := Kd.R_slice ho0
     obtain ⟨N1, m1, rfl⟩ := Kd.R_slice ho1
     have hn0 := (Kd.R_reads' ho0).2.1
     have hn1 := (Kd.R_reads' ho1).2.1
     refine ⟨_, rfl, ?_⟩
     have HS2 := SB.fillNew HS 3 (rd (fun w => Kd.C (Kd.int .i64) w N0 o1.length o1 ∧ Kd.C (Kd.int .i64) w N1 o2.length o2)) hb (foot_and (R_foot ho0) (R_foot ho1)) (.inl rfl)
     exact hK.out _ _ ⟨true, false, b3, false, false, false, b8, b9, b11, false, b13, false, (.agg #[.slice N0 o1.length m0, .slice N1 o2.length m1]), (x21), (x22), (x24), (x25), (x26), (x27), (x29), (x30), (x8), N0, N1, m0, m1, mb, g8, rfl, (by show Act.put _ (some 20) _ = _; simp only [Act.put, List.setIfInBounds_toArray, List.set_cons_zero, List.set_cons_succ]), (fun hh => by cases hh), (fun hh => by cases hh), (fun hh => by cases hh), (fun hh => by cases hh), (fun hh => by cases hh), (fun hh => by cases hh), fun _ => ⟨rfl, hn0, hn1⟩, k3, (fun hh => by cases hh), (fun hh => by cases hh), (fun hh => by cases hh), k13, HS2⟩
   · obtain rfl : b2 = false := by cases b2; rfl; cases (show false = true from hq)
     obtain rfl : b1 = true := by cases b1; cases (show false = true from hq); rfl
     obtain rfl : b12 = false := by cases b12; rfl; (have hh := h12 rfl; simp at hh)
     obtain rfl : b14 = false := by cases b14; rfl; (have hh := h14 rfl; simp at hh)
     change some _ = some o at hoi
     injection hoi with hoi
     subst hoi
     clear hq hq15
     obtain ⟨rfl, ke0, ke1⟩ := k1 rfl
     refine SB.litN_step HS 21 k35 35 [(⟨o1, o2⟩ : S35)] [.slice Y0 o1.length e0, .slice Y1 o2.length e1] ?hp ?_
     case hp => exact Reps.c2 (show Kd.FK k35 _ _ (⟨o1, o2⟩ : S35) [.slice Y0 o1.length e0, .slice Y1 o2.length e1] from k35_mkF _ _ (⟨o1, o2⟩ : S35) ke0 ((SB.foot (Q := fun w => Kd.C (Kd.int .i64) w Y0 o1.length o1 ∧ Kd.C (Kd.int .i64) w Y1 o2.length o2) HS 3).imp (fun _ h => h.1)) ke1 ((SB.foot (Q := fun w => Kd.C (Kd.int .i64) w Y0 o1.length o1 ∧ Kd.C (Kd.int .i64) w Y1 o2.length o2) HS 3).imp (fun _ h => h.2))) (Reps.none _ _)
     intro v1 w1 hb ho
     have HS2 := SB.fill HS 4 (nrow k35 35 w.heap.size v1 [(⟨o1, o2⟩ : S35)]) hb (Kd.N_mono (Kd.N_lower ho HS.le) (fun k hk => ⟨hk.1, fun j c _ hj => hk.2 j c hj⟩)) (Kd.N_base2 ho)
     exact hK.out _ _ ⟨true, true, b3, b5, b6, b7, b8, b9, b11, false, b13, false, (.agg #[.slice Y0 o1.length e0, .slice Y1 o2.length e1]), (v1), (x22), (x24), (x25), (x26), (x27), (x29), (x30), (x8), Y0, Y1, e0, e1, mb, g8, rfl, (by show Act.put _ (some 21) _ = _; simp only [Act.put, List.setIfInBounds_toArray, List.set_cons_zero, List.set_cons_succ]), (fun _ => by simp), (fun hh => by have h_ := h5 hh; simp at h_ ⊢ <;> simp [h_]), h6, h7, (fun hh => by cases hh), (fun hh => by cases hh), fun _ => ⟨rfl, ke0, ke1⟩, k3, k5, k7, (fun hh => by cases hh), k13, HS2⟩
   · obtain rfl : b3 = false := by cases b3; rfl; cases (show false = true from hq)
     obtain rfl : b6 = false := by cases b6; rfl; (have hh := h6 rfl; simp at hh)
     obtain rfl : b7 = false := by cases b7; rfl; (have hh := h7 rfl; simp at hh)
     obtain rfl : b12 = false := by cases b12; rfl; (have hh := h12 rfl; simp at hh)
     obtain rfl : b14 = false := by cases b14; rfl; (have hh := h14 rfl; simp at hh)
     change some _ = some o at hoi
     injection hoi with hoi
     subst hoi
     clear hq hq15
     refine SB.mk_step (ev := Gv.ev5) (k := 90) (e := 3) HS 66 22 ?_
     intro mb' w1 hg hb hm
     have HS2 := SB.fillNew HS 5 (mp Gv.ev5 90 3 mb' []) hb ⟨hm, Nat.le_of_eq hg.symm⟩ (.inr ⟨_, rfl, Nat.le_of_eq hg.symm⟩)
     have kmb' : w.heap.size ≤ mb' := by rw [hg]; exact HS.le
     exact hK.out _ _ ⟨b1, b2, true, b5, false, false, b8, b9, b11, false, b13, false, (x20), (x21), (.map (some mb')), (x24), (x25), (x26), (x27), (x29), (x30), (x8), Y0, Y1, e0, e1, mb', g8, rfl, (by show Act.put _ (some 22) _ = _; simp only [Act.put, List.setIfInBounds_toArray, List.set_cons_zero, List.set_cons_succ]), h2, h5, (fun hh => by cases hh), (fun hh => by cases hh), (fun hh => by cases hh), (fun hh => by cases hh), k1, fun _ => ⟨rfl, kmb'⟩, k5, (fun hh => by cases hh), (fun hh => by cases hh), k13, HS2⟩
   · cases (show false = true from hq)
   · obtain rfl : b5 = false := by cases b5; rfl; cases (show false = true from hq)
     obtain rfl : b1 = true := by cases b1; cases (show false = true from hq); rfl
     obtain rfl : b6 = false := by cases b6; rfl; (have hh := h6 rfl; simp at hh)
     obtain rfl : b7 = false := by cases b7; rfl; (have hh := h7 rfl; simp at hh)
     obtain rfl : b12 = false := by cases b12; rfl; (have hh := h12 rfl; simp at hh)
     obtain rfl : b14 = false := by cases b14; rfl; (have hh := h14 rfl; simp at hh)
     change some _ = some o at hoi
     injection hoi with hoi
     subst hoi
     clear hq hq15
     obtain ⟨rfl, ke0, ke1⟩ := k1 rfl
     refine gs Try.func61 #[.agg #[.slice A0 l0.length c0, .slice A1 l1.length c1]] ?_
     refine (impl_keyOf.calls A0 c0 l0 A1 c1 l1 _ (SB.foot (Q := fun w => Kd.C (Kd.int .i64) w A0 l0.length l0 ∧ Kd.C (Kd.int .i64) w A1 l1.length l1) HS 0).now.2).mono ?_
     rintro e w2 ⟨rfl, hb⟩
     refine ⟨_, rfl, ?_⟩
     have HS2 := SB.call HS hb
     exact hK.out _ _ ⟨true, b2, b3, true, false, false, b8, b9, b11, false, b13, false, (.agg #[.slice Y0 o1.length e0, .slice Y1 o2.length e1]), (x21), (x22), (Gv.ev5 (Gv.key5 l1)), (x25), (x26), (x27), (x29), (x30), (x8), Y0, Y1, e0, e1, mb, g8, rfl, (by show Act.put _ (some 24) _ = _; simp only [Act.put, List.setIfInBounds_toArray, List.set_cons_zero, List.set_cons_succ]), (fun hh => by have h_ := h2 hh; simp at h_ ⊢ <;> simp [h_]), (fun _ => by simp), (fun hh => by cases hh), (fun hh => by cases hh), (fun hh => by cases hh), (fun hh => by cases hh), fun _ => ⟨rfl, ke0, ke1⟩, k3, fun _ => rfl, (fun hh => by cases hh), (fun hh => by cases hh), k13, HS2⟩
   · obtain rfl : b6 = false := by cases b6; rfl; cases (show false = true from hq)
     obtain rfl : b3 = true := by cases b3; cases (show false = true from hq); rfl
     obtain rfl : b5 = true := by cases b5; cases (show false = true from hq); rfl
     obtain rfl : b1 = true := by have hh := h5 rfl; simp [hh]
     obtain rfl : b7 = false := by cases b7; rfl; (have hh := h7 rfl; simp at hh)
     obtain rfl : b12 = false := by cases b12; rfl; (have hh := h12 rfl; simp at hh)
     obtain rfl : b14 = false := by cases b14; rfl; (have hh := h14 rfl; simp at hh)
     change some _ = some o at hoi
     injection hoi with hoi
     subst hoi
     clear hq hq15
     obtain ⟨rfl, ke0, ke1⟩ := k1 rfl
     obtain ⟨rfl, kmb⟩ := k3 rfl
     obtain rfl := k5 rfl
     refine SB.store_step HS 5 (.tmp 22) (.tmp 24) (.const (.int .i64 0)) 66 mb [] (Gv.key5 l1) _ 0 Gv.keyed5 Try.underlying66 Try.underlying3 rfl (by decide) rfl (Gv.key5_lit (Gv.key5 l1) cw'.out).choose_spec (fun y => Gv.ev5_inj y _) rfl (by decide) rfl kmb ?_
     intro w1 HS2
     exact hK.out _ _ ⟨true, b2, true, true, true, false, b8, b9, b11, false, b13, false, (.agg #[.slice Y0 o1.length e0, .slice Y1 o2.length e1]), (x21), (.map (some mb)), (Gv.ev5 (Gv.key5 l1)), (x25), (x26), (x27), (x29), (x30), (x8), Y0, Y1, e0, e1, mb, g8, rfl, (by simp only [Act.put, List.setIfInBounds_toArray, List.set_cons_zero, List.set_cons_succ]), (fun hh => by have h_ := h2 hh; simp at h_ ⊢ <;> simp [h_]), (fun hh => by simp at hh ⊢), (fun _ => by simp), (fun hh => by cases hh), (fun hh => by cases hh), (fun hh => by cases hh), fun _ => ⟨rfl, ke0, ke1⟩, fun _ => ⟨rfl, kmb⟩, fun _ => rfl, (fun hh => by cases hh), (fun hh => by cases hh), k13, HS2⟩
   · obtain rfl : b7 = false := by cases b7; rfl; cases (show false = true from hq)
     obtain rfl : b3 = true := by cases b3; cases (show false = true from hq); rfl
     obtain rfl : b5 = true := by cases b5; cases (show false = true from hq); rfl
     obtain rfl : b6 = true := by cases b6; cases (show false = true from hq); rfl
     obtain rfl : b1 = true := by have hh := h5 rfl; simp [hh]
     obtain rfl : b12 = false := by cases b12; rfl; (have hh := h12 rfl; simp at hh)
     obtain rfl : b14 = false := by cases b14; rfl; (have hh := h14 rfl; simp at hh)
     change some _ = some o at hoi
     injection hoi with hoi
     subst hoi
     clear hq hq15
     obtain ⟨rfl, ke0, ke1⟩ := k1 rfl
     obtain ⟨rfl, kmb⟩ := k3 rfl
     obtain rfl := k5 rfl
     refine value_ (N := some 25) (w1 := w') (v := .map (some mb)) (by rfl) rfl (by first | (go_simp; done) | (go_simp; rfl) | rfl) ?_
     exact hK.out _ _ ⟨true, b2, true, true, true, true, b8, b9, b11, false, b13, false, (.agg #[.slice Y0 o1.length e0, .slice Y1 o2.length e1]), (x21), (.map (some mb)), (Gv.ev5 (Gv.key5 l1)), (.map (some mb)), (x26), (x27), (x29), (x30), (x8), Y0, Y1, e0, e1, mb, g8, rfl, (by show Act.put _ (some 25) _ = _; simp only [Act.put, List.setIfInBounds_toArray, List.set_cons_zero, List.set_cons_succ]), (fun hh => by have h_ := h2 hh; simp at h_ ⊢ <;> simp [h_]), (fun hh => by simp at hh ⊢), (fun hh => by simp at hh ⊢), (fun _ => by simp), (fun hh => by cases hh), (fun hh => by cases hh), fun _ => ⟨rfl, ke0, ke1⟩, fun _ => ⟨rfl, kmb⟩, fun _ => rfl, fun _ => rfl, (fun hh => by cases hh), k13, HS⟩
   · obtain rfl : b8 = false := by cases b8; rfl; cases (show false = true from hq)
     obtain rfl : b12 = false := by cases b12; rfl; (have hh := h12 rfl; simp at hh)
     obtain rfl : b14 = false := by cases b14; rfl; (have hh := h14 rfl; simp at hh)
     change some _ = some o at hoi
     injection hoi with hoi
     subst hoi
     clear hq hq15
     refine SB.lit_step HS 26 (Kd.int .i64) 3 [(0 : Int)] [.int .i64 0] (Reps.one (show Kd.M (Kd.int .i64) _ _ _ 0 [.int .i64 0] from rfl) (Reps.none _ _)) ?_
     intro v1 w1 hb ho
     have HS2 := SB.fillNew HS 6 (row (Kd.int .i64) 3 w.heap.size v1 [(0 : Int)]) hb (Kd.R_lower (Kd.R_mono (Kd.R_bound ho) (fun _ hk => hk.2.1)) HS.le) (own_new ho)
     exact hK.out _ _ ⟨b1, b2, b3, b5, b6, b7, true, b9, b11, false, b13, false, (x20), (x21), (x22), (x24), (x25), (v1), (x27), (x29), (x30), (x8), Y0, Y1, e0, e1, mb, g8, rfl, (by show Act.put _ (some 26) _ = _; simp only [Act.put, List.setIfInBounds_toArray, List.set_cons_zero, List.set_cons_succ]), h2, h5, h6, h7, (fun hh => by cases hh), (fun hh => by cases hh), k1, k3, k5, k7, (fun hh => by cases hh), k13, HS2⟩
   · obtain rfl : b9 = false := by cases b9; rfl; cases (show false = true from hq)
     obtain rfl : b12 = false := by cases b12; rfl; (have hh := h12 rfl; simp at hh)
     obtain rfl : b14 = false := by cases b14; rfl; (have hh := h14 rfl; simp at hh)
     change some _ = some o at hoi
     injection hoi with hoi
     subst hoi
     clear hq hq15
     refine SB.lit_step HS 27 (Kd.int .i64) 3 [(-1 : Int)] [.int .i64 (-1)] (Reps.one (show Kd.M (Kd.int .i64) _ _ _ (-1) [.int .i64 (-1)] from rfl) (Reps.none _ _)) ?_
     intro v1 w1 hb ho
     have HS2 := SB.fillNew HS 7 (row (Kd.int .i64) 3 w.heap.size v1 [(-1 : Int)]) hb (Kd.R_lower (Kd.R_mono (Kd.R_bound ho) (fun _ hk => hk.2.1)) HS.le) (own_new ho)
     exact hK.out _ _ ⟨b1, b2, b3, b5, b6, b7, b8, true, b11, false, b13, false, (x20), (x21), (x22), (x24), (x25), (x26), (v1), (x29), (x30), (x8), Y0, Y1, e0, e1, mb, g8, rfl, (by show Act.put _ (some 27) _ = _; simp only [Act.put, List.setIfInBounds_toArray, List.set_cons_zero, List.set_cons_succ]), h2, h5, h6, h7, (fun hh => by cases hh), (fun hh => by cases hh), k1, k3, k5, k7, (fun hh => by cases hh), k13, HS2⟩
   · cases (show false = true from hq)
   · obtain rfl : b11 = false := by cases b11; rfl; cases (show false = true from hq)
     obtain rfl : b12 = false := by cases b12; rfl; (have hh := h12 rfl; simp at hh)
     obtain rfl : b14 = false := by cases b14; rfl; (have hh := h14 rfl; simp at hh)
     change some _ = some o at hoi
     injection hoi with hoi
     subst hoi
     clear hq hq15
     refine SB.lit_step HS 29 k55 55 [(⟨0, 0⟩ : S55)] [.int .i64 0, .int .i64 0] (Reps.c2 (show Kd.M k55 _ _ _ (⟨0, 0⟩ : S55) [.int .i64 0, .int .i64 0] from k55_mkM _ _ _ (⟨0, 0⟩ : S55)) (Reps.none _ _)) ?_
     intro v1 w1 hb ho
     have HS2 := SB.fillNew HS 8 (row k55 55 w.heap.size v1 [(⟨0, 0⟩ : S55)]) hb (Kd.R_lower (Kd.R_mono (Kd.R_bound ho) (fun _ hk => hk.2.1)) HS.le) (own_new ho)
     exact hK.out _ _ ⟨b1, b2, b3, b5, b6, b7, b8, b9, true, false, b13, false, (x20), (x21), (x22), (x24), (x25), (x26), (x27), (v1), (x30), (x8), Y0, Y1, e0, e1, mb, g8, rfl, (by show Act.put _ (some 29) _ = _; simp only [Act.put, List.setIfInBounds_toArray, List.set_cons_zero, List.set_cons_succ]), h2, h5, h6, h7, (fun hh => by cases hh), (fun hh => by cases hh), k1, k3, k5, k7, (fun hh => by cases hh), k13, HS2⟩
   · obtain rfl : b12 = false := by cases b12; rfl; cases (show false = true from hq)
     obtain rfl : b2 = true := by cases b2; cases (show false = true from hq); rfl
     obtain rfl : b7 = true := by cases b7; cases (show false = true from hq); rfl
     obtain rfl : b8 = true := by cases b8; cases (show false = true from hq); rfl
     obtain rfl : b9 = true := by cases b9; cases (show false = true from hq); rfl
     obtain rfl : b11 = true := by cases b11; cases (show false = true from hq); rfl
     obtain rfl : b6 = true := by have hh := h7 rfl; simp [hh]
     obtain rfl : b3 = true := by have hh := h6 rfl; simp [hh]
     obtain rfl : b5 = true := by have hh := h6 rfl; simp [hh]
     obtain rfl : b1 = true := by have hh := h5 rfl; simp [hh]
     obtain rfl : b14 = false := by cases b14; rfl; (have hh := h14 rfl; simp at hh)
     change some _ = some o at hoi
     injection hoi with hoi
     subst hoi
     clear hq hq15
     obtain ⟨rfl, ke0, ke1⟩ := k1 rfl
     obtain ⟨rfl, kmb⟩ := k3 rfl
     obtain rfl := k5 rfl
     obtain rfl := k7 rfl
     obtain ⟨B0, d0, rfl⟩ := Kd.N_slice (SB.nrows HS 4 (d := k35) (v := x21) (xs := [(⟨o1, o2⟩ : S35)]))
     obtain ⟨B2, d2, rfl⟩ := Kd.R_slice (SB.rows HS 6 (d := Kd.int .i64) (v := x26) (xs := [(0 : Int)]))
     obtain ⟨B3, d3, rfl⟩ := Kd.R_slice (SB.rows HS 7 (d := Kd.int .i64) (v := x27) (xs := [(-1 : Int)]))
     obtain ⟨B4, d4, rfl⟩ := Kd.R_slice (SB.rows HS 8 (d := k55) (v := x29) (xs := [(⟨0, 0⟩ : S55)]))
     refine value_ (w1 := w') (v := .agg #[.slice B0 [(⟨o1, o2⟩ : S35)].length d0, .map (some mb), .slice B2 [(0 : Int)].length d2, .slice B3 [(-1 : Int)].length d3, .slice B4 [(⟨0, 0⟩ : S55)].length d4]) (by rfl) rfl (by first | (go_simp; done) | (go_simp; rfl) | rfl) ?_
     exact hK.out _ _ ⟨true, true, true, true, true, true, true, true, true, true, b13, false, (.agg #[.slice Y0 o1.length e0, .slice Y1 o2.length e1]), (.slice B0 [(⟨o1, o2⟩ : S35)].length d0), (.map (some mb)), (Gv.ev5 (Gv.key5 l1)), (.map (some mb)), (.slice B2 [(0 : Int)].length d2), (.slice B3 [(-1 : Int)].length d3), (.slice B4 [(⟨0, 0⟩ : S55)].length d4), (.agg #[.slice B0 [(⟨o1, o2⟩ : S35)].length d0, .map (some mb), .slice B2 [(0 : Int)].length d2, .slice B3 [(-1 : Int)].length d3, .slice B4 [(⟨0, 0⟩ : S55)].length d4]), (x8), Y0, Y1, e0, e1, mb, g8, rfl, (by show Act.put _ (some 30) _ = _; simp only [Act.put, List.setIfInBounds_toArray, List.set_cons_zero, List.set_cons_succ]), (fun hh => by simp at hh ⊢), (fun hh => by simp at hh ⊢), (fun hh => by simp at hh ⊢), (fun hh => by simp at hh ⊢), (fun _ => by simp), (fun hh => by cases hh), fun _ => ⟨rfl, ke0, ke1⟩, fun _ => ⟨rfl, kmb⟩, fun _ => rfl, fun _ => rfl, fun _ => rfl, k13, HS⟩
   · obtain rfl : b13 = false := by cases b13; rfl; cases (show false = true from hq)
     obtain rfl : b14 = false := by cases b14; rfl; (have hh := h14 rfl; simp at hh)
     change some _ = some o at hoi
     injection hoi with hoi
     subst hoi
     clear hq hq15
     refine box_step (N := 8) (cs := #[.slice none 0 0, .map none, .slice none 0 0, .slice none 0 0, .slice none 0 0]) (t := 68) (by rfl) rfl (by first | (go_simp; done) | (go_simp; rfl)) ?_
     intro g hg w1 ho hb
     have HS2 := SB.fillNew HS 9 (blk g #[.slice none 0 0, .map none, .slice none 0 0, .slice none 0 0, .slice none 0 0] 68) hb ⟨ho, Nat.le_of_eq hg.symm⟩ (.inr ⟨_, rfl, Nat.le_of_eq hg.symm⟩)
     have kg8' : w.heap.size ≤ g := by rw [hg]; exact HS.le
     exact hK.out _ _ ⟨b1, b2, b3, b5, b6, b7, b8, b9, b11, b12, true, false, (x20), (x21), (x22), (x24), (x25), (x26), (x27), (x29), (x30), (.pointer (some ⟨g, 0, none⟩)), Y0, Y1, e0, e1, mb, g, rfl, (by show Act.put _ (some 8) _ = _; simp only [Act.put, List.setIfInBounds_toArray, List.set_cons_zero, List.set_cons_succ]), h2, h5, h6, h7, h12, (fun hh => by cases hh), k1, k3, k5, k7, k12, fun _ => ⟨rfl, kg8'⟩, HS2⟩
   · obtain rfl : b14 = false := by cases b14; rfl; cases (show false = true from hq)
     obtain rfl : b13 = true := by cases b13; cases (show false = true from hq); rfl
     obtain rfl : b12 = true := by cases b12; cases (show false = true from hq); rfl
     obtain rfl : b5 = true := by cases b5; cases (show false = true from hq); rfl
     obtain rfl : b1 = true := by cases b1; cases (show false = true from hq); rfl
     obtain rfl : b2 = true := by cases b2; cases (show false = true from hq); rfl
     obtain rfl : b3 = true := by cases b3; cases (show false = true from hq); rfl
     obtain rfl : b6 = true := by cases b6; cases (show false = true from hq); rfl
     obtain rfl : b7 = true := by cases b7; cases (show false = true from hq); rfl
     obtain rfl : b8 = true := by cases b8; cases (show false = true from hq); rfl
     obtain rfl : b9 = true := by cases b9; cases (show false = true from hq); rfl
     obtain rfl : b11 = true := by cases b11; cases (show false = true from hq); rfl
     change some _ = some o at hoi
     injection hoi with hoi
     subst hoi
     clear hq hq15
     obtain ⟨rfl, ke0, ke1⟩ := k1 rfl
     obtain ⟨rfl, kmb⟩ := k3 rfl
     obtain rfl := k5 rfl
     obtain rfl := k7 rfl
     obtain rfl := k12 rfl
     obtain ⟨rfl, kg8⟩ := k13 rfl
     obtain ⟨B0, d0, rfl⟩ := Kd.N_slice (SB.nrows HS 4 (d := k35) (v := x21) (xs := [(⟨o1, o2⟩ : S35)]))
     obtain ⟨B2, d2, rfl⟩ := Kd.R_slice (SB.rows HS 6 (d := Kd.int .i64) (v := x26) (xs := [(0 : Int)]))
     obtain ⟨B3, d3, rfl⟩ := Kd.R_slice (SB.rows HS 7 (d := Kd.int .i64) (v := x27) (xs := [(-1 : Int)]))
     obtain ⟨B4, d4, rfl⟩ := Kd.R_slice (SB.rows HS 8 (d := k55) (v := x29) (xs := [(⟨0, 0⟩ : S55)]))
     have hk6 := SB.cells (g := g8) (cells := #[.slice none 0 0, .map none, .slice none 0 0, .slice none 0 0, .slice none 0 0]) (t := 68) HS 9
     have hcz6_0 := bc0 hk6
     have hcz6_1 := bc1 hk6
     have hcz6_2 := bc2 hk6
     have hcz6_3 := bc3 hk6
     have hcz6_4 := bc4 hk6
     have hfz6_0 := blk_frozen hk6.out 0
     have hfz6_1 := blk_frozen hk6.out 1
     have hfz6_2 := blk_frozen hk6.out 2
     have hfz6_3 := blk_frozen hk6.out 3
     have hfz6_4 := blk_frozen hk6.out 4
     refine skip_ (w1 := ?_) (by rfl) rfl ?_ ?_
     rotate_left
     · go_simp
       rfl
     have HS2 := (SB.set (SB.set (SB.set (SB.set (SB.set HS 9 0 (.slice B0 [(⟨o1, o2⟩ : S35)].length d0) #[.slice B0 [(⟨o1, o2⟩ : S35)].length d0, .map none, .slice none 0 0, .slice none 0 0, .slice none 0 0] kg8) 9 1 (.map (some mb)) #[.slice B0 [(⟨o1, o2⟩ : S35)].length d0, .map (some mb), .slice none 0 0, .slice none 0 0, .slice none 0 0] kg8) 9 2 (.slice B2 [(0 : Int)].length d2) #[.slice B0 [(⟨o1, o2⟩ : S35)].length d0, .map (some mb), .slice B2 [(0 : Int)].length d2, .slice none 0 0, .slice none 0 0] kg8) 9 3 (.slice B3 [(-1 : Int)].length d3) #[.slice B0 [(⟨o1, o2⟩ : S35)].length d0, .map (some mb), .slice B2 [(0 : Int)].length d2, .slice B3 [(-1 : Int)].length d3, .slice none 0 0] kg8) 9 4 (.slice B4 [(⟨0, 0⟩ : S55)].length d4) #[.slice B0 [(⟨o1, o2⟩ : S35)].length d0, .map (some mb), .slice B2 [(0 : Int)].length d2, .slice B3 [(-1 : Int)].length d3, .slice B4 [(⟨0, 0⟩ : S55)].length d4] kg8)
     exact hK.out _ _ ⟨true, true, true, true, true, true, true, true, true, true, true, true, (.agg #[.slice Y0 o1.length e0, .slice Y1 o2.length e1]), (.slice B0 [(⟨o1, o2⟩ : S35)].length d0), (.map (some mb)), (Gv.ev5 (Gv.key5 l1)), (.map (some mb)), (.slice B2 [(0 : Int)].length d2), (.slice B3 [(-1 : Int)].length d3), (.slice B4 [(⟨0, 0⟩ : S55)].length d4), (.agg #[.slice B0 [(⟨o1, o2⟩ : S35)].length d0, .map (some mb), .slice B2 [(0 : Int)].length d2, .slice B3 [(-1 : Int)].length d3, .slice B4 [(⟨0, 0⟩ : S55)].length d4]), (.pointer (some ⟨g8, 0, none⟩)), Y0, Y1, e0, e1, mb, g8, rfl, (by simp only [Act.put, List.setIfInBounds_toArray, List.set_cons_zero, List.set_cons_succ]), (fun hh => by simp at hh ⊢), (fun hh => by simp at hh ⊢), (fun hh => by simp at hh ⊢), (fun hh => by simp at hh ⊢), (fun hh => by simp at hh ⊢), (fun _ => by simp), fun _ => ⟨rfl, ke0, ke1⟩, fun _ => ⟨rfl, kmb⟩, fun _ => rfl, fun _ => rfl, fun _ => rfl, fun _ => ⟨rfl, kg8⟩, HS2⟩
 · rintro l a w' ⟨b1, b2, b3, b5, b6, b7, b8, b9, b11, b12, b13, b14, x20, x21, x22, x24, x25, x26, x27, x29, x30, x8, Y0, Y1, e0, e1, mb, g8, rfl, rfl, h2, h5, h6, h7, h12, h14, k1, k3, k5, k7, k12, k13, HS⟩ hq
   obtain rfl : b1 = true := by cases b1; cases (show true = false from hq 1); rfl
   obtain rfl : b2 = true := by cases b2; cases (show true = false from hq 2); rfl
   obtain rfl : b3 = true := by cases b3; cases (show true = false from hq 3); rfl
   obtain rfl : b5 = true := by cases b5; cases (show true = false from hq 5); rfl
   obtain rfl : b6 = true := by cases b6; cases (show true = false from hq 6); rfl
   obtain rfl : b7 = true := by cases b7; cases (show true = false from hq 7); rfl
   obtain rfl : b8 = true := by cases b8; cases (show true = false from hq 8); rfl
   obtain rfl : b9 = true := by cases b9; cases (show true = false from hq 9); rfl
   obtain rfl : b11 = true := by cases b11; cases (show true = false from hq 11); rfl
   obtain rfl : b12 = true := by cases b12; cases (show true = false from hq 12); rfl
   obtain rfl : b13 = true := by cases b13; cases (show true = false from hq 13); rfl
   obtain rfl : b14 = true := by cases b14; cases (show true = false from hq 14); rfl
   obtain ⟨rfl, ke0, ke1⟩ := k1 rfl
   obtain ⟨rfl, kmb⟩ := k3 rfl
   obtain rfl := k5 rfl
   obtain rfl := k7 rfl
   obtain rfl := k12 rfl
   obtain ⟨rfl, kg8⟩ := k13 rfl
   clear hq h2 h5 h6 h7 h12 h14 k1 k3 k5 k7 k12 k13
   simp only [Act.put, List.setIfInBounds_toArray, List.set_cons_zero, List.set_cons_succ]
   replace HS := SB.toTriv (SB.drop HS 2) 1
   have G8 := GeC.mk kg8
   have GM := GeC.mk kmb
   have HS : SB (fun k => F0 k ∨ w.heap.size ≤ k) w w' (reC w.heap.size g6 g8 mb x21 x26 x27 x29 [⟨o1, o2⟩] [(Gv.key5 l1, 0)] [0] [-1] [⟨0, 0⟩]) := HS
   skip
   go_wp2
   try simp only [Act.put, List.setIfInBounds_toArray, List.set_cons_zero, List.set_cons_succ]
   go_loopg [9] k (fun kq v9 w' => ∃ (i : Int) (x0 : List S35) (m : List (Gv.K5 × Int)) (x2 x3 : List Int) (x4 : List S55) (v0 v2 v3 v4 : Value), v9 = .int .i64 i ∧ Aside0 (impl_reachOf.l0 kq a1 most i x0 m x2 x3 x4 = some (r1, r2, r3, r4, r5, r6)) ∧ Aside0 (kq ≤ k) ∧ SB (fun k => F0 k ∨ w.heap.size ≤ k) w w' (reC w.heap.size g6 g8 mb v0 v2 v3 v4 x0 m x2 x3 x4))
   case atStart => exact ⟨0, _, _, _, _, _, _, _, _, _, rfl, H', ⟨Nat.le_refl _⟩, HS⟩
   case round =>
    clear H' HS
    obtain ⟨i, x0, m, x2, x3, x4, v0, v2, v3, v4, rfl, HA, HK1, HS⟩ := hrel
    obtain ⟨B0, d0, rfl⟩ := Kd.N_slice (SB.nrows HS 2 (v := v0)); obtain ⟨B2, d2, rfl⟩ := Kd.R_slice (SB.rows HS 4 (v := v2)); obtain ⟨B3, d3, rfl⟩ := Kd.R_slice (SB.rows HS 5 (v := v3)); obtain ⟨B4, d4, rfl⟩ := Kd.R_slice (SB.rows HS 6 (v := v4))
    cases gk with
    | zero => exact absurd HA.out (by simp [impl_reachOf.l0])
    | succ k1 =>
     have H := HA.out
     clear HA
     simp only [impl_reachOf.l0] at H
     have hk5 := SB.cells (g := g8) (cells := #[.slice B0 x0.length d0, .map (some mb), .slice B2 x2.length d2, .slice B3 x3.length d3, .slice B4 x4.length d4]) (t := 68) HS 7
     have hcz5_0 := bc0 hk5
     have hcz5_1 := bc1 hk5
     have hcz5_2 := bc2 hk5
     have hcz5_3 := bc3 hk5
     have hcz5_4 := bc4 hk5
     by_cases c21 : i < (x0.length : Int)
     rotate_left
     · rw [if_neg c21] at H
       have c21b0 : decide (i < (x0.length : Int)) = false := decide_eq_false c21
       clear c21
       simp only [Option.some.injEq, Prod.mk.injEq] at H
       obtain ⟨rfl, rfl, rfl, rfl, rfl, rfl⟩ := H
       have hk4 := SB.cells (g := g6) (cells := #[.slice none 0 0, .map none, .slice none 0 0, .slice none 0 0, .slice none 0 0]) (t := 68) HS 0
       have hcz4_0 := bc0 hk4
       have hcz4_1 := bc1 hk4
       have hcz4_2 := bc2 hk4
       have hcz4_3 := bc3 hk4
       have hcz4_4 := bc4 hk4
       have hfz4_0 := blk_frozen hk4.out 0
       have hfz4_1 := blk_frozen hk4.out 1
       have hfz4_2 := blk_frozen hk4.out 2
       have hfz4_3 := blk_frozen hk4.out 3
       have hfz4_4 := blk_frozen hk4.out 4
       go_wp2
       have HS9 := (SB.set (SB.set (SB.set (SB.set (SB.set HS 0 0 (.slice B0 x0.length d0) #[.slice B0 x0.length d0, .map none, .slice none 0 0, .slice none 0 0, .slice none 0 0] G6.out) 0 1 (.map (some mb)) #[.slice B0 x0.length d0, .map (some mb), .slice none 0 0, .slice none 0 0, .slice none 0 0] G6.out) 0 2 (.slice B2 x2.length d2) #[.slice B0 x0.length d0, .map (some mb), .slice B2 x2.length d2, .slice none 0 0, .slice none 0 0] G6.out) 0 3 (.slice B3 x3.length d3) #[.slice B0 x0.length d0, .map (some mb), .slice B2 x2.length d2, .slice B3 x3.length d3, .slice none 0 0] G6.out) 0 4 (.slice B4 x4.length d4) #[.slice B0 x0.length d0, .map (some mb), .slice B2 x2.length d2, .slice B3 x3.length d3, .slice B4 x4.length d4] G6.out)
       have hk9 := SB.cells (g := g6) (cells := #[.slice B0 x0.length d0, .map (some mb), .slice B2 x2.length d2, .slice B3 x3.length d3, .slice B4 x4.length d4]) (t := 68) HS9 0
       (try simp only [Exit.inBlock, Exit.then])
       refine bodyPost_ret (Sep.results_ct rfl _ _ g6 68 #[.slice B0 x0.length d0, .map (some mb), .slice B2 x2.length d2, .slice B3 x3.length d3, .slice B4 x4.length d4] (0, 0) _ rfl hk9.out Try.underlying68 rfl (by kernel_rfl)) rfl ?_
       exact ⟨mb, _, _, _, _, rfl, GM.out, (SB.drop (SB.take HS9 7) 2).s, HS9.b⟩
     rw [if_pos c21] at H
     have c21b0 : decide (i < (x0.length : Int)) = true := decide_eq_true c21
     by_cases c22 : 0 ≤ i
     rotate_left
     · rw [if_neg c22] at H
       exact absurd H (by simp)
     rw [if_pos c22] at H
     have c22b0 : decide (0 ≤ i) = true := decide_eq_true c22
     replace H := Option.bind_eq_some_iff.mp H
     obtain ⟨ms, A23, H⟩ := H
     have H' := Aside0.mk H
     clear H
     have A23' := Aside0.mk A23
     clear A23
     obtain ⟨ad, E0, e0', E1, e1', ee, hx0, hx1, hl0, hi0, hl1, hi1⟩ := at_T35 (Kd.N_reads' (SB.nrows HS 2 (v := .slice B0 x0.length d0))).2.2 i c22 c21
     cases ee
     have c21e := eq_true c21
     have c22e := eq_true c22
     clear c21 c22
     go_wp2_with (first | ((with_reducible refine gate_callee (f := 60) rfl ?_); refine gl 44 Try.func60 #[.agg #[.slice E0 (rd_T35 x0 i).f0.length e0', .slice E1 (rd_T35 x0 i).f1.length e1'], .bool a1] ?_; (with_reducible refine (impl_Vessels_moves.calls k1 _ _ (rd_T35 x0 i).f0 _ _ (rd_T35 x0 i).f1 a1 ms _ ?side1 ?side2 ?side3 ?side4 A23'.out).mono ?_); (case side1 => exact cu hi0); (case side2 => exact hl0); (case side3 => exact cu hi1); (case side4 => exact hl1); rintro e w28 ⟨vm, rfl, ho, hb⟩; refine ⟨_, rfl, ?_⟩; obtain ⟨Bm, dm, rfl⟩ := Kd.R_slice ho; have hcm := (Kd.R_reads' ho).2.1; replace HS := SB.newRd HS hb (R_foot ho); clear ho hb))
     try simp only [Act.put, List.setIfInBounds_toArray, List.set_cons_zero, List.set_cons_succ]
     go_loopg [46] k1 (fun kq v46 w' => ∃ (j : Int) (x0 : List S35) (m : List (Gv.K5 × Int)) (x2 x3 : List Int) (x4 : List S55) (v0 v2 v3 v4 : Value), v46 = .int .i64 j ∧ Aside0 (impl_reachOf.l1 kq a1 most i ms j x0 m x2 x3 x4 = some (r1, r2, r3, r4, r5, r6)) ∧ Aside0 (kq ≤ k1) ∧ SB (fun k => F0 k ∨ w.heap.size ≤ k) w w' (reC w.heap.size g6 g8 mb v0 v2 v3 v4 x0 m x2 x3 x4 ++ [rd (fun w => Kd.C k55 w Bm ms.length ms)]))
     case atStart => exact ⟨0, _, _, _, _, _, _, _, _, _, rfl, H', ⟨Nat.le_refl _⟩, HS⟩
     case round =>
      clear H' HS A23' hx0 hx1 hi0 hi1 hl0 hl1 hk5 c21b0 c22b0 c21e c22e
      try clear hcz5_0 hcz5_1 hcz5_2 hcz5_3 hcz5_4
      obtain ⟨j, x0, m, x2, x3, x4, v0, v2, v3, v4, rfl, HA, HK2, HS⟩ := hrel
      obtain ⟨B0, d0, rfl⟩ := Kd.N_slice (SB.nrows HS 2 (v := v0)); obtain ⟨B2, d2, rfl⟩ := Kd.R_slice (SB.rows HS 4 (v := v2)); obtain ⟨B3, d3, rfl⟩ := Kd.R_slice (SB.rows HS 5 (v := v3)); obtain ⟨B4, d4, rfl⟩ := Kd.R_slice (SB.rows HS 6 (v := v4))
      cases gk with
      | zero => exact absurd HA.out (by simp [impl_reachOf.l1])
      | succ k2 =>
       have H := HA.out
       clear HA
       simp only [impl_reachOf.l1] at H
       have hk6 := SB.cells (g := g8) (cells := #[.slice B0 x0.length d0, .map (some mb), .slice B2 x2.length d2, .slice B3 x3.length d3, .slice B4 x4.length d4]) (t := 68) HS 7
       have hcz6_0 := bc0 hk6
       have hcz6_1 := bc1 hk6
       have hcz6_2 := bc2 hk6
       have hcz6_3 := bc3 hk6
       have hcz6_4 := bc4 hk6
       by_cases c29 : j < (ms.length : Int)
       rotate_left
       · rw [if_neg c29] at H
         have c29b0 : decide (j < (ms.length : Int)) = false := decide_eq_false c29
         clear c29
         have H' := Aside0.mk H
         clear H
         go_wp2
         go_roundg k2
         case measure => have := HK1.out; have := HK2.out; omega
         case rel => exact ⟨wrap64 (i + 1), _, _, _, _, _, _, _, _, _, rfl, H', ⟨by have := HK1.out; have := HK2.out; omega⟩, SB.take HS 8⟩
       rw [if_pos c29] at H
       have c29b0 : decide (j < (ms.length : Int)) = true := decide_eq_true c29
       by_cases c30 : 0 ≤ j ∧ 0 ≤ i ∧ i < (x0.length : Int)
       rotate_left
       · rw [if_neg c30] at H
         exact absurd H (by simp)
       rw [if_pos c30] at H
       obtain ⟨c30a, c30b, c30c⟩ := c30
       replace H := Option.bind_eq_some_iff.mp H
       obtain ⟨⟨n0, n1⟩, A34, H⟩ := H
       have A34' := Aside0.mk A34
       clear A34
       dsimp only at H
       by_cases cwn : Gv.wf5 (Gv.key5 n1) = true
       rotate_left
       · rw [if_neg cwn] at H
         exact absurd H (by simp)
       rw [if_pos cwn] at H
       have cwn' := Aside0.mk cwn
       clear cwn
       obtain ⟨am, ema, hm0, hm1⟩ := at_T55 (SB.foot (Q := fun w => Kd.C k55 w Bm ms.length ms) HS 8).now j c30a c29
       cases ema
       have c29e := eq_true c29
       have c30ae := eq_true c30a
       clear c29 c30a
       have H' := Aside0.mk H
       clear H
       try go_wp2_with (first | ((with_reducible refine gate_dst (N := 11) rfl ?_); refine SB.bx HS 11 #[.int .i64 0, .int .i64 0] 55 ?_; clear HS; intro g11 w76 HS G11; have hk9 := SB.cells (g := g11) (cells := #[.int .i64 0, .int .i64 0]) (t := 55) HS 9; have hcz9_0 := bc0 hk9; have hcz9_1 := bc1 hk9; have hfz9_0 := blk_frozen hk9.out 0; have hfz9_1 := blk_frozen hk9.out 1))
       replace HS := SB.set (SB.set HS 9 0 (.int .i64 (rd_T55 ms j).f0) #[(.int .i64 (rd_T55 ms j).f0), .int .i64 0] G11.out) 9 1 (.int .i64 (rd_T55 ms j).f1) #[(.int .i64 (rd_T55 ms j).f0), (.int .i64 (rd_T55 ms j).f1)] G11.out
       (try clear hk9 hcz9_0 hcz9_1 hfz9_0 hfz9_1)
       clear hm0 hm1
       (try clear hk6 hcz6_0 hcz6_1 hcz6_2 hcz6_3 hcz6_4 )
       revert HS
       generalize (w76.setCell ⟨g11, 0, none⟩ (.int .i64 (rd_T55 ms j).f0)).setCell ⟨g11, 1, none⟩ (.int .i64 (rd_T55 ms j).f1) = w80
       intro HS
       replace HS := SB.up (W := w80.drew) HS
       have hk7 := SB.cells (g := g8) (cells := #[.slice B0 x0.length d0, .map (some mb), .slice B2 x2.length d2, .slice B3 x3.length d3, .slice B4 x4.length d4]) (t := 68) HS 7
       have hk8 := SB.cells (g := g11) (cells := #[(.int .i64 (rd_T55 ms j).f0), (.int .i64 (rd_T55 ms j).f1)]) (t := 55) HS 9
       obtain ⟨ad, E0, e0', E1, e1', ee, hx0, hx1, hl0, hi0, hl1, hi1⟩ := at_T35 (Kd.N_reads' (SB.nrows HS 2 (v := .slice B0 x0.length d0))).2.2 i c30b c30c
       cases ee
       have c30be := eq_true c30b
       have c30ce := eq_true c30c
       refine start_ (n := 9) (S := fun w' => w'.cell? ⟨g8, 0, none⟩ = some (.slice (some ad) x0.length d0) ∧ w'.cell? ⟨g11, 0, none⟩ = some (.int .i64 (rd_T55 ms j).f0) ∧ w'.cell? ⟨g11, 1, none⟩ = some (.int .i64 (rd_T55 ms j).f1) ∧ w'.cell? (ad.add (i.toNat * 2)) = some (.slice E0 (rd_T35 x0 i).f0.length e0') ∧ w'.cell? ⟨(ad.add (i.toNat * 2)).block, (ad.add (i.toNat * 2)).off + 1, none⟩ = some (.slice E1 (rd_T35 x0 i).f1.length e1')) (ds := [8]) (bl 9 0) (by kernel_rfl) rfl rfl ⟨bc0 hk7, bc0 hk8, bc1 hk8, hx0, hx1⟩ (fun hHeld => ?_)
       refine with_tabW impl_reachOf.tab10 impl_reachOf.bits10 (fun HT_ HW_ => ?_)
       generalize w80.drew = w81 at HS hHeld hi0 hi1 ⊢
       clear hk7 hk8 hx0 hx1
       refine pu 0 50 (bl 9 1) HT_.out (v := ?_) (a' := ?_) ?_ ?_ ?_
       rotate_left; (intro w'; go_simp; with_reducible rfl); rotate_left; (simp only [sqa, sqb, sqc, sqd, i64_w, i32_w]; rfl)
       refine pu 2 52 (bl 9 5) HT_.out (v := ?_) (a' := ?_) ?_ ?_ ?_
       rotate_left; (intro w'; go_simp; with_reducible rfl); rotate_left; (simp only [sqa, sqb, sqc, sqd, i64_w, i32_w]; rfl)
       refine tk 1 51 (bl 9 7) HT_.out HW_.out hHeld (v := ?_) (a' := ?_) ?_ ?_ ?_
       rotate_left; (rintro w' ⟨s0, s1, s2, s3, s4⟩; go_simp; with_reducible rfl); rotate_left; (simp only [sqa, sqb, sqc, sqd, i64_w, i32_w]; rfl)
       refine pu 3 53 (bl 9 15) HT_.out (v := ?_) (a' := ?_) ?_ ?_ ?_
       rotate_left; (intro w'; go_simp; with_reducible rfl); rotate_left; (simp only [sqa, sqb, sqc, sqd, i64_w, i32_w]; rfl)
       refine tk 4 54 (bl 9 31) HT_.out HW_.out hHeld (v := ?_) (a' := ?_) ?_ ?_ ?_
       rotate_left; (rintro w' ⟨s0, s1, s2, s3, s4⟩; go_simp; with_reducible rfl); rotate_left; (simp only [sqa, sqb, sqc, sqd, i64_w, i32_w]; rfl)
       refine tk 5 55 (bl 9 63) HT_.out HW_.out hHeld (v := ?_) (a' := ?_) ?_ ?_ ?_
       rotate_left; (rintro w' ⟨s0, s1, s2, s3, s4⟩; go_simp; with_reducible rfl); rotate_left; (simp only [sqa, sqb, sqc, sqd, i64_w, i32_w]; rfl)
       refine join_ (σ := Option Addr × Nat × Option Addr × Nat × Nat) 1 (bl 9 255) (fun s => [(56, .agg #[.slice s.1 n0.length s.2.1, .slice s.2.2.1 n1.length s.2.2.2.1]), (12, .pointer (some ⟨s.2.2.2.2, 0, none⟩))]) (fun s w' => n0.length ≤ s.2.1 ∧ n1.length ≤ s.2.2.2.1 ∧ w.heap.size ≤ s.2.2.2.2 ∧ SB (fun k => F0 k ∨ w.heap.size ≤ k) w w' [blk g6 #[.slice none 0 0, .map none, .slice none 0 0, .slice none 0 0, .slice none 0 0] 68, triv, nrow k35 35 w.heap.size (.slice (some ad) x0.length d0) x0, mp Gv.ev5 90 3 mb m, row (Kd.int .i64) 3 w.heap.size (.slice B2 x2.length d2) x2, row (Kd.int .i64) 3 w.heap.size (.slice B3 x3.length d3) x3, row k55 55 w.heap.size (.slice B4 x4.length d4) x4, blk g8 #[.slice (some ad) x0.length d0, .map (some mb), .slice B2 x2.length d2, .slice B3 x3.length d3, .slice B4 x4.length d4] 68, rd (fun w => Kd.C k55 w (some am) ms.length ms), blk g11 #[(.int .i64 (rd_T55 ms j).f0), (.int .i64 (rd_T55 ms j).f1)] 55, rd (fun w => Kd.C (Kd.int .i64) w s.1 n0.length n0 ∧ Kd.C (Kd.int .i64) w s.2.2.1 n1.length n1), blk s.2.2.2.2 #[.slice none 0 0, .slice none 0 0] 35]) ?_ ?_
       rotate_left
       · intro hCont
         refine two_ (i := 6) (j := 7) (Ni := some 56) (Nj := some 12) (bl 9 127) (bl 9 191) rfl rfl rfl rfl (two_of HT_.out (by kernel_rfl)) (by decide) (by decide) (fun K hK => ?_) (fun K hK => ?_)
         · skip
           refine gs Try.func62 #[.agg #[.slice E0 (rd_T35 x0 i).f0.length e0', .slice E1 (rd_T35 x0 i).f1.length e1'], .agg #[(.int .i64 (rd_T55 ms j).f0), (.int .i64 (rd_T55 ms j).f1)]] ?_
           with_reducible refine (impl_Vessels_behind.calls _ _ (rd_T35 x0 i).f0 _ _ (rd_T35 x0 i).f1 (rd_T55 ms j).f0 (rd_T55 ms j).f1 n0 n1 _ ?side1 ?side2 ?side3 ?side4 A34'.out).mono ?_
           (case side1 => exact cu hi0)
           (case side2 => exact hl0)
           (case side3 => exact cu hi1)
           (case side4 => exact hl1)
           rintro e w83 ⟨v5, v6, rfl, ho0, ho1, hb⟩
           obtain ⟨N0, m0, rfl⟩ := Kd.R_slice ho0
           obtain ⟨N1, m1, rfl⟩ := Kd.R_slice ho1
           have hn0 := (Kd.R_reads' ho0).2.1
           have hn1 := (Kd.R_reads' ho1).2.1
           refine ⟨_, rfl, ?_⟩
           replace HS := SB.newRd HS hb (foot_and (R_foot ho0) (R_foot ho1))
           refine hK.out _ _ ⟨cb hHeld.1 hb, cb hHeld.2.1 hb, cb hHeld.2.2.1 hb, cb hHeld.2.2.2.1 hb, cb hHeld.2.2.2.2 hb⟩ (fun hHeld => ?_)
           clear hK K
           refine norm_ (a' := ?_) ?_ ?_; rotate_left; (show Act.put _ (some 56) _ = _; simp only [sqa, sqb, sqc, sqd, i64_w, i32_w]; rfl)
           refine on 7 12 (bl 9 255) HT_.out (fun K hK => ?_)
           refine SB.bx_step HS 12 #[.slice none 0 0, .slice none 0 0] 35 ?_
           clear HS
           intro g12 w84 HS G12 hb
           refine hK.out _ _ ⟨cb hHeld.1 hb, cb hHeld.2.1 hb, cb hHeld.2.2.1 hb, cb hHeld.2.2.2.1 hb, cb hHeld.2.2.2.2 hb⟩ (fun hHeld => ?_)
           clear hK K
           refine norm_ (a' := ?_) ?_ ?_; rotate_left; (show Act.put _ (some 12) _ = _; simp only [sqa, sqb, sqc, sqd, i64_w, i32_w]; rfl)
           exact norm_ (by simp only [putAll, Act.put, List.setIfInBounds_toArray, List.set_cons_zero, List.set_cons_succ]) (hCont (N0, m0, N1, m1, g12) _ ⟨hn0, hn1, G12.out, HS⟩)
         · skip
           refine SB.bx_step HS 12 #[.slice none 0 0, .slice none 0 0] 35 ?_
           clear HS
           intro g12 w83 HS G12 hb
           replace hi0 := Kd.C_below hi0 hb
           replace hi1 := Kd.C_below hi1 hb
           refine hK.out _ _ ⟨cb hHeld.1 hb, cb hHeld.2.1 hb, cb hHeld.2.2.1 hb, cb hHeld.2.2.2.1 hb, cb hHeld.2.2.2.2 hb⟩ (fun hHeld => ?_)
           clear hK K
           refine norm_ (a' := ?_) ?_ ?_; rotate_left; (show Act.put _ (some 12) _ = _; simp only [sqa, sqb, sqc, sqd, i64_w, i32_w]; rfl)
           refine on 6 56 (bl 9 255) HT_.out (fun K hK => ?_)
           refine gs Try.func62 #[.agg #[.slice E0 (rd_T35 x0 i).f0.length e0', .slice E1 (rd_T35 x0 i).f1.length e1'], .agg #[(.int .i64 (rd_T55 ms j).f0), (.int .i64 (rd_T55 ms j).f1)]] ?_
           with_reducible refine (impl_Vessels_behind.calls _ _ (rd_T35 x0 i).f0 _ _ (rd_T35 x0 i).f1 (rd_T55 ms j).f0 (rd_T55 ms j).f1 n0 n1 _ ?side1 ?side2 ?side3 ?side4 A34'.out).mono ?_
           (case side1 => exact cu hi0)
           (case side2 => exact hl0)
           (case side3 => exact cu hi1)
           (case side4 => exact hl1)
           rintro e w84 ⟨v5, v6, rfl, ho0, ho1, hb⟩
           obtain ⟨N0, m0, rfl⟩ := Kd.R_slice ho0
           obtain ⟨N1, m1, rfl⟩ := Kd.R_slice ho1
           have hn0 := (Kd.R_reads' ho0).2.1
           have hn1 := (Kd.R_reads' ho1).2.1
           refine ⟨_, rfl, ?_⟩
           replace HS := SB.newRd HS hb (foot_and (R_foot ho0) (R_foot ho1))
           refine hK.out _ _ ⟨cb hHeld.1 hb, cb hHeld.2.1 hb, cb hHeld.2.2.1 hb, cb hHeld.2.2.2.1 hb, cb hHeld.2.2.2.2 hb⟩ (fun hHeld => ?_)
           clear hK K
           refine norm_ (a' := ?_) ?_ ?_; rotate_left; (show Act.put _ (some 56) _ = _; simp only [sqa, sqb, sqc, sqd, i64_w, i32_w]; rfl)
           exact norm_ (by simp only [putAll, Act.put, List.setIfInBounds_toArray, List.set_cons_zero, List.set_cons_succ]) (hCont (N0, m0, N1, m1, g12) _ ⟨hn0, hn1, G12.out, SB.swap HS 10⟩)
       rintro ⟨N0, m0, N1, m1, g12⟩ w85 ⟨hn0, hn1, G12, HS'⟩
       clear HS hi0 hi1 hHeld
       have HS := HS'
       clear HS'
       replace hn0 : n0.length ≤ m0 := hn0
       replace hn1 : n1.length ≤ m1 := hn1
       replace G12 : w.heap.size ≤ g12 := G12
       refine norm_ (a' := ?_) ?_ ?_
       rotate_left
       · simp only [putAll, Act.put, List.setIfInBounds_toArray, List.set_cons_zero, List.set_cons_succ]
         rfl
       refine last_ (i := 8) (N := none) (bl 9 511) rfl rfl (one_of HT_.out (by kernel_rfl)) (by decide) (fun K hK => ?_)
       have hk10 := SB.cells (g := g12) (cells := #[.slice none 0 0, .slice none 0 0]) (t := 35) HS 11
       have hcz10_0 := bc0 hk10
       have hcz10_1 := bc1 hk10
       have hfz10_0 := blk_frozen hk10.out 0
       have hfz10_1 := blk_frozen hk10.out 1
       refine skip_ (w1 := ?_) (by rfl) rfl ?_ ?_
       rotate_left
       · go_simp
         rfl
       refine hK.out _ _ ?_
       clear hK K
       refine done_ (done_of HT_.out (by kernel_rfl)) ?_
       clear HT_ HW_
       (try clear hk10 hcz10_0 hcz10_1 hfz10_0 hfz10_1)
       replace HS := SB.set (SB.set HS 11 0 (.slice N0 n0.length m0) #[.slice N0 n0.length m0, .slice none 0 0] G12) 11 1 (.slice N1 n1.length m1) #[.slice N0 n0.length m0, .slice N1 n1.length m1] G12
       revert HS
       generalize (w85.setCell ⟨g12, 0, none⟩ (.slice N0 n0.length m0)).setCell ⟨g12, 1, none⟩ (.slice N1 n1.length m1) = w90
       intro HS
       try go_wp2
       replace HS := SB.up (W := w90.drew) HS
       have HS : SB (fun k => F0 k ∨ w.heap.size ≤ k) w w90.drew [blk g6 #[.slice none 0 0, .map none, .slice none 0 0, .slice none 0 0, .slice none 0 0] 68, triv, nrow k35 35 w.heap.size (.slice (some ad) x0.length d0) x0, mp Gv.ev5 90 3 mb m, row (Kd.int .i64) 3 w.heap.size (.slice B2 x2.length d2) x2, row (Kd.int .i64) 3 w.heap.size (.slice B3 x3.length d3) x3, row k55 55 w.heap.size (.slice B4 x4.length d4) x4, blk g8 #[.slice (some ad) x0.length d0, .map (some mb), .slice B2 x2.length d2, .slice B3 x3.length d3, .slice B4 x4.length d4] 68, rd (fun w => Kd.C k55 w (some am) ms.length ms), blk g11 #[(.int .i64 (rd_T55 ms j).f0), (.int .i64 (rd_T55 ms j).f1)] 55, rd (fun w => Kd.C (Kd.int .i64) w N0 n0.length n0 ∧ Kd.C (Kd.int .i64) w N1 n1.length n1), blk g12 #[.slice N0 n0.length m0, .slice N1 n1.length m1] 35] := HS
       have hk11 := SB.cells (g := g8) (cells := #[.slice (some ad) x0.length d0, .map (some mb), .slice B2 x2.length d2, .slice B3 x3.length d3, .slice B4 x4.length d4]) (t := 68) HS 7
       have hk12 := SB.cells (g := g12) (cells := #[.slice N0 n0.length m0, .slice N1 n1.length m1]) (t := 35) HS 11
       refine start_ (n := 10) (S := fun w' => w'.cell? ⟨g8, 1, none⟩ = some (.map (some mb)) ∧ w'.cell? ⟨g12, 0, none⟩ = some (.slice N0 n0.length m0) ∧ w'.cell? ⟨g12, 1, none⟩ = some (.slice N1 n1.length m1)) (ds := []) (bl 10 0) (by kernel_rfl) rfl rfl ⟨bc1 hk11, bc0 hk12, bc1 hk12⟩ (fun hHeld => ?_)
       refine with_tabW impl_reachOf.tab11 impl_reachOf.bits11 (fun HT_ HW_ => ?_)
       generalize w90.drew = w91 at HS hHeld ⊢
       clear hk11 hk12
       refine pu 0 58 (bl 10 1) HT_.out (v := ?_) (a' := ?_) ?_ ?_ ?_
       rotate_left; (intro w'; go_simp; with_reducible rfl); rotate_left; (simp only [sqa, sqb, sqc, sqd, i64_w, i32_w]; rfl)
       refine tk 1 59 (bl 10 3) HT_.out HW_.out hHeld (v := ?_) (a' := ?_) ?_ ?_ ?_
       rotate_left; (rintro w' ⟨s0, s1, s2⟩; go_simp; with_reducible rfl); rotate_left; (simp only [sqa, sqb, sqc, sqd, i64_w, i32_w]; rfl)
       refine tk 2 60 (bl 10 7) HT_.out HW_.out hHeld (v := ?_) (a' := ?_) ?_ ?_ ?_
       rotate_left; (rintro w' ⟨s0, s1, s2⟩; go_simp; with_reducible rfl); rotate_left; (simp only [sqa, sqb, sqc, sqd, i64_w, i32_w]; rfl)
       refine on 3 61 (bl 10 15) HT_.out (fun K hK => ?_)
       refine gs Try.func61 #[.agg #[.slice N0 n0.length m0, .slice N1 n1.length m1]] ?_
       refine (impl_keyOf.calls N0 m0 n0 N1 m1 n1 _ (SB.foot (Q := fun w => Kd.C (Kd.int .i64) w N0 n0.length n0 ∧ Kd.C (Kd.int .i64) w N1 n1.length n1) HS 10).now.2).mono ?_
       rintro e w92 ⟨rfl, hb⟩
       refine ⟨_, rfl, ?_⟩
       replace HS := SB.call HS hb
       refine hK.out _ _ ⟨cb hHeld.1 hb, cb hHeld.2.1 hb, cb hHeld.2.2 hb⟩ (fun hHeld => ?_)
       clear hK K hb
       refine norm_ (a' := ?_) ?_ ?_; rotate_left; (show Act.put _ (some 61) _ = _; simp only [sqa, sqb, sqc, sqd, i64_w, i32_w]; rfl)
       refine on 4 62 (bl 10 31) HT_.out (fun K hK => ?_)
       refine SB.lookup_step HS 3 (.tmp 59) (.tmp 61) 66 mb m (Gv.key5 n1) _ Gv.keyed5 Try.underlying66 Try.underlying3 Gv.zeroInt' rfl rfl (Gv.key5_lit (Gv.key5 n1) cwn'.out).choose_spec ?_
       refine hK.out _ _ hHeld (fun hHeld => ?_)
       clear hK K
       have H := H'.out
       clear H'
       generalize (Gv.lk m (Gv.key5 n1)).getD 0 = qd
       generalize hfb : (Gv.lk m (Gv.key5 n1)).isSome = fb at H ⊢
       refine norm_ (a' := ?_) ?_ ?_; rotate_left; (show Act.put _ (some 62) _ = _; simp only [sqa, sqb, sqc, sqd, i64_w, i32_w]; rfl)
       refine pu 5 57 (bl 10 63) HT_.out (v := ?_) (a' := ?_) ?_ ?_ ?_
       rotate_left; (intro w'; go_simp; with_reducible rfl); rotate_left; (simp only [sqa, sqb, sqc, sqd, i64_w, i32_w]; rfl)
       refine pu 6 63 (bl 10 127) HT_.out (v := ?_) (a' := ?_) ?_ ?_ ?_
       rotate_left; (intro w'; go_simp; with_reducible rfl); rotate_left; (simp only [sqa, sqb, sqc, sqd, i64_w, i32_w]; rfl)
       refine pu 7 64 (bl 10 255) HT_.out (v := ?_) (a' := ?_) ?_ ?_ ?_
       rotate_left; (intro w'; go_simp; with_reducible rfl); rotate_left; (simp only [sqa, sqb, sqc, sqd, i64_w, i32_w]; rfl)
       refine pu 8 13 (bl 10 511) HT_.out (v := ?_) (a' := ?_) ?_ ?_ ?_
       rotate_left; (intro w'; go_simp; with_reducible rfl); rotate_left; (simp only [sqa, sqb, sqc, sqd, i64_w, i32_w]; rfl)
       refine pu 9 14 (bl 10 1023) HT_.out (v := ?_) (a' := ?_) ?_ ?_ ?_
       rotate_left; (intro w'; go_simp; with_reducible rfl); rotate_left; (simp only [sqa, sqb, sqc, sqd, i64_w, i32_w]; rfl)
       refine done_ (done_of HT_.out (by kernel_rfl)) ?_
       clear HT_ HW_ hHeld
       cases fb with
       | true =>
         rw [if_pos rfl] at H
         have H' := Aside0.mk H
         clear H hfb
         go_wp2
         go_roundg k2
         case measure => have := HK1.out; have := HK2.out; omega
         case rel => exact ⟨wrap64 (j + 1), _, _, _, _, _, _, _, _, _, rfl, H', ⟨by have := HK1.out; have := HK2.out; omega⟩, SB.take HS 9⟩
       | false =>
        rw [if_neg (by simp)] at H
        have hnew : Aside0 (Gv.lk m (Gv.key5 n1) = none) := ⟨by cases h_ : Gv.lk m (Gv.key5 n1) with | none => rfl | some y => rw [h_] at hfb; cases hfb⟩
        clear hfb
        have hk13 := SB.cells (g := g8) (cells := #[.slice (some ad) x0.length d0, .map (some mb), .slice B2 x2.length d2, .slice B3 x3.length d3, .slice B4 x4.length d4]) (t := 68) HS 7
        have hcz13_0 := bc0 hk13
        have hcz13_1 := bc1 hk13
        have hcz13_2 := bc2 hk13
        have hcz13_3 := bc3 hk13
        have hcz13_4 := bc4 hk13
        by_cases c40 : (x0.length : Int) = most
        · rw [if_pos c40] at H
          have c40b0 : ((x0.length : Int) == most) = true := beq_iff_eq.mpr c40
          clear c40
          simp only [Option.some.injEq, Prod.mk.injEq] at H
          obtain ⟨rfl, rfl, rfl, rfl, rfl, rfl⟩ := H
          have hk4 := SB.cells (g := g6) (cells := #[.slice none 0 0, .map none, .slice none 0 0, .slice none 0 0, .slice none 0 0]) (t := 68) HS 0
          have hcz4_0 := bc0 hk4
          have hcz4_1 := bc1 hk4
          have hcz4_2 := bc2 hk4
          have hcz4_3 := bc3 hk4
          have hcz4_4 := bc4 hk4
          have hfz4_0 := blk_frozen hk4.out 0
          have hfz4_1 := blk_frozen hk4.out 1
          have hfz4_2 := blk_frozen hk4.out 2
          have hfz4_3 := blk_frozen hk4.out 3
          have hfz4_4 := blk_frozen hk4.out 4
          go_wp2
          have HS9 := (SB.set (SB.set (SB.set (SB.set (SB.set HS 0 0 (.slice none 0 0) #[.slice none 0 0, .map none, .slice none 0 0, .slice none 0 0, .slice none 0 0] G6.out) 0 1 (.map none) #[.slice none 0 0, .map none, .slice none 0 0, .slice none 0 0, .slice none 0 0] G6.out) 0 2 (.slice none 0 0) #[.slice none 0 0, .map none, .slice none 0 0, .slice none 0 0, .slice none 0 0] G6.out) 0 3 (.slice none 0 0) #[.slice none 0 0, .map none, .slice none 0 0, .slice none 0 0, .slice none 0 0] G6.out) 0 4 (.slice none 0 0) #[.slice none 0 0, .map none, .slice none 0 0, .slice none 0 0, .slice none 0 0] G6.out)
          have hk9 := SB.cells (g := g6) (cells := #[.slice none 0 0, .map none, .slice none 0 0, .slice none 0 0, .slice none 0 0]) (t := 68) HS9 0
          (try simp only [Exit.inBlock, Exit.then])
          refine bodyPost_ret (Sep.results_ct rfl _ _ g6 68 #[.slice none 0 0, .map none, .slice none 0 0, .slice none 0 0, .slice none 0 0] (0, 0) _ rfl hk9.out Try.underlying68 rfl (by kernel_rfl)) rfl ?_
          exact ⟨w.heap.size, _, _, _, _, rfl, Nat.le_refl _, reR_none _ _ _ _, HS9.b⟩
        rw [if_neg c40] at H
        have c40b0 : ((x0.length : Int) == most) = false := beq_eq_false_iff_ne.mpr c40
        clear c40
        by_cases c37 : x0.length ≤ 3000 ∧ m.length ≤ 3000 ∧ x2.length ≤ 3000 ∧ x3.length ≤ 3000 ∧ x4.length ≤ 3000 ∧ i < (x2.length : Int)
        rotate_left
        · rw [if_neg c37] at H
          exact absurd H (by simp)
        rw [if_pos c37] at H
        obtain ⟨M0, M1, M2, M3, M4, c38⟩ := c37
        obtain ⟨y0, hy0⟩ : ∃ y_ : List S35, y_ = x0 ++ [(⟨n0, n1⟩ : S35)] := ⟨_, rfl⟩
        rw [← hy0] at H
        obtain ⟨ym, hym⟩ : ∃ y_ : List (Gv.K5 × Int), y_ = m ++ [(Gv.key5 n1, (x0.length : Int))] := ⟨_, rfl⟩
        rw [← hym] at H
        obtain ⟨y2, hy2⟩ : ∃ y_ : List Int, y_ = x2 ++ [wrap64 (rd x2 i + 1)] := ⟨_, rfl⟩
        rw [← hy2] at H
        obtain ⟨y3, hy3⟩ : ∃ y_ : List Int, y_ = x3 ++ [i] := ⟨_, rfl⟩
        rw [← hy3] at H
        obtain ⟨y4, hy4⟩ : ∃ y_ : List S55, y_ = x4 ++ [(⟨(rd_T55 ms j).f0, (rd_T55 ms j).f1⟩ : S55)] := ⟨_, rfl⟩
        rw [← hy4] at H
        have Ny0 := Aside0.mk hy0
        clear hy0
        have Nym := Aside0.mk hym
        clear hym
        have Ny2 := Aside0.mk hy2
        clear hy2
        have Ny3 := Aside0.mk hy3
        clear hy3
        have Ny4 := Aside0.mk hy4
        clear hy4
        have H' := Aside0.mk H
        clear H
        go_wp2
        (try clear hk13 hcz13_0 hcz13_1 hcz13_2 hcz13_3 hcz13_4 )
        replace HS := SB.up (W := w92.drew) HS
        have HS : SB (fun k => F0 k ∨ w.heap.size ≤ k) w w92.drew [blk g6 #[.slice none 0 0, .map none, .slice none 0 0, .slice none 0 0, .slice none 0 0] 68, triv, nrow k35 35 w.heap.size (.slice (some ad) x0.length d0) x0, mp Gv.ev5 90 3 mb m, row (Kd.int .i64) 3 w.heap.size (.slice B2 x2.length d2) x2, row (Kd.int .i64) 3 w.heap.size (.slice B3 x3.length d3) x3, row k55 55 w.heap.size (.slice B4 x4.length d4) x4, blk g8 #[.slice (some ad) x0.length d0, .map (some mb), .slice B2 x2.length d2, .slice B3 x3.length d3, .slice B4 x4.length d4] 68, rd (fun w => Kd.C k55 w (some am) ms.length ms), blk g11 #[(.int .i64 (rd_T55 ms j).f0), (.int .i64 (rd_T55 ms j).f1)] 55, rd (fun w => Kd.C (Kd.int .i64) w N0 n0.length n0 ∧ Kd.C (Kd.int .i64) w N1 n1.length n1), blk g12 #[.slice N0 n0.length m0, .slice N1 n1.length m1] 35] := HS
        have hk11 := SB.cells (g := g8) (cells := #[.slice (some ad) x0.length d0, .map (some mb), .slice B2 x2.length d2, .slice B3 x3.length d3, .slice B4 x4.length d4]) (t := 68) HS 7
        have hk12 := SB.cells (g := g12) (cells := #[.slice N0 n0.length m0, .slice N1 n1.length m1]) (t := 35) HS 11
        refine start_ (n := 8) (S := fun w' => w'.cell? ⟨g8, 0, none⟩ = some (.slice (some ad) x0.length d0) ∧ w'.cell? ⟨g8, 1, none⟩ = some (.map (some mb)) ∧ w'.cell? ⟨g12, 0, none⟩ = some (.slice N0 n0.length m0) ∧ w'.cell? ⟨g12, 1, none⟩ = some (.slice N1 n1.length m1)) (ds := [7]) (bl 8 0) (by kernel_rfl) rfl rfl ⟨bc0 hk11, bc1 hk11, bc0 hk12, bc1 hk12⟩ (fun hHeld => ?_)
        refine with_tabW impl_reachOf.tab15 impl_reachOf.bits15 (fun HT_ HW_ => ?_)
        generalize w92.drew = w93 at HS hHeld ⊢
        clear hk11 hk12
        refine pu 0 72 (bl 8 1) HT_.out (v := ?_) (a' := ?_) ?_ ?_ ?_
        rotate_left; (intro w'; go_simp; with_reducible rfl); rotate_left; (simp only [sqa, sqb, sqc, sqd, i64_w, i32_w]; rfl)
        refine pu 4 76 (bl 8 17) HT_.out (v := ?_) (a' := ?_) ?_ ?_ ?_
        rotate_left; (intro w'; go_simp; with_reducible rfl); rotate_left; (simp only [sqa, sqb, sqc, sqd, i64_w, i32_w]; rfl)
        refine tk 1 73 (bl 8 19) HT_.out HW_.out hHeld (v := ?_) (a' := ?_) ?_ ?_ ?_
        rotate_left; (rintro w' ⟨s0, s1, s2, s3⟩; go_simp; with_reducible rfl); rotate_left; (simp only [sqa, sqb, sqc, sqd, i64_w, i32_w]; rfl)
        refine tk 2 74 (bl 8 23) HT_.out HW_.out hHeld (v := ?_) (a' := ?_) ?_ ?_ ?_
        rotate_left; (rintro w' ⟨s0, s1, s2, s3⟩; go_simp; with_reducible rfl); rotate_left; (simp only [sqa, sqb, sqc, sqd, i64_w, i32_w]; rfl)
        refine tk 5 77 (bl 8 55) HT_.out HW_.out hHeld (v := ?_) (a' := ?_) ?_ ?_ ?_
        rotate_left; (rintro w' ⟨s0, s1, s2, s3⟩; go_simp; with_reducible rfl); rotate_left; (simp only [sqa, sqb, sqc, sqd, i64_w, i32_w]; rfl)
        refine pu 6 78 (bl 8 119) HT_.out (v := ?_) (a' := ?_) ?_ ?_ ?_
        rotate_left; (intro w'; go_simp; with_reducible rfl); rotate_left; (simp only [sqa, sqb, sqc, sqd, i64_w, i32_w]; rfl)
        refine on 3 75 (bl 8 127) HT_.out (fun K hK => ?_)
        refine gs Try.func61 #[.agg #[.slice N0 n0.length m0, .slice N1 n1.length m1]] ?_
        refine (impl_keyOf.calls N0 m0 n0 N1 m1 n1 _ (SB.foot (Q := fun w => Kd.C (Kd.int .i64) w N0 n0.length n0 ∧ Kd.C (Kd.int .i64) w N1 n1.length n1) HS 10).now.2).mono ?_
        rintro e w94 ⟨rfl, hb⟩
        refine ⟨_, rfl, ?_⟩
        replace HS := SB.call HS hb
        refine hK.out _ _ ⟨cb hHeld.1 hb, cb hHeld.2.1 hb, cb hHeld.2.2.1 hb, cb hHeld.2.2.2 hb⟩ (fun hHeld => ?_)
        clear hK K hb
        refine norm_ (a' := ?_) ?_ ?_; rotate_left; (show Act.put _ (some 75) _ = _; simp only [sqa, sqb, sqc, sqd, i64_w, i32_w]; rfl)
        refine last_ (i := 7) (N := none) (bl 8 255) rfl rfl (one_of HT_.out (by kernel_rfl)) (by decide) (fun K hK => ?_)
        refine SB.store_step HS 3 (.tmp 73) (.tmp 75) (.tmp 78) 66 mb m (Gv.key5 n1) _ (x0.length : Int) Gv.keyed5 Try.underlying66 Try.underlying3 rfl (by unfold maxLen; omega) rfl (Gv.key5_lit (Gv.key5 n1) cwn'.out).choose_spec (fun y => Gv.ev5_inj y _) rfl (Gv.wf_len _ M0) hnew.out GM.out ?_
        clear HS
        intro w95 HS
        rw [← Nym.out] at HS
        refine hK.out _ _ ?_
        clear hK K hHeld
        refine done_ (done_of HT_.out (by kernel_rfl)) ?_
        clear HT_ HW_
        try go_wp2
        replace HS := SB.addTriv (SB.addTriv (SB.up (W := w95.drew) HS))
        have HS : SB (fun k => F0 k ∨ w.heap.size ≤ k) w w95.drew [blk g6 #[.slice none 0 0, .map none, .slice none 0 0, .slice none 0 0, .slice none 0 0] 68, triv, nrow k35 35 w.heap.size (.slice (some ad) x0.length d0) x0, mp Gv.ev5 90 3 mb ym, row (Kd.int .i64) 3 w.heap.size (.slice B2 x2.length d2) x2, row (Kd.int .i64) 3 w.heap.size (.slice B3 x3.length d3) x3, row k55 55 w.heap.size (.slice B4 x4.length d4) x4, blk g8 #[.slice (some ad) x0.length d0, .map (some mb), .slice B2 x2.length d2, .slice B3 x3.length d3, .slice B4 x4.length d4] 68, rd (fun w => Kd.C k55 w (some am) ms.length ms), blk g11 #[(.int .i64 (rd_T55 ms j).f0), (.int .i64 (rd_T55 ms j).f1)] 55, rd (fun w => Kd.C (Kd.int .i64) w N0 n0.length n0 ∧ Kd.C (Kd.int .i64) w N1 n1.length n1), blk g12 #[.slice N0 n0.length m0, .slice N1 n1.length m1] 35, triv, triv] := HS
        have hk14 := SB.cells (g := g8) (cells := #[.slice (some ad) x0.length d0, .map (some mb), .slice B2 x2.length d2, .slice B3 x3.length d3, .slice B4 x4.length d4]) (t := 68) HS 7
        have hk15 := SB.cells (g := g12) (cells := #[.slice N0 n0.length m0, .slice N1 n1.length m1]) (t := 35) HS 11
        obtain ⟨ad2, ee2, hx2⟩ := Kd.at_int (Kd.R_reads' (SB.rows HS 4 (d := Kd.int .i64) (v := .slice B2 x2.length d2))).2.2 i c30b c38
        cases ee2
        have c38e := eq_true c38
        refine start_ (n := 19) (S := fun w' => w'.cell? ⟨g8, 0, none⟩ = some (.slice (some ad) x0.length d0) ∧ w'.cell? ⟨g8, 2, none⟩ = some (.slice (some ad2) x2.length d2) ∧ w'.cell? ⟨g12, 0, none⟩ = some (.slice N0 n0.length m0) ∧ w'.cell? ⟨g12, 1, none⟩ = some (.slice N1 n1.length m1) ∧ w'.cell? (ad2.add i.toNat) = some (.int .i64 (rd x2 i))) (ds := [14, 16, 18]) (bl 19 0) (by kernel_rfl) rfl rfl ⟨bc0 hk14, bc2 hk14, bc0 hk15, bc1 hk15, hx2⟩ (fun hHeld => ?_)
        refine with_tabW impl_reachOf.tab16 impl_reachOf.bits16 (fun HT_ HW_ => ?_)
        generalize w95.drew = w96 at HS hHeld ⊢
        clear hk14 hk15 hx2
        refine pu 0 79 (bl 19 1) HT_.out (v := ?_) (a' := ?_) ?_ ?_ ?_
        rotate_left; (intro w'; go_simp; with_reducible rfl); rotate_left; (simp only [sqa, sqb, sqc, sqd, i64_w, i32_w]; rfl)
        refine pu 5 84 (bl 19 33) HT_.out (v := ?_) (a' := ?_) ?_ ?_ ?_
        rotate_left; (intro w'; go_simp; with_reducible rfl); rotate_left; (simp only [sqa, sqb, sqc, sqd, i64_w, i32_w]; rfl)
        refine pu 7 86 (bl 19 161) HT_.out (v := ?_) (a' := ?_) ?_ ?_ ?_
        rotate_left; (intro w'; go_simp; with_reducible rfl); rotate_left; (simp only [sqa, sqb, sqc, sqd, i64_w, i32_w]; rfl)
        refine pu 9 88 (bl 19 673) HT_.out (v := ?_) (a' := ?_) ?_ ?_ ?_
        rotate_left; (intro w'; go_simp; with_reducible rfl); rotate_left; (simp only [sqa, sqb, sqc, sqd, i64_w, i32_w]; rfl)
        refine tk 1 80 (bl 19 675) HT_.out HW_.out hHeld (v := ?_) (a' := ?_) ?_ ?_ ?_
        rotate_left; (rintro w' ⟨s0, s1, s2, s3, s4⟩; go_simp; with_reducible rfl); rotate_left; (simp only [sqa, sqb, sqc, sqd, i64_w, i32_w]; rfl)
        refine tk 2 81 (bl 19 679) HT_.out HW_.out hHeld (v := ?_) (a' := ?_) ?_ ?_ ?_
        rotate_left; (rintro w' ⟨s0, s1, s2, s3, s4⟩; go_simp; with_reducible rfl); rotate_left; (simp only [sqa, sqb, sqc, sqd, i64_w, i32_w]; rfl)
        refine tk 6 85 (bl 19 743) HT_.out HW_.out hHeld (v := ?_) (a' := ?_) ?_ ?_ ?_
        rotate_left; (rintro w' ⟨s0, s1, s2, s3, s4⟩; go_simp; with_reducible rfl); rotate_left; (simp only [sqa, sqb, sqc, sqd, i64_w, i32_w]; rfl)
        refine tk 8 87 (bl 19 999) HT_.out HW_.out hHeld (v := ?_) (a' := ?_) ?_ ?_ ?_
        rotate_left; (rintro w' ⟨s0, s1, s2, s3, s4⟩; go_simp; with_reducible rfl); rotate_left; (simp only [sqa, sqb, sqc, sqd, i64_w, i32_w]; rfl)
        refine pu 10 89 (bl 19 2023) HT_.out (v := ?_) (a' := ?_) ?_ ?_ ?_
        rotate_left; (intro w'; go_simp; with_reducible rfl); rotate_left; (simp only [sqa, sqb, sqc, sqd, i64_w, i32_w]; rfl)
        refine tk 11 90 (bl 19 4071) HT_.out HW_.out hHeld (v := ?_) (a' := ?_) ?_ ?_ ?_
        rotate_left; (rintro w' ⟨s0, s1, s2, s3, s4⟩; go_simp; with_reducible rfl); rotate_left; (simp only [sqa, sqb, sqc, sqd, i64_w, i32_w]; rfl)
        refine pu 12 91 (bl 19 8167) HT_.out (v := ?_) (a' := ?_) ?_ ?_ ?_
        rotate_left; (intro w'; go_simp; with_reducible rfl); rotate_left; (simp only [sqa, sqb, sqc, sqd, i64_w, i32_w]; rfl)
        refine join_ (σ := Option Addr × Nat × Option Addr × Nat × Option Addr × Nat) 4 (bl 19 49151) (fun s => [(82, .slice s.1 [(⟨n0, n1⟩ : S35)].length s.2.1), (83, .slice s.2.2.1 y0.length s.2.2.2.1), (92, .slice s.2.2.2.2.1 [(wrap64 (rd x2 i + 1) : Int)].length s.2.2.2.2.2), (94, .pointer (some ⟨g8, 0, none⟩))]) (fun s w' => (w'.cell? ⟨g8, 0, none⟩ = some (.slice (some ad) x0.length d0) ∧ w'.cell? ⟨g8, 2, none⟩ = some (.slice (some ad2) x2.length d2) ∧ w'.cell? ⟨g12, 0, none⟩ = some (.slice N0 n0.length m0) ∧ w'.cell? ⟨g12, 1, none⟩ = some (.slice N1 n1.length m1) ∧ w'.cell? (ad2.add i.toNat) = some (.int .i64 (rd x2 i))) ∧ SB (fun k => F0 k ∨ w.heap.size ≤ k) w w' [blk g6 #[.slice none 0 0, .map none, .slice none 0 0, .slice none 0 0, .slice none 0 0] 68, triv, nrow k35 35 w.heap.size (.slice s.2.2.1 y0.length s.2.2.2.1) y0, mp Gv.ev5 90 3 mb ym, row (Kd.int .i64) 3 w.heap.size (.slice (some ad2) x2.length d2) x2, row (Kd.int .i64) 3 w.heap.size (.slice B3 x3.length d3) x3, row k55 55 w.heap.size (.slice B4 x4.length d4) x4, blk g8 #[.slice (some ad) x0.length d0, .map (some mb), .slice (some ad2) x2.length d2, .slice B3 x3.length d3, .slice B4 x4.length d4] 68, rd (fun w => Kd.C k55 w (some am) ms.length ms), blk g11 #[(.int .i64 (rd_T55 ms j).f0), (.int .i64 (rd_T55 ms j).f1)] 55, rd (fun w => Kd.C (Kd.int .i64) w N0 n0.length n0 ∧ Kd.C (Kd.int .i64) w N1 n1.length n1), blk g12 #[.slice N0 n0.length m0, .slice N1 n1.length m1] 35, triv, rd (fun w => Kd.C (Kd.int .i64) w s.2.2.2.2.1 [(wrap64 (rd x2 i + 1) : Int)].length [(wrap64 (rd x2 i + 1) : Int)])]) ?_ ?_
        rotate_left
        · intro hCont
          refine two_ (i := 3) (j := 13) (Ni := some 82) (Nj := some 92) (bl 19 8175) (bl 19 16359) rfl rfl rfl rfl (two_of HT_.out (by kernel_rfl)) (by decide) (by decide) (fun K hK => ?_) (fun K hK => ?_)
          · skip
            refine SB.litN_step HS 82 k35 35 [(⟨n0, n1⟩ : S35)] [.slice N0 n0.length m0, .slice N1 n1.length m1] ?hp ?_
            case hp => exact Reps.c2 (show Kd.FK k35 _ _ (⟨n0, n1⟩ : S35) [.slice N0 n0.length m0, .slice N1 n1.length m1] from k35_mkF _ _ (⟨n0, n1⟩ : S35) hn0 ((SB.foot (Q := fun w => Kd.C (Kd.int .i64) w N0 n0.length n0 ∧ Kd.C (Kd.int .i64) w N1 n1.length n1) HS 10).imp (fun _ h => h.1)) hn1 ((SB.foot (Q := fun w => Kd.C (Kd.int .i64) w N0 n0.length n0 ∧ Kd.C (Kd.int .i64) w N1 n1.length n1) HS 10).imp (fun _ h => h.2))) (Reps.none _ _)
            intro va wa hb ho
            obtain ⟨La, qa, rfl⟩ := Kd.N_slice ho
            replace HS := SB.fill HS 12 (rd (fun w => Kd.C k35 w La [(⟨n0, n1⟩ : S35)].length [(⟨n0, n1⟩ : S35)])) hb (Foot.mono (Kd.N_F ho) (fun k hk => ⟨hk.1, fun j c _ hj => hk.2 j c hj⟩)) (.inl rfl)
            refine hK.out _ _ ⟨cb hHeld.1 hb, cb hHeld.2.1 hb, cb hHeld.2.2.1 hb, cb hHeld.2.2.2.1 hb, cb hHeld.2.2.2.2 hb⟩ (fun hHeld => ?_)
            clear hK K hb ho
            refine norm_ (a' := ?_) ?_ ?_; rotate_left; (show Act.put _ (some 82) _ = _; simp only [sqa, sqb, sqc, sqd, i64_w, i32_w]; rfl)
            refine two_ (i := 4) (j := 13) (Ni := some 83) (Nj := some 92) (bl 19 8191) (bl 19 16367) rfl rfl rfl rfl (two_of HT_.out (by kernel_rfl)) (by decide) (by decide) (fun K hK => ?_) (fun K hK => ?_)
            · skip
              refine SB.appRowsN_step HS 2 k35 (.tmp 80) (.tmp 82) 60 35 (.agg #[(.slice none 0 0), (.slice none 0 0)]) 48 (.slice (some ad) x0.length d0) x0 [(⟨n0, n1⟩ : S35)] La [(⟨n0, n1⟩ : S35)].length qa Try.underlying60 info35 (by first | (go_simp; done) | (go_simp; rfl)) (SB.foot (Q := fun w => Kd.C k35 w La [(⟨n0, n1⟩ : S35)].length [(⟨n0, n1⟩ : S35)]) HS 12) (by simp only [List.length_singleton]; omega) ?_ (hs := (by first | (go_simp; done) | (go_simp; rfl)))
              clear HS
              intro v0 wp_ HS
              obtain ⟨Da, fa, rfl⟩ := Kd.N_slice (SB.nrows HS 2 (v := v0))
              rw [← Ny0.out] at HS ⊢
              have hk16 := SB.cells (g := g8) (cells := #[.slice (some ad) x0.length d0, .map (some mb), .slice (some ad2) x2.length d2, .slice B3 x3.length d3, .slice B4 x4.length d4]) (t := 68) HS 7
              have hk17 := SB.cells (g := g12) (cells := #[.slice N0 n0.length m0, .slice N1 n1.length m1]) (t := 35) HS 11
              obtain ⟨ad2', ee2, hx2⟩ := Kd.at_int (Kd.R_reads' (SB.rows HS 4 (d := Kd.int .i64) (v := .slice (some ad2) x2.length d2))).2.2 i c30b c38
              cases ee2
              refine hK.out _ _ ⟨bc0 hk16, bc2 hk16, bc0 hk17, bc1 hk17, hx2⟩ (fun hHeld => ?_)
              clear hK K hk16 hk17 hx2
              refine norm_ (a' := ?_) ?_ ?_; rotate_left; (show Act.put _ (some 83) _ = _; simp only [sqa, sqb, sqc, sqd, i64_w, i32_w]; rfl)
              refine pu 15 94 (bl 19 40959) HT_.out (v := ?_) (a' := ?_) ?_ ?_ ?_
              rotate_left; (intro w'; go_simp; with_reducible rfl); rotate_left; (simp only [sqa, sqb, sqc, sqd, i64_w, i32_w]; rfl)
              refine on 13 92 (bl 19 49151) HT_.out (fun K hK => ?_)
              refine SB.lit_step HS 92 (Kd.int .i64) 3 [(wrap64 (rd x2 i + 1) : Int)] [.int .i64 (wrap64 (rd x2 i + 1))] (Reps.one (show Kd.M (Kd.int .i64) _ _ _ (wrap64 (rd x2 i + 1)) [.int .i64 (wrap64 (rd x2 i + 1))] from rfl) (Reps.none _ _)) ?_
              intro vb wb hb ho
              obtain ⟨Mb, tb, rfl⟩ := Kd.R_slice ho
              replace HS := SB.fillNew HS 13 (rd (fun w => Kd.C (Kd.int .i64) w Mb [(wrap64 (rd x2 i + 1) : Int)].length [(wrap64 (rd x2 i + 1) : Int)])) hb (R_foot ho) (.inl rfl)
              refine hK.out _ _ ⟨cb hHeld.1 hb, cb hHeld.2.1 hb, cb hHeld.2.2.1 hb, cb hHeld.2.2.2.1 hb, cb hHeld.2.2.2.2 hb⟩ (fun hHeld => ?_)
              clear hK K hb ho
              refine norm_ (a' := ?_) ?_ ?_; rotate_left; (show Act.put _ (some 92) _ = _; simp only [sqa, sqb, sqc, sqd, i64_w, i32_w]; rfl)
              exact norm_ (by simp only [putAll, Act.put, List.setIfInBounds_toArray, List.set_cons_zero, List.set_cons_succ]) (hCont (La, qa, Da, fa, Mb, tb) _ ⟨hHeld, SB.toTriv HS 12⟩)
            · skip
              refine SB.lit_step HS 92 (Kd.int .i64) 3 [(wrap64 (rd x2 i + 1) : Int)] [.int .i64 (wrap64 (rd x2 i + 1))] (Reps.one (show Kd.M (Kd.int .i64) _ _ _ (wrap64 (rd x2 i + 1)) [.int .i64 (wrap64 (rd x2 i + 1))] from rfl) (Reps.none _ _)) ?_
              intro vb wb hb ho
              obtain ⟨Mb, tb, rfl⟩ := Kd.R_slice ho
              replace HS := SB.fillNew HS 13 (rd (fun w => Kd.C (Kd.int .i64) w Mb [(wrap64 (rd x2 i + 1) : Int)].length [(wrap64 (rd x2 i + 1) : Int)])) hb (R_foot ho) (.inl rfl)
              refine hK.out _ _ ⟨cb hHeld.1 hb, cb hHeld.2.1 hb, cb hHeld.2.2.1 hb, cb hHeld.2.2.2.1 hb, cb hHeld.2.2.2.2 hb⟩ (fun hHeld => ?_)
              clear hK K hb ho
              refine norm_ (a' := ?_) ?_ ?_; rotate_left; (show Act.put _ (some 92) _ = _; simp only [sqa, sqb, sqc, sqd, i64_w, i32_w]; rfl)
              refine on 4 83 (bl 19 16383) HT_.out (fun K hK => ?_)
              refine SB.appRowsN_step HS 2 k35 (.tmp 80) (.tmp 82) 60 35 (.agg #[(.slice none 0 0), (.slice none 0 0)]) 48 (.slice (some ad) x0.length d0) x0 [(⟨n0, n1⟩ : S35)] La [(⟨n0, n1⟩ : S35)].length qa Try.underlying60 info35 (by first | (go_simp; done) | (go_simp; rfl)) (SB.foot (Q := fun w => Kd.C k35 w La [(⟨n0, n1⟩ : S35)].length [(⟨n0, n1⟩ : S35)]) HS 12) (by simp only [List.length_singleton]; omega) ?_ (hs := (by first | (go_simp; done) | (go_simp; rfl)))
              clear HS
              intro v0 wp_ HS
              obtain ⟨Da, fa, rfl⟩ := Kd.N_slice (SB.nrows HS 2 (v := v0))
              rw [← Ny0.out] at HS ⊢
              have hk16 := SB.cells (g := g8) (cells := #[.slice (some ad) x0.length d0, .map (some mb), .slice (some ad2) x2.length d2, .slice B3 x3.length d3, .slice B4 x4.length d4]) (t := 68) HS 7
              have hk17 := SB.cells (g := g12) (cells := #[.slice N0 n0.length m0, .slice N1 n1.length m1]) (t := 35) HS 11
              obtain ⟨ad2', ee2, hx2⟩ := Kd.at_int (Kd.R_reads' (SB.rows HS 4 (d := Kd.int .i64) (v := .slice (some ad2) x2.length d2))).2.2 i c30b c38
              cases ee2
              refine hK.out _ _ ⟨bc0 hk16, bc2 hk16, bc0 hk17, bc1 hk17, hx2⟩ (fun hHeld => ?_)
              clear hK K hk16 hk17 hx2
              refine norm_ (a' := ?_) ?_ ?_; rotate_left; (show Act.put _ (some 83) _ = _; simp only [sqa, sqb, sqc, sqd, i64_w, i32_w]; rfl)
              refine pu 15 94 (bl 19 49151) HT_.out (v := ?_) (a' := ?_) ?_ ?_ ?_
              rotate_left; (intro w'; go_simp; with_reducible rfl); rotate_left; (simp only [sqa, sqb, sqc, sqd, i64_w, i32_w]; rfl)
              exact norm_ (by simp only [putAll, Act.put, List.setIfInBounds_toArray, List.set_cons_zero, List.set_cons_succ]) (hCont (La, qa, Da, fa, Mb, tb) _ ⟨hHeld, SB.toTriv HS 12⟩)
          · skip
            refine SB.lit_step HS 92 (Kd.int .i64) 3 [(wrap64 (rd x2 i + 1) : Int)] [.int .i64 (wrap64 (rd x2 i + 1))] (Reps.one (show Kd.M (Kd.int .i64) _ _ _ (wrap64 (rd x2 i + 1)) [.int .i64 (wrap64 (rd x2 i + 1))] from rfl) (Reps.none _ _)) ?_
            intro vb wb hb ho
            obtain ⟨Mb, tb, rfl⟩ := Kd.R_slice ho
            replace HS := SB.fillNew HS 13 (rd (fun w => Kd.C (Kd.int .i64) w Mb [(wrap64 (rd x2 i + 1) : Int)].length [(wrap64 (rd x2 i + 1) : Int)])) hb (R_foot ho) (.inl rfl)
            refine hK.out _ _ ⟨cb hHeld.1 hb, cb hHeld.2.1 hb, cb hHeld.2.2.1 hb, cb hHeld.2.2.2.1 hb, cb hHeld.2.2.2.2 hb⟩ (fun hHeld => ?_)
            clear hK K hb ho
            refine norm_ (a' := ?_) ?_ ?_; rotate_left; (show Act.put _ (some 92) _ = _; simp only [sqa, sqb, sqc, sqd, i64_w, i32_w]; rfl)
            refine on 3 82 (bl 19 16367) HT_.out (fun K hK => ?_)
            refine SB.litN_step HS 82 k35 35 [(⟨n0, n1⟩ : S35)] [.slice N0 n0.length m0, .slice N1 n1.length m1] ?hp ?_
            case hp => exact Reps.c2 (show Kd.FK k35 _ _ (⟨n0, n1⟩ : S35) [.slice N0 n0.length m0, .slice N1 n1.length m1] from k35_mkF _ _ (⟨n0, n1⟩ : S35) hn0 ((SB.foot (Q := fun w => Kd.C (Kd.int .i64) w N0 n0.length n0 ∧ Kd.C (Kd.int .i64) w N1 n1.length n1) HS 10).imp (fun _ h => h.1)) hn1 ((SB.foot (Q := fun w => Kd.C (Kd.int .i64) w N0 n0.length n0 ∧ Kd.C (Kd.int .i64) w N1 n1.length n1) HS 10).imp (fun _ h => h.2))) (Reps.none _ _)
            intro va wa hb ho
            obtain ⟨La, qa, rfl⟩ := Kd.N_slice ho
            replace HS := SB.fill HS 12 (rd (fun w => Kd.C k35 w La [(⟨n0, n1⟩ : S35)].length [(⟨n0, n1⟩ : S35)])) hb (Foot.mono (Kd.N_F ho) (fun k hk => ⟨hk.1, fun j c _ hj => hk.2 j c hj⟩)) (.inl rfl)
            refine hK.out _ _ ⟨cb hHeld.1 hb, cb hHeld.2.1 hb, cb hHeld.2.2.1 hb, cb hHeld.2.2.2.1 hb, cb hHeld.2.2.2.2 hb⟩ (fun hHeld => ?_)
            clear hK K hb ho
            refine norm_ (a' := ?_) ?_ ?_; rotate_left; (show Act.put _ (some 82) _ = _; simp only [sqa, sqb, sqc, sqd, i64_w, i32_w]; rfl)
            refine on 4 83 (bl 19 16383) HT_.out (fun K hK => ?_)
            refine SB.appRowsN_step HS 2 k35 (.tmp 80) (.tmp 82) 60 35 (.agg #[(.slice none 0 0), (.slice none 0 0)]) 48 (.slice (some ad) x0.length d0) x0 [(⟨n0, n1⟩ : S35)] La [(⟨n0, n1⟩ : S35)].length qa Try.underlying60 info35 (by first | (go_simp; done) | (go_simp; rfl)) (SB.foot (Q := fun w => Kd.C k35 w La [(⟨n0, n1⟩ : S35)].length [(⟨n0, n1⟩ : S35)]) HS 12) (by simp only [List.length_singleton]; omega) ?_ (hs := (by first | (go_simp; done) | (go_simp; rfl)))
            clear HS
            intro v0 wp_ HS
            obtain ⟨Da, fa, rfl⟩ := Kd.N_slice (SB.nrows HS 2 (v := v0))
            rw [← Ny0.out] at HS ⊢
            have hk16 := SB.cells (g := g8) (cells := #[.slice (some ad) x0.length d0, .map (some mb), .slice (some ad2) x2.length d2, .slice B3 x3.length d3, .slice B4 x4.length d4]) (t := 68) HS 7
            have hk17 := SB.cells (g := g12) (cells := #[.slice N0 n0.length m0, .slice N1 n1.length m1]) (t := 35) HS 11
            obtain ⟨ad2', ee2, hx2⟩ := Kd.at_int (Kd.R_reads' (SB.rows HS 4 (d := Kd.int .i64) (v := .slice (some ad2) x2.length d2))).2.2 i c30b c38
            cases ee2
            refine hK.out _ _ ⟨bc0 hk16, bc2 hk16, bc0 hk17, bc1 hk17, hx2⟩ (fun hHeld => ?_)
            clear hK K hk16 hk17 hx2
            refine norm_ (a' := ?_) ?_ ?_; rotate_left; (show Act.put _ (some 83) _ = _; simp only [sqa, sqb, sqc, sqd, i64_w, i32_w]; rfl)
            refine pu 15 94 (bl 19 49151) HT_.out (v := ?_) (a' := ?_) ?_ ?_ ?_
            rotate_left; (intro w'; go_simp; with_reducible rfl); rotate_left; (simp only [sqa, sqb, sqc, sqd, i64_w, i32_w]; rfl)
            exact norm_ (by simp only [putAll, Act.put, List.setIfInBounds_toArray, List.set_cons_zero, List.set_cons_succ]) (hCont (La, qa, Da, fa, Mb, tb) _ ⟨hHeld, SB.toTriv HS 12⟩)
        rintro ⟨La, qa, Da, fa, Mb, tb⟩ wj ⟨hHeld', HS'⟩
        clear HS hHeld
        have HS := HS'
        have hHeld := hHeld'
        clear HS' hHeld'
        dsimp only at HS hHeld
        refine norm_ (a' := ?_) ?_ ?_
        rotate_left
        · simp only [putAll, Act.put, List.setIfInBounds_toArray, List.set_cons_zero, List.set_cons_succ]
          rfl
        refine last_ (i := 14) (N := some 93) (bl 19 65535) rfl rfl (one_of HT_.out (by kernel_rfl)) (by decide) (fun K hK => ?_)
        refine SB.appRows_step HS 4 (Kd.int .i64) (.tmp 85) (.tmp 92) 30 3 (.int .i64 0) 8 (.slice (some ad2) x2.length d2) x2 [(wrap64 (rd x2 i + 1) : Int)] Mb [(wrap64 (rd x2 i + 1) : Int)].length tb Try.underlying30 info3 (by first | (go_simp; done) | (go_simp; rfl)) (SB.foot (Q := fun w => Kd.C (Kd.int .i64) w Mb [(wrap64 (rd x2 i + 1) : Int)].length [(wrap64 (rd x2 i + 1) : Int)]) HS 13).now (fun _ _ h => h) (by simp only [List.length_singleton]; omega) ?_ (hs := (by first | (go_simp; done) | (go_simp; rfl)))
        clear HS
        intro v2 w97 HS
        obtain ⟨D2, f2, rfl⟩ := Kd.R_slice (SB.rows HS 4 (v := v2))
        rw [← Ny2.out] at HS ⊢
        refine hK.out _ _ ?_
        clear hK K hHeld
        refine norm_ (a' := ?_) ?_ ?_; rotate_left; (show Act.put _ (some 93) _ = _; simp only [sqa, sqb, sqc, sqd, i64_w, i32_w]; rfl)
        have hk18 := SB.cells (g := g8) (cells := #[.slice (some ad) x0.length d0, .map (some mb), .slice (some ad2) x2.length d2, .slice B3 x3.length d3, .slice B4 x4.length d4]) (t := 68) HS 7
        have hcz18_0 := bc0 hk18
        have hcz18_1 := bc1 hk18
        have hcz18_2 := bc2 hk18
        have hcz18_3 := bc3 hk18
        have hcz18_4 := bc4 hk18
        have hfz18_0 := blk_frozen hk18.out 0
        have hfz18_1 := blk_frozen hk18.out 1
        have hfz18_2 := blk_frozen hk18.out 2
        have hfz18_3 := blk_frozen hk18.out 3
        have hfz18_4 := blk_frozen hk18.out 4
        refine last_ (i := 16) (N := none) (bl 19 131071) rfl rfl (one_of HT_.out (by kernel_rfl)) (by decide) (fun K hK => ?_)
        refine skip_ (w1 := ?_) (by rfl) rfl ?_ ?_
        rotate_left
        · go_simp
          rfl
        refine hK.out _ _ ?_
        clear hK K
        refine pu 17 95 (bl 19 262143) HT_.out (v := ?_) (a' := ?_) ?_ ?_ ?_
        rotate_left; (intro w'; go_simp; with_reducible rfl); rotate_left; (simp only [sqa, sqb, sqc, sqd, i64_w, i32_w]; rfl)
        refine last_ (i := 18) (N := none) (bl 19 524287) rfl rfl (one_of HT_.out (by kernel_rfl)) (by decide) (fun K hK => ?_)
        refine skip_ (w1 := ?_) (by rfl) rfl ?_ ?_
        rotate_left
        · go_simp
          rfl
        refine hK.out _ _ ?_
        clear hK K
        refine done_ (done_of HT_.out (by kernel_rfl)) ?_
        clear HT_ HW_
        replace HS := SB.set (SB.set HS 7 0 (.slice Da y0.length fa) #[.slice Da y0.length fa, .map (some mb), .slice (some ad2) x2.length d2, .slice B3 x3.length d3, .slice B4 x4.length d4] G8.out) 7 2 (.slice D2 y2.length f2) #[.slice Da y0.length fa, .map (some mb), .slice D2 y2.length f2, .slice B3 x3.length d3, .slice B4 x4.length d4] G8.out
        (try clear hk18 hcz18_0 hcz18_1 hcz18_2 hcz18_3 hcz18_4 hfz18_0 hfz18_1 hfz18_2 hfz18_3 hfz18_4)
        revert HS
        generalize (w97.setCell ⟨g8, 0, none⟩ (.slice Da y0.length fa)).setCell ⟨g8, 2, none⟩ (.slice D2 y2.length f2) = w98
        intro HS
        try go_wp2
        replace HS := SB.toTriv (SB.up (W := w98.drew) HS) 13
        have HS : SB (fun k => F0 k ∨ w.heap.size ≤ k) w w98.drew [blk g6 #[.slice none 0 0, .map none, .slice none 0 0, .slice none 0 0, .slice none 0 0] 68, triv, nrow k35 35 w.heap.size (.slice Da y0.length fa) y0, mp Gv.ev5 90 3 mb ym, row (Kd.int .i64) 3 w.heap.size (.slice D2 y2.length f2) y2, row (Kd.int .i64) 3 w.heap.size (.slice B3 x3.length d3) x3, row k55 55 w.heap.size (.slice B4 x4.length d4) x4, blk g8 #[.slice Da y0.length fa, .map (some mb), .slice D2 y2.length f2, .slice B3 x3.length d3, .slice B4 x4.length d4] 68, rd (fun w => Kd.C k55 w (some am) ms.length ms), blk g11 #[(.int .i64 (rd_T55 ms j).f0), (.int .i64 (rd_T55 ms j).f1)] 55, rd (fun w => Kd.C (Kd.int .i64) w N0 n0.length n0 ∧ Kd.C (Kd.int .i64) w N1 n1.length n1), blk g12 #[.slice N0 n0.length m0, .slice N1 n1.length m1] 35, triv, triv] := HS
        have hk19 := SB.cells (g := g8) (cells := #[.slice Da y0.length fa, .map (some mb), .slice D2 y2.length f2, .slice B3 x3.length d3, .slice B4 x4.length d4]) (t := 68) HS 7
        have hk20 := SB.cells (g := g11) (cells := #[(.int .i64 (rd_T55 ms j).f0), (.int .i64 (rd_T55 ms j).f1)]) (t := 55) HS 9
        refine start_ (n := 14) (S := fun w' => w'.cell? ⟨g8, 3, none⟩ = some (.slice B3 x3.length d3) ∧ w'.cell? ⟨g8, 4, none⟩ = some (.slice B4 x4.length d4) ∧ w'.cell? ⟨g11, 0, none⟩ = some (.int .i64 (rd_T55 ms j).f0) ∧ w'.cell? ⟨g11, 1, none⟩ = some (.int .i64 (rd_T55 ms j).f1)) (ds := [9, 11, 13]) (bl 14 0) (by kernel_rfl) rfl rfl ⟨bc3 hk19, bc4 hk19, bc0 hk20, bc1 hk20⟩ (fun hHeld => ?_)
        refine with_tabW impl_reachOf.tab17 impl_reachOf.bits17 (fun HT_ HW_ => ?_)
        generalize w98.drew = w99 at HS hHeld ⊢
        clear hk19 hk20
        refine pu 0 96 (bl 14 1) HT_.out (v := ?_) (a' := ?_) ?_ ?_ ?_
        rotate_left; (intro w'; go_simp; with_reducible rfl); rotate_left; (simp only [sqa, sqb, sqc, sqd, i64_w, i32_w]; rfl)
        refine pu 2 98 (bl 14 5) HT_.out (v := ?_) (a' := ?_) ?_ ?_ ?_
        rotate_left; (intro w'; go_simp; with_reducible rfl); rotate_left; (simp only [sqa, sqb, sqc, sqd, i64_w, i32_w]; rfl)
        refine pu 5 101 (bl 14 37) HT_.out (v := ?_) (a' := ?_) ?_ ?_ ?_
        rotate_left; (intro w'; go_simp; with_reducible rfl); rotate_left; (simp only [sqa, sqb, sqc, sqd, i64_w, i32_w]; rfl)
        refine tk 1 97 (bl 14 39) HT_.out HW_.out hHeld (v := ?_) (a' := ?_) ?_ ?_ ?_
        rotate_left; (rintro w' ⟨s0, s1, s2, s3⟩; go_simp; with_reducible rfl); rotate_left; (simp only [sqa, sqb, sqc, sqd, i64_w, i32_w]; rfl)
        refine tk 6 102 (bl 14 103) HT_.out HW_.out hHeld (v := ?_) (a' := ?_) ?_ ?_ ?_
        rotate_left; (rintro w' ⟨s0, s1, s2, s3⟩; go_simp; with_reducible rfl); rotate_left; (simp only [sqa, sqb, sqc, sqd, i64_w, i32_w]; rfl)
        refine tk 7 103 (bl 14 231) HT_.out HW_.out hHeld (v := ?_) (a' := ?_) ?_ ?_ ?_
        rotate_left; (rintro w' ⟨s0, s1, s2, s3⟩; go_simp; with_reducible rfl); rotate_left; (simp only [sqa, sqb, sqc, sqd, i64_w, i32_w]; rfl)
        refine join_ (σ := Option Addr × Nat × Option Addr × Nat × Option Addr × Nat) 4 (bl 14 1535) (fun s => [(99, .slice s.1 [(i : Int)].length s.2.1), (100, .slice s.2.2.1 y3.length s.2.2.2.1), (104, .slice s.2.2.2.2.1 [(⟨(rd_T55 ms j).f0, (rd_T55 ms j).f1⟩ : S55)].length s.2.2.2.2.2), (106, .pointer (some ⟨g8, 3, none⟩))]) (fun s w' => (w'.cell? ⟨g8, 3, none⟩ = some (.slice B3 x3.length d3) ∧ w'.cell? ⟨g8, 4, none⟩ = some (.slice B4 x4.length d4) ∧ w'.cell? ⟨g11, 0, none⟩ = some (.int .i64 (rd_T55 ms j).f0) ∧ w'.cell? ⟨g11, 1, none⟩ = some (.int .i64 (rd_T55 ms j).f1)) ∧ SB (fun k => F0 k ∨ w.heap.size ≤ k) w w' [blk g6 #[.slice none 0 0, .map none, .slice none 0 0, .slice none 0 0, .slice none 0 0] 68, triv, nrow k35 35 w.heap.size (.slice Da y0.length fa) y0, mp Gv.ev5 90 3 mb ym, row (Kd.int .i64) 3 w.heap.size (.slice D2 y2.length f2) y2, row (Kd.int .i64) 3 w.heap.size (.slice s.2.2.1 y3.length s.2.2.2.1) y3, row k55 55 w.heap.size (.slice B4 x4.length d4) x4, blk g8 #[.slice Da y0.length fa, .map (some mb), .slice D2 y2.length f2, .slice B3 x3.length d3, .slice B4 x4.length d4] 68, rd (fun w => Kd.C k55 w (some am) ms.length ms), blk g11 #[(.int .i64 (rd_T55 ms j).f0), (.int .i64 (rd_T55 ms j).f1)] 55, rd (fun w => Kd.C (Kd.int .i64) w N0 n0.length n0 ∧ Kd.C (Kd.int .i64) w N1 n1.length n1), blk g12 #[.slice N0 n0.length m0, .slice N1 n1.length m1] 35, triv, rd (fun w => Kd.C k55 w s.2.2.2.2.1 [(⟨(rd_T55 ms j).f0, (rd_T55 ms j).f1⟩ : S55)].length [(⟨(rd_T55 ms j).f0, (rd_T55 ms j).f1⟩ : S55)])]) ?_ ?_
        rotate_left
        · intro hCont
          refine two_ (i := 3) (j := 8) (Ni := some 99) (Nj := some 104) (bl 14 239) (bl 14 487) rfl rfl rfl rfl (two_of HT_.out (by kernel_rfl)) (by decide) (by decide) (fun K hK => ?_) (fun K hK => ?_)
          · skip
            refine SB.lit_step HS 99 (Kd.int .i64) 3 [(i : Int)] [.int .i64 i] (Reps.one (show Kd.M (Kd.int .i64) _ _ _ i [.int .i64 i] from rfl) (Reps.none _ _)) ?_
            intro va wa hb ho
            obtain ⟨La, qa, rfl⟩ := Kd.R_slice ho
            replace HS := SB.fillNew HS 12 (rd (fun w => Kd.C (Kd.int .i64) w La [(i : Int)].length [(i : Int)])) hb (R_foot ho) (.inl rfl)
            refine hK.out _ _ ⟨cb hHeld.1 hb, cb hHeld.2.1 hb, cb hHeld.2.2.1 hb, cb hHeld.2.2.2 hb⟩ (fun hHeld => ?_)
            clear hK K hb ho
            refine norm_ (a' := ?_) ?_ ?_; rotate_left; (show Act.put _ (some 99) _ = _; simp only [sqa, sqb, sqc, sqd, i64_w, i32_w]; rfl)
            refine two_ (i := 4) (j := 8) (Ni := some 100) (Nj := some 104) (bl 14 255) (bl 14 495) rfl rfl rfl rfl (two_of HT_.out (by kernel_rfl)) (by decide) (by decide) (fun K hK => ?_) (fun K hK => ?_)
            · skip
              refine SB.appRows_step HS 5 (Kd.int .i64) (.tmp 97) (.tmp 99) 30 3 (.int .i64 0) 8 (.slice B3 x3.length d3) x3 [(i : Int)] La [(i : Int)].length qa Try.underlying30 info3 (by first | (go_simp; done) | (go_simp; rfl)) (SB.foot (Q := fun w => Kd.C (Kd.int .i64) w La [(i : Int)].length [(i : Int)]) HS 12).now (fun _ _ h => h) (by simp only [List.length_singleton]; omega) ?_ (hs := (by first | (go_simp; done) | (go_simp; rfl)))
              clear HS
              intro v3 wp_ HS
              obtain ⟨D3, f3, rfl⟩ := Kd.R_slice (SB.rows HS 5 (d := Kd.int .i64) (v := v3) (xs := x3 ++ [i]))
              rw [← Ny3.out] at HS ⊢
              have hk21 := SB.cells (g := g8) (cells := #[.slice Da y0.length fa, .map (some mb), .slice D2 y2.length f2, .slice B3 x3.length d3, .slice B4 x4.length d4]) (t := 68) HS 7
              have hk22 := SB.cells (g := g11) (cells := #[(.int .i64 (rd_T55 ms j).f0), (.int .i64 (rd_T55 ms j).f1)]) (t := 55) HS 9
              refine hK.out _ _ ⟨bc3 hk21, bc4 hk21, bc0 hk22, bc1 hk22⟩ (fun hHeld => ?_)
              clear hK K hk21 hk22
              refine norm_ (a' := ?_) ?_ ?_; rotate_left; (show Act.put _ (some 100) _ = _; simp only [sqa, sqb, sqc, sqd, i64_w, i32_w]; rfl)
              refine pu 10 106 (bl 14 1279) HT_.out (v := ?_) (a' := ?_) ?_ ?_ ?_
              rotate_left; (intro w'; go_simp; with_reducible rfl); rotate_left; (simp only [sqa, sqb, sqc, sqd, i64_w, i32_w]; rfl)
              refine on 8 104 (bl 14 1535) HT_.out (fun K hK => ?_)
              refine SB.lit_step HS 104 k55 55 [(⟨(rd_T55 ms j).f0, (rd_T55 ms j).f1⟩ : S55)] [.int .i64 (rd_T55 ms j).f0, .int .i64 (rd_T55 ms j).f1] (Reps.c2 (show Kd.M k55 _ _ _ (⟨(rd_T55 ms j).f0, (rd_T55 ms j).f1⟩ : S55) [.int .i64 (rd_T55 ms j).f0, .int .i64 (rd_T55 ms j).f1] from k55_mkM _ _ _ (⟨(rd_T55 ms j).f0, (rd_T55 ms j).f1⟩ : S55)) (Reps.none _ _)) ?_
              intro vb wb hb ho
              obtain ⟨Mb, tb, rfl⟩ := Kd.R_slice ho
              replace HS := SB.fillNew HS 13 (rd (fun w => Kd.C k55 w Mb [(⟨(rd_T55 ms j).f0, (rd_T55 ms j).f1⟩ : S55)].length [(⟨(rd_T55 ms j).f0, (rd_T55 ms j).f1⟩ : S55)])) hb (R_foot ho) (.inl rfl)
              refine hK.out _ _ ⟨cb hHeld.1 hb, cb hHeld.2.1 hb, cb hHeld.2.2.1 hb, cb hHeld.2.2.2 hb⟩ (fun hHeld => ?_)
              clear hK K hb ho
              refine norm_ (a' := ?_) ?_ ?_; rotate_left; (show Act.put _ (some 104) _ = _; simp only [sqa, sqb, sqc, sqd, i64_w, i32_w]; rfl)
              exact norm_ (by simp only [putAll, Act.put, List.setIfInBounds_toArray, List.set_cons_zero, List.set_cons_succ]) (hCont (La, qa, D3, f3, Mb, tb) _ ⟨hHeld, SB.toTriv HS 12⟩)
            · skip
              refine SB.lit_step HS 104 k55 55 [(⟨(rd_T55 ms j).f0, (rd_T55 ms j).f1⟩ : S55)] [.int .i64 (rd_T55 ms j).f0, .int .i64 (rd_T55 ms j).f1] (Reps.c2 (show Kd.M k55 _ _ _ (⟨(rd_T55 ms j).f0, (rd_T55 ms j).f1⟩ : S55) [.int .i64 (rd_T55 ms j).f0, .int .i64 (rd_T55 ms j).f1] from k55_mkM _ _ _ (⟨(rd_T55 ms j).f0, (rd_T55 ms j).f1⟩ : S55)) (Reps.none _ _)) ?_
              intro vb wb hb ho
              obtain ⟨Mb, tb, rfl⟩ := Kd.R_slice ho
              replace HS := SB.fillNew HS 13 (rd (fun w => Kd.C k55 w Mb [(⟨(rd_T55 ms j).f0, (rd_T55 ms j).f1⟩ : S55)].length [(⟨(rd_T55 ms j).f0, (rd_T55 ms j).f1⟩ : S55)])) hb (R_foot ho) (.inl rfl)
              refine hK.out _ _ ⟨cb hHeld.1 hb, cb hHeld.2.1 hb, cb hHeld.2.2.1 hb, cb hHeld.2.2.2 hb⟩ (fun hHeld => ?_)
              clear hK K hb ho
              refine norm_ (a' := ?_) ?_ ?_; rotate_left; (show Act.put _ (some 104) _ = _; simp only [sqa, sqb, sqc, sqd, i64_w, i32_w]; rfl)
              refine on 4 100 (bl 14 511) HT_.out (fun K hK => ?_)
              refine SB.appRows_step HS 5 (Kd.int .i64) (.tmp 97) (.tmp 99) 30 3 (.int .i64 0) 8 (.slice B3 x3.length d3) x3 [(i : Int)] La [(i : Int)].length qa Try.underlying30 info3 (by first | (go_simp; done) | (go_simp; rfl)) (SB.foot (Q := fun w => Kd.C (Kd.int .i64) w La [(i : Int)].length [(i : Int)]) HS 12).now (fun _ _ h => h) (by simp only [List.length_singleton]; omega) ?_ (hs := (by first | (go_simp; done) | (go_simp; rfl)))
              clear HS
              intro v3 wp_ HS
              obtain ⟨D3, f3, rfl⟩ := Kd.R_slice (SB.rows HS 5 (d := Kd.int .i64) (v := v3) (xs := x3 ++ [i]))
              rw [← Ny3.out] at HS ⊢
              have hk21 := SB.cells (g := g8) (cells := #[.slice Da y0.length fa, .map (some mb), .slice D2 y2.length f2, .slice B3 x3.length d3, .slice B4 x4.length d4]) (t := 68) HS 7
              have hk22 := SB.cells (g := g11) (cells := #[(.int .i64 (rd_T55 ms j).f0), (.int .i64 (rd_T55 ms j).f1)]) (t := 55) HS 9
              refine hK.out _ _ ⟨bc3 hk21, bc4 hk21, bc0 hk22, bc1 hk22⟩ (fun hHeld => ?_)
              clear hK K hk21 hk22
              refine norm_ (a' := ?_) ?_ ?_; rotate_left; (show Act.put _ (some 100) _ = _; simp only [sqa, sqb, sqc, sqd, i64_w, i32_w]; rfl)
              refine pu 10 106 (bl 14 1535) HT_.out (v := ?_) (a' := ?_) ?_ ?_ ?_
              rotate_left; (intro w'; go_simp; with_reducible rfl); rotate_left; (simp only [sqa, sqb, sqc, sqd, i64_w, i32_w]; rfl)
              exact norm_ (by simp only [putAll, Act.put, List.setIfInBounds_toArray, List.set_cons_zero, List.set_cons_succ]) (hCont (La, qa, D3, f3, Mb, tb) _ ⟨hHeld, SB.toTriv HS 12⟩)
          · skip
            refine SB.lit_step HS 104 k55 55 [(⟨(rd_T55 ms j).f0, (rd_T55 ms j).f1⟩ : S55)] [.int .i64 (rd_T55 ms j).f0, .int .i64 (rd_T55 ms j).f1] (Reps.c2 (show Kd.M k55 _ _ _ (⟨(rd_T55 ms j).f0, (rd_T55 ms j).f1⟩ : S55) [.int .i64 (rd_T55 ms j).f0, .int .i64 (rd_T55 ms j).f1] from k55_mkM _ _ _ (⟨(rd_T55 ms j).f0, (rd_T55 ms j).f1⟩ : S55)) (Reps.none _ _)) ?_
            intro vb wb hb ho
            obtain ⟨Mb, tb, rfl⟩ := Kd.R_slice ho
            replace HS := SB.fillNew HS 13 (rd (fun w => Kd.C k55 w Mb [(⟨(rd_T55 ms j).f0, (rd_T55 ms j).f1⟩ : S55)].length [(⟨(rd_T55 ms j).f0, (rd_T55 ms j).f1⟩ : S55)])) hb (R_foot ho) (.inl rfl)
            refine hK.out _ _ ⟨cb hHeld.1 hb, cb hHeld.2.1 hb, cb hHeld.2.2.1 hb, cb hHeld.2.2.2 hb⟩ (fun hHeld => ?_)
            clear hK K hb ho
            refine norm_ (a' := ?_) ?_ ?_; rotate_left; (show Act.put _ (some 104) _ = _; simp only [sqa, sqb, sqc, sqd, i64_w, i32_w]; rfl)
            refine on 3 99 (bl 14 495) HT_.out (fun K hK => ?_)
            refine SB.lit_step HS 99 (Kd.int .i64) 3 [(i : Int)] [.int .i64 i] (Reps.one (show Kd.M (Kd.int .i64) _ _ _ i [.int .i64 i] from rfl) (Reps.none _ _)) ?_
            intro va wa hb ho
            obtain ⟨La, qa, rfl⟩ := Kd.R_slice ho
            replace HS := SB.fillNew HS 12 (rd (fun w => Kd.C (Kd.int .i64) w La [(i : Int)].length [(i : Int)])) hb (R_foot ho) (.inl rfl)
            refine hK.out _ _ ⟨cb hHeld.1 hb, cb hHeld.2.1 hb, cb hHeld.2.2.1 hb, cb hHeld.2.2.2 hb⟩ (fun hHeld => ?_)
            clear hK K hb ho
            refine norm_ (a' := ?_) ?_ ?_; rotate_left; (show Act.put _ (some 99) _ = _; simp only [sqa, sqb, sqc, sqd, i64_w, i32_w]; rfl)
            refine on 4 100 (bl 14 511) HT_.out (fun K hK => ?_)
            refine SB.appRows_step HS 5 (Kd.int .i64) (.tmp 97) (.tmp 99) 30 3 (.int .i64 0) 8 (.slice B3 x3.length d3) x3 [(i : Int)] La [(i : Int)].length qa Try.underlying30 info3 (by first | (go_simp; done) | (go_simp; rfl)) (SB.foot (Q := fun w => Kd.C (Kd.int .i64) w La [(i : Int)].length [(i : Int)]) HS 12).now (fun _ _ h => h) (by simp only [List.length_singleton]; omega) ?_ (hs := (by first | (go_simp; done) | (go_simp; rfl)))
            clear HS
            intro v3 wp_ HS
            obtain ⟨D3, f3, rfl⟩ := Kd.R_slice (SB.rows HS 5 (d := Kd.int .i64) (v := v3) (xs := x3 ++ [i]))
            rw [← Ny3.out] at HS ⊢
            have hk21 := SB.cells (g := g8) (cells := #[.slice Da y0.length fa, .map (some mb), .slice D2 y2.length f2, .slice B3 x3.length d3, .slice B4 x4.length d4]) (t := 68) HS 7
            have hk22 := SB.cells (g := g11) (cells := #[(.int .i64 (rd_T55 ms j).f0), (.int .i64 (rd_T55 ms j).f1)]) (t := 55) HS 9
            refine hK.out _ _ ⟨bc3 hk21, bc4 hk21, bc0 hk22, bc1 hk22⟩ (fun hHeld => ?_)
            clear hK K hk21 hk22
            refine norm_ (a' := ?_) ?_ ?_; rotate_left; (show Act.put _ (some 100) _ = _; simp only [sqa, sqb, sqc, sqd, i64_w, i32_w]; rfl)
            refine pu 10 106 (bl 14 1535) HT_.out (v := ?_) (a' := ?_) ?_ ?_ ?_
            rotate_left; (intro w'; go_simp; with_reducible rfl); rotate_left; (simp only [sqa, sqb, sqc, sqd, i64_w, i32_w]; rfl)
            exact norm_ (by simp only [putAll, Act.put, List.setIfInBounds_toArray, List.set_cons_zero, List.set_cons_succ]) (hCont (La, qa, D3, f3, Mb, tb) _ ⟨hHeld, SB.toTriv HS 12⟩)
        rintro ⟨La, qa, D3, f3, Mb, tb⟩ wj ⟨hHeld', HS'⟩
        clear HS hHeld
        have HS := HS'
        have hHeld := hHeld'
        clear HS' hHeld'
        dsimp only at HS hHeld
        refine norm_ (a' := ?_) ?_ ?_
        rotate_left
        · simp only [putAll, Act.put, List.setIfInBounds_toArray, List.set_cons_zero, List.set_cons_succ]
          rfl
        refine last_ (i := 9) (N := some 105) (bl 14 2047) rfl rfl (one_of HT_.out (by kernel_rfl)) (by decide) (fun K hK => ?_)
        refine SB.appRows_step HS 6 k55 (.tmp 102) (.tmp 104) 25 55 (.agg #[(.int .i64 0), (.int .i64 0)]) 16 (.slice B4 x4.length d4) x4 [(⟨(rd_T55 ms j).f0, (rd_T55 ms j).f1⟩ : S55)] Mb [(⟨(rd_T55 ms j).f0, (rd_T55 ms j).f1⟩ : S55)].length tb Try.underlying25 info55 (by first | (go_simp; done) | (go_simp; rfl)) (SB.foot (Q := fun w => Kd.C k55 w Mb [(⟨(rd_T55 ms j).f0, (rd_T55 ms j).f1⟩ : S55)].length [(⟨(rd_T55 ms j).f0, (rd_T55 ms j).f1⟩ : S55)]) HS 13).now (fun x cs h => by rw [k55_open h]; exact k55_mkM _ _ _ x) (by simp only [List.length_singleton]; omega) ?_ (hs := (by first | (go_simp; done) | (go_simp; rfl)))
        clear HS
        intro v4 w101 HS
        obtain ⟨D4, f4, rfl⟩ := Kd.R_slice (SB.rows HS 6 (d := k55) (v := v4) (xs := x4 ++ [(⟨(rd_T55 ms j).f0, (rd_T55 ms j).f1⟩ : S55)]))
        rw [← Ny4.out] at HS ⊢
        refine hK.out _ _ ?_
        clear hK K hHeld
        refine norm_ (a' := ?_) ?_ ?_; rotate_left; (show Act.put _ (some 105) _ = _; simp only [sqa, sqb, sqc, sqd, i64_w, i32_w]; rfl)
        have hk23 := SB.cells (g := g8) (cells := #[.slice Da y0.length fa, .map (some mb), .slice D2 y2.length f2, .slice B3 x3.length d3, .slice B4 x4.length d4]) (t := 68) HS 7
        have hcz23_0 := bc0 hk23
        have hcz23_1 := bc1 hk23
        have hcz23_2 := bc2 hk23
        have hcz23_3 := bc3 hk23
        have hcz23_4 := bc4 hk23
        have hfz23_0 := blk_frozen hk23.out 0
        have hfz23_1 := blk_frozen hk23.out 1
        have hfz23_2 := blk_frozen hk23.out 2
        have hfz23_3 := blk_frozen hk23.out 3
        have hfz23_4 := blk_frozen hk23.out 4
        refine last_ (i := 11) (N := none) (bl 14 4095) rfl rfl (one_of HT_.out (by kernel_rfl)) (by decide) (fun K hK => ?_)
        refine skip_ (w1 := ?_) (by rfl) rfl ?_ ?_
        rotate_left
        · go_simp
          rfl
        refine hK.out _ _ ?_
        clear hK K
        refine pu 12 107 (bl 14 8191) HT_.out (v := ?_) (a' := ?_) ?_ ?_ ?_
        rotate_left; (intro w'; go_simp; with_reducible rfl); rotate_left; (simp only [sqa, sqb, sqc, sqd, i64_w, i32_w]; rfl)
        refine last_ (i := 13) (N := none) (bl 14 16383) rfl rfl (one_of HT_.out (by kernel_rfl)) (by decide) (fun K hK => ?_)
        refine skip_ (w1 := ?_) (by rfl) rfl ?_ ?_
        rotate_left
        · go_simp
          rfl
        refine hK.out _ _ ?_
        clear hK K
        refine done_ (done_of HT_.out (by kernel_rfl)) ?_
        clear HT_ HW_
        replace HS := SB.set (SB.set HS 7 3 (.slice D3 y3.length f3) #[.slice Da y0.length fa, .map (some mb), .slice D2 y2.length f2, .slice D3 y3.length f3, .slice B4 x4.length d4] G8.out) 7 4 (.slice D4 y4.length f4) #[.slice Da y0.length fa, .map (some mb), .slice D2 y2.length f2, .slice D3 y3.length f3, .slice D4 y4.length f4] G8.out
        (try clear hk23 hcz23_0 hcz23_1 hcz23_2 hcz23_3 hcz23_4 hfz23_0 hfz23_1 hfz23_2 hfz23_3 hfz23_4)
        revert HS
        generalize (w101.setCell ⟨g8, 3, none⟩ (.slice D3 y3.length f3)).setCell ⟨g8, 4, none⟩ (.slice D4 y4.length f4) = w102
        intro HS
        try go_wp2
        go_roundg k2
        case measure => have := HK1.out; have := HK2.out; omega
        case rel => exact ⟨wrap64 (j + 1), _, _, _, _, _, _, _, _, _, rfl, H', ⟨by have := HK1.out; have := HK2.out; omega⟩, SB.take HS 9⟩
 · intro a0
   exact ⟨false, false, false, false, false, false, false, false, false, false, false, false, a0.tmps.getD 20 undef, a0.tmps.getD 21 undef, a0.tmps.getD 22 undef, a0.tmps.getD 24 undef, a0.tmps.getD 25 undef, a0.tmps.getD 26 undef, a0.tmps.getD 27 undef, a0.tmps.getD 29 undef, a0.tmps.getD 30 undef, a0.tmps.getD 8 undef, none, none, 0, 0, 0, 0, rfl, by simp only [put_self], (fun hh => by cases hh), (fun hh => by cases hh), (fun hh => by cases hh), (fun hh => by cases hh), (fun hh => by cases hh), (fun hh => by cases hh), (fun hh => by cases hh), (fun hh => by cases hh), (fun hh => by cases hh), (fun hh => by cases hh), (fun hh => by cases hh), (fun hh => by cases hh), HS⟩
end Go.Proofs.Ytieioddimkafbaa.V
