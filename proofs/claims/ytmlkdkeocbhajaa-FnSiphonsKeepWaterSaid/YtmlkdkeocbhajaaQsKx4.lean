-- Functions of the program as plain functions, and that the calls come to them. Written by a program (ownprint.py); nothing here is trusted: Lean checks it.
import Derived.Test.YtmlkdkeocbhajaaQsKx0
import Derived.Test.YtmlkdkeocbhajaaQsGvCell
import Derived.Test.YtmlkdkeocbhajaaQsKx1
import Derived.Test.YtmlkdkeocbhajaaQsKx2
import Derived.Test.YtmlkdkeocbhajaaQsKx3
namespace Go.Proofs.Ytmlkdkeocbhajaa.K
open Go.RowKit Go.Proofs.YtmlkdkeocbhajaaW.PrintWords Go.Proofs.YtmlkdkeocbhajaaW.PrintLast Go.Proofs.YtmlkdkeocbhajaaW.PrintMore Go.Proofs.Ytmlkdkeocbhajaa.Sq
attribute [local go_sem] max2_int min2_int max_two min_two max_three min_three max_four min_four   -- for this text's walks alone
set_option linter.unusedVariables false
set_option linter.unusedSimpArgs false
attribute [local go_sem high] eqA102
mutual
def spec_siTick.j0 : Nat → Int → Int → Int → Int → Int → Int → Int → Bool → Option (Int × Bool × Int × Int)
 | 0, _, _, _, _, _, _, _, _ => none
 | k + 1, x9, x10, x315000, x315001, x315002, x315003, x316000, x316001 => if x316001 = true then (spec_siTick.j1 k x9 x10 true x315000 x315001 x315002 x315003) else (spec_siTick.j1 k x9 x10 (decide (x9 ≥ x315002)) x315000 x315001 x315002 x315003)
def spec_siTick.j1 : Nat → Int → Int → Bool → Int → Int → Int → Int → Option (Int × Bool × Int × Int)
 | 0, _, _, _, _, _, _, _ => none
 | k + 1, x9, x10, x11, x315000, x315001, x315002, x315003 => if x11 = true then ((spec_l1Most.f (wrap64 (x9 - x315001)) 0).bind fun t317 => ((spec_l1Least.f x315003 t317).bind fun t318 => (some (wrap64 (x9 - t318), decide ((wrap64 (x9 - t318)) > x315001), t318, x10)))) else (some (x9, x11, 0, x10))
end
def spec_siTick.f (k : Nat) (a0_0 : Int) (a0_1 : Int) (a0_2 : Int) (a0_3 : Int) (a1_0 : Int) (a1_1 : Bool) (a2 : Int) : Option (Int × Bool × Int × Int) := if (wrap64 (a1_0 + a2)) > a0_0 then (spec_siTick.j0 k a0_0 (wrap64 ((wrap64 (a1_0 + a2)) - a0_0)) a0_0 a0_1 a0_2 a0_3 a1_0 a1_1) else (spec_siTick.j0 k (wrap64 (a1_0 + a2)) 0 a0_0 a0_1 a0_2 a0_3 a1_0 a1_1)
set_option maxHeartbeats 8000000 in
set_option maxRecDepth 100000 in
theorem spec_siTick.calls (k : Nat) (a0_0 : Int) (a0_1 : Int) (a0_2 : Int) (a0_3 : Int) (a1_0 : Int) (a1_1 : Bool) (a2 : Int) (r1 : Int) (r2 : Bool) (r3 : Int) (r4 : Int) (w : World) (h : spec_siTick.f k a0_0 a0_1 a0_2 a0_3 a1_0 a1_1 a2 = some (r1, r2, r3, r4)) :
  Calls Try.prog 217 #[.agg #[.int .i64 a0_0, .int .i64 a0_1, .int .i64 a0_2, .int .i64 a0_3], .agg #[.int .i64 a1_0, .bool a1_1], .int .i64 a2] w fun e w' => e = .returned (.tuple #[.agg #[.int .i64 r1, .bool r2], .int .i64 r3, .int .i64 r4]) ∧ Below w.heap.size w w' := by
 have hu100 := Try.underlying100
 have hu102 := Try.underlying102
 have HB := Aside0.mk (Below.refl w.heap.size w)
 have H : (if (wrap64 (a1_0 + a2)) > a0_0 then (spec_siTick.j0 k a0_0 (wrap64 ((wrap64 (a1_0 + a2)) - a0_0)) a0_0 a0_1 a0_2 a0_3 a1_0 a1_1) else (spec_siTick.j0 k (wrap64 (a1_0 + a2)) 0 a0_0 a0_1 a0_2 a0_3 a1_0 a1_1)) = some (r1, r2, r3, r4) := h
 clear h
 have HC4 := Aside0.mk H
 clear H
 go_enter Try.func217, Try.ntmps217
 go_upto_if 20 with (first | ((with_reducible refine gate_dst (N := 3) rfl ?_); refine bx 3 #[.int .i64 a0_0, .int .i64 a0_1, .int .i64 a0_2, .int .i64 a0_3] 100 ?_; intro gb314 hg w5 hbox hb; have n0_ := bs HB hb; have n1_ := Aside0.mk (hbox); have n2_ := ge HB hg; have n3_ := ge HB hg; clear HB; have HB := n0_; have BK314 := n1_; have GW314 := n2_; have GE314 := n3_; clear n0_ n1_ n2_ n3_; clear hb hbox hg) | ((with_reducible refine gate_dst (N := 4) rfl ?_); refine bx 4 #[.int .i64 a1_0, .bool a1_1] 102 ?_; intro gb315 hg w6 hbox hb; have n0_ := bb BK314 hb; have n1_ := bs HB hb; have n2_ := Aside0.mk (hbox); have n3_ := ge HB hg; have n4_ := ge HB hg; have n5_ := nl BK314 hg; have n6_ := nr BK314 hg; clear BK314; clear HB; have BK314 := n0_; have HB := n1_; have BK315 := n2_; have GW315 := n3_; have GE315 := n4_; have NB314_315 := n5_; have NB315_314 := n6_; clear n0_ n1_ n2_ n3_ n4_ n5_ n6_; clear hb hbox hg) | ((with_reducible refine gate_dst (N := 6) rfl ?_); refine bx 6 #[.int .i64 0, .bool false] 102 ?_; intro gb316 hg w7 hbox hb; have n0_ := bb BK314 hb; have n1_ := bb BK315 hb; have n2_ := bs HB hb; have n3_ := Aside0.mk (hbox); have n4_ := ge HB hg; have n5_ := ge HB hg; have n6_ := nl BK314 hg; have n7_ := nr BK314 hg; have n8_ := nl BK315 hg; have n9_ := nr BK315 hg; clear BK314; clear BK315; clear HB; have BK314 := n0_; have BK315 := n1_; have HB := n2_; have BK316 := n3_; have GW316 := n4_; have GE316 := n5_; have NB314_316 := n6_; have NB316_314 := n7_; have NB315_316 := n8_; have NB316_315 := n9_; clear n0_ n1_ n2_ n3_ n4_ n5_ n6_ n7_ n8_ n9_; clear hb hbox hg; have hnb8 := NB315_314.out; have hnc8 := NB314_315.out; have hnb9 := NB315_316.out; have hnc9 := NB316_315.out; have hcz10_0 := bc0 BK315; have hcz10_1 := bc1 BK315; have hfz10_0 := blk_frozen BK315.out 0; have hfz10_1 := blk_frozen BK315.out 1; have hnb11 := NB314_316.out; have hnc11 := NB316_314.out; have hcz12_0 := bc0 BK314; have hcz12_1 := bc1 BK314; have hcz12_2 := bc2 BK314; have hcz12_3 := bc3 BK314; have hfz12_0 := blk_frozen BK314.out 0; have hfz12_1 := blk_frozen BK314.out 1; have hfz12_2 := blk_frozen BK314.out 2; have hfz12_3 := blk_frozen BK314.out 3))
 repeat (go_quiet (first | ((with_reducible refine gate_dst (N := 3) rfl ?_); refine bx 3 #[.int .i64 a0_0, .int .i64 a0_1, .int .i64 a0_2, .int .i64 a0_3] 100 ?_; intro gb314 hg w5 hbox hb; have n0_ := bs HB hb; have n1_ := Aside0.mk (hbox); have n2_ := ge HB hg; have n3_ := ge HB hg; clear HB; have HB := n0_; have BK314 := n1_; have GW314 := n2_; have GE314 := n3_; clear n0_ n1_ n2_ n3_; clear hb hbox hg) | ((with_reducible refine gate_dst (N := 4) rfl ?_); refine bx 4 #[.int .i64 a1_0, .bool a1_1] 102 ?_; intro gb315 hg w6 hbox hb; have n0_ := bb BK314 hb; have n1_ := bs HB hb; have n2_ := Aside0.mk (hbox); have n3_ := ge HB hg; have n4_ := ge HB hg; have n5_ := nl BK314 hg; have n6_ := nr BK314 hg; clear BK314; clear HB; have BK314 := n0_; have HB := n1_; have BK315 := n2_; have GW315 := n3_; have GE315 := n4_; have NB314_315 := n5_; have NB315_314 := n6_; clear n0_ n1_ n2_ n3_ n4_ n5_ n6_; clear hb hbox hg) | ((with_reducible refine gate_dst (N := 6) rfl ?_); refine bx 6 #[.int .i64 0, .bool false] 102 ?_; intro gb316 hg w7 hbox hb; have n0_ := bb BK314 hb; have n1_ := bb BK315 hb; have n2_ := bs HB hb; have n3_ := Aside0.mk (hbox); have n4_ := ge HB hg; have n5_ := ge HB hg; have n6_ := nl BK314 hg; have n7_ := nr BK314 hg; have n8_ := nl BK315 hg; have n9_ := nr BK315 hg; clear BK314; clear BK315; clear HB; have BK314 := n0_; have BK315 := n1_; have HB := n2_; have BK316 := n3_; have GW316 := n4_; have GE316 := n5_; have NB314_316 := n6_; have NB316_314 := n7_; have NB315_316 := n8_; have NB316_315 := n9_; clear n0_ n1_ n2_ n3_ n4_ n5_ n6_ n7_ n8_ n9_; clear hb hbox hg; have hnb8 := NB315_314.out; have hnc8 := NB314_315.out; have hnb9 := NB315_316.out; have hnc9 := NB316_315.out; have hcz10_0 := bc0 BK315; have hcz10_1 := bc1 BK315; have hfz10_0 := blk_frozen BK315.out 0; have hfz10_1 := blk_frozen BK315.out 1; have hnb11 := NB314_316.out; have hnc11 := NB316_314.out; have hcz12_0 := bc0 BK314; have hcz12_1 := bc1 BK314; have hcz12_2 := bc2 BK314; have hcz12_3 := bc3 BK314; have hfz12_0 := blk_frozen BK314.out 0; have hfz12_1 := blk_frozen BK314.out 1; have hfz12_2 := blk_frozen BK314.out 2; have hfz12_3 := blk_frozen BK314.out 3)); go_upto_if 20 with (first | ((with_reducible refine gate_dst (N := 3) rfl ?_); refine bx 3 #[.int .i64 a0_0, .int .i64 a0_1, .int .i64 a0_2, .int .i64 a0_3] 100 ?_; intro gb314 hg w5 hbox hb; have n0_ := bs HB hb; have n1_ := Aside0.mk (hbox); have n2_ := ge HB hg; have n3_ := ge HB hg; clear HB; have HB := n0_; have BK314 := n1_; have GW314 := n2_; have GE314 := n3_; clear n0_ n1_ n2_ n3_; clear hb hbox hg) | ((with_reducible refine gate_dst (N := 4) rfl ?_); refine bx 4 #[.int .i64 a1_0, .bool a1_1] 102 ?_; intro gb315 hg w6 hbox hb; have n0_ := bb BK314 hb; have n1_ := bs HB hb; have n2_ := Aside0.mk (hbox); have n3_ := ge HB hg; have n4_ := ge HB hg; have n5_ := nl BK314 hg; have n6_ := nr BK314 hg; clear BK314; clear HB; have BK314 := n0_; have HB := n1_; have BK315 := n2_; have GW315 := n3_; have GE315 := n4_; have NB314_315 := n5_; have NB315_314 := n6_; clear n0_ n1_ n2_ n3_ n4_ n5_ n6_; clear hb hbox hg) | ((with_reducible refine gate_dst (N := 6) rfl ?_); refine bx 6 #[.int .i64 0, .bool false] 102 ?_; intro gb316 hg w7 hbox hb; have n0_ := bb BK314 hb; have n1_ := bb BK315 hb; have n2_ := bs HB hb; have n3_ := Aside0.mk (hbox); have n4_ := ge HB hg; have n5_ := ge HB hg; have n6_ := nl BK314 hg; have n7_ := nr BK314 hg; have n8_ := nl BK315 hg; have n9_ := nr BK315 hg; clear BK314; clear BK315; clear HB; have BK314 := n0_; have BK315 := n1_; have HB := n2_; have BK316 := n3_; have GW316 := n4_; have GE316 := n5_; have NB314_316 := n6_; have NB316_314 := n7_; have NB315_316 := n8_; have NB316_315 := n9_; clear n0_ n1_ n2_ n3_ n4_ n5_ n6_ n7_ n8_ n9_; clear hb hbox hg; have hnb8 := NB315_314.out; have hnc8 := NB314_315.out; have hnb9 := NB315_316.out; have hnc9 := NB316_315.out; have hcz10_0 := bc0 BK315; have hcz10_1 := bc1 BK315; have hfz10_0 := blk_frozen BK315.out 0; have hfz10_1 := blk_frozen BK315.out 1; have hnb11 := NB314_316.out; have hnc11 := NB316_314.out; have hcz12_0 := bc0 BK314; have hcz12_1 := bc1 BK314; have hcz12_2 := bc2 BK314; have hcz12_3 := bc3 BK314; have hfz12_0 := blk_frozen BK314.out 0; have hfz12_1 := blk_frozen BK314.out 1; have hfz12_2 := blk_frozen BK314.out 2; have hfz12_3 := blk_frozen BK314.out 3)))
 (try simp only [Act.put, List.setIfInBounds_toArray, List.set_cons_zero, List.set_cons_succ])
 go_cut [9, 10] (fun v9 v10 wc => ∃ (kq : Nat) (x9_3 : Int) (x10_3 : Int), v9 = .int .i64 x9_3 ∧ v10 = .int .i64 x10_3 ∧ Aside0 (spec_siTick.j0 kq x9_3 x10_3 a0_0 a0_1 a0_2 a0_3 a1_0 a1_1 = some (r1, r2, r3, r4)) ∧ Aside0 (kq ≤ k) ∧ Aside0 (wc.heap[gb314]? = some (.cells #[.int .i64 a0_0, .int .i64 a0_1, .int .i64 a0_2, .int .i64 a0_3] 100 (0, 0))) ∧ Aside0 (wc.heap[gb315]? = some (.cells #[.int .i64 a1_0, .bool a1_1] 102 (0, 0))) ∧ Aside0 (wc.heap[gb316]? = some (.cells #[.int .i64 0, .bool false] 102 (0, 0))) ∧ Aside0 (Below w.heap.size w wc))
 case first =>
  have H := HC4.out
  clear HC4
  by_cases c13 : (wrap64 (a1_0 + a2)) > a0_0
  rotate_left
  ·rw [if_neg c13] at H
   have c13b0 : decide (a0_0 < (wrap64 (a1_0 + a2))) = false := decide_eq_false c13
   clear c13
   (first | rw [c13b0] | (simp only [i64_w, i32_w]; rw [c13b0]) | skip)
   have H' := Aside0.mk H
   clear H
   go_wp2
   repeat (go_quiet (fail); try go_wp2)
   go_meet
   case rel => exact ⟨_, (wrap64 (a1_0 + a2)), (0), (by first | rfl | (simp; done) | (simp [*]; done)), (by first | rfl | (simp; done) | (simp [*]; done)), H', ⟨by first | omega | exact Nat.le_refl _⟩, ⟨bk BK314⟩, ⟨bk BK315⟩, ⟨bk BK316⟩, ⟨bw HB⟩⟩
  rw [if_pos c13] at H
  have c13b0 : decide (a0_0 < (wrap64 (a1_0 + a2))) = true := decide_eq_true c13
  clear c13
  (first | rw [c13b0] | (simp only [i64_w, i32_w]; rw [c13b0]) | skip)
  have H' := Aside0.mk H
  clear H
  have hnb14 := NB314_315.out
  have hnc14 := NB315_314.out
  have hnb15 := NB314_316.out
  have hnc15 := NB316_314.out
  have hcz16_0 := bc0 BK314
  have hcz16_1 := bc1 BK314
  have hcz16_2 := bc2 BK314
  have hcz16_3 := bc3 BK314
  have hfz16_0 := blk_frozen BK314.out 0
  have hfz16_1 := blk_frozen BK314.out 1
  have hfz16_2 := blk_frozen BK314.out 2
  have hfz16_3 := blk_frozen BK314.out 3
  go_wp2
  repeat (go_quiet (fail); try go_wp2)
  go_meet
  case rel => exact ⟨_, (a0_0), (wrap64 ((wrap64 (a1_0 + a2)) - a0_0)), (by first | rfl | (simp; done) | (simp [*]; done)), (by first | rfl | (simp; done) | (simp [*]; done)), H', ⟨by first | omega | exact Nat.le_refl _⟩, ⟨bk BK314⟩, ⟨bk BK315⟩, ⟨bk BK316⟩, ⟨bw HB⟩⟩
 case rest =>
  clear HC4
  (try clear c1); (try clear c2); (try clear p2); (try clear p6); (try clear c8); (try clear c9); (try clear c11); (try clear c13); (try clear c13b0); (try clear c14); (try clear c15); (try clear hcz10_0); (try clear hcz10_1); (try clear hcz12_0); (try clear hcz12_1); (try clear hcz12_2); (try clear hcz12_3); (try clear hcz16_0); (try clear hcz16_1); (try clear hcz16_2); (try clear hcz16_3); (try clear hfz10_0); (try clear hfz10_1); (try clear hfz12_0); (try clear hfz12_1); (try clear hfz12_2); (try clear hfz12_3); (try clear hfz16_0); (try clear hfz16_1); (try clear hfz16_2); (try clear hfz16_3)
  obtain ⟨kq, x9_3, x10_3, rfl, rfl, HA, HJ3, BK314, BK315, BK316, HB⟩ := hcut
  cases kq with
  | zero => exact absurd HA.out (by simp [spec_siTick.j0])
  | succ kj3 =>
   have H := HA.out
   clear HA
   simp only [spec_siTick.j0] at H
   have HC17 := Aside0.mk H
   clear H
   go_upto_region 5 with (fail)
   repeat (go_quiet (fail); go_upto_region 5 with (fail))
   go_cut [11] (fun v11 wc => ∃ (kq : Nat) (x11_16 : Bool), v11 = .bool x11_16 ∧ Aside0 (spec_siTick.j1 kq x9_3 x10_3 x11_16 a0_0 a0_1 a0_2 a0_3 = some (r1, r2, r3, r4)) ∧ Aside0 (kq ≤ kj3) ∧ Aside0 (wc.heap[gb314]? = some (.cells #[.int .i64 a0_0, .int .i64 a0_1, .int .i64 a0_2, .int .i64 a0_3] 100 (0, 0))) ∧ Aside0 (wc.heap[gb315]? = some (.cells #[.int .i64 a1_0, .bool a1_1] 102 (0, 0))) ∧ Aside0 (wc.heap[gb316]? = some (.cells #[.int .i64 0, .bool false] 102 (0, 0))) ∧ Aside0 (Below w.heap.size w wc))
   case first =>
    have H := HC17.out
    clear HC17
    by_cases c18 : a1_1 = true
    ·subst c18
     have H1 : (spec_siTick.j1 kj3 x9_3 x10_3 true a0_0 a0_1 a0_2 a0_3) = some (r1, r2, r3, r4) := by rw [if_pos rfl] at H; exact H
     clear H
     have H := H1
     clear H1
     have H' := Aside0.mk H
     clear H
     have hnb19 := NB315_314.out
     have hnc19 := NB314_315.out
     have hnb20 := NB315_316.out
     have hnc20 := NB316_315.out
     have hcz21_0 := bc0 BK315
     have hcz21_1 := bc1 BK315
     have hfz21_0 := blk_frozen BK315.out 0
     have hfz21_1 := blk_frozen BK315.out 1
     go_wp2
     repeat (go_quiet (fail); try go_wp2)
     go_meet
     case rel => exact ⟨_, (true), (by first | rfl | (simp; done) | (simp [*]; done)), H', ⟨by have := HJ3.out; first | omega | exact Nat.le_refl _⟩, ⟨bk BK314⟩, ⟨bk BK315⟩, ⟨bk BK316⟩, ⟨bw HB⟩⟩
    replace c18 := Bool.eq_false_iff.mpr c18
    subst c18
    have H1 : (spec_siTick.j1 kj3 x9_3 x10_3 (decide (x9_3 ≥ a0_2)) a0_0 a0_1 a0_2 a0_3) = some (r1, r2, r3, r4) := by rw [if_neg (show ¬ (false = true) by decide)] at H; exact H
    clear H
    have H := H1
    clear H1
    have H' := Aside0.mk H
    clear H
    have hnb22 := NB315_314.out
    have hnc22 := NB314_315.out
    have hnb23 := NB315_316.out
    have hnc23 := NB316_315.out
    have hcz24_0 := bc0 BK315
    have hcz24_1 := bc1 BK315
    have hfz24_0 := blk_frozen BK315.out 0
    have hfz24_1 := blk_frozen BK315.out 1
    have hnb25 := NB314_316.out
    have hnc25 := NB316_314.out
    have hcz26_0 := bc0 BK314
    have hcz26_1 := bc1 BK314
    have hcz26_2 := bc2 BK314
    have hcz26_3 := bc3 BK314
    have hfz26_0 := blk_frozen BK314.out 0
    have hfz26_1 := blk_frozen BK314.out 1
    have hfz26_2 := blk_frozen BK314.out 2
    have hfz26_3 := blk_frozen BK314.out 3
    go_wp2
    repeat (go_quiet (fail); try go_wp2)
    go_meet
    case rel => exact ⟨_, (decide (x9_3 ≥ a0_2)), (by first | rfl | (simp; done) | (simp [*]; done)), H', ⟨by have := HJ3.out; first | omega | exact Nat.le_refl _⟩, ⟨bk BK314⟩, ⟨bk BK315⟩, ⟨bk BK316⟩, ⟨bw HB⟩⟩
   case rest =>
    clear HC17
    (try clear c1); (try clear c2); (try clear p2); (try clear p6); (try clear c8); (try clear c9); (try clear c11); (try clear c13); (try clear c13b0); (try clear c14); (try clear c15); (try clear c18); (try clear c19); (try clear c20); (try clear c21); (try clear c22); (try clear c23); (try clear c25); (try clear hcz10_0); (try clear hcz10_1); (try clear hcz12_0); (try clear hcz12_1); (try clear hcz12_2); (try clear hcz12_3); (try clear hcz16_0); (try clear hcz16_1); (try clear hcz16_2); (try clear hcz16_3); (try clear hcz21_0); (try clear hcz21_1); (try clear hcz24_0); (try clear hcz24_1); (try clear hcz26_0); (try clear hcz26_1); (try clear hcz26_2); (try clear hcz26_3); (try clear hfz10_0); (try clear hfz10_1); (try clear hfz12_0); (try clear hfz12_1); (try clear hfz12_2); (try clear hfz12_3); (try clear hfz16_0); (try clear hfz16_1); (try clear hfz16_2); (try clear hfz16_3); (try clear hfz21_0); (try clear hfz21_1); (try clear hfz24_0); (try clear hfz24_1); (try clear hfz26_0); (try clear hfz26_1); (try clear hfz26_2); (try clear hfz26_3); (try clear p2); (try clear p6)
    obtain ⟨kq, x11_16, rfl, HA, HJ16, BK314, BK315, BK316, HB⟩ := hcut
    cases kq with
    | zero => exact absurd HA.out (by simp [spec_siTick.j1])
    | succ kj16 =>
     have H := HA.out
     clear HA
     simp only [spec_siTick.j1] at H
     by_cases c27 : x11_16 = true
     rotate_left
     ·replace c27 := Bool.eq_false_iff.mpr c27
      subst c27
      have H1 : (some (x9_3, false, 0, x10_3)) = some (r1, r2, r3, r4) := by rw [if_neg (show ¬ (false = true) by decide)] at H; exact H
      clear H
      have H := H1
      clear H1
      simp only [Option.some.injEq, Prod.mk.injEq] at H
      obtain ⟨rfl, rfl, rfl, rfl⟩ := H
      have hnb35 := NB316_314.out
      have hnc35 := NB314_316.out
      have hnb36 := NB316_315.out
      have hnc36 := NB315_316.out
      have hcz37_0 := bc0 BK316
      have hcz37_1 := bc1 BK316
      have hfz37_0 := blk_frozen BK316.out 0
      have hfz37_1 := blk_frozen BK316.out 1
      go_wp2
      repeat (go_quiet (fail); try go_wp2)
      refine bodyPost_ret (results_ctt rfl _ _ gb316 102 #[.int .i64 x9_3, .bool false] (0, 0) _ rfl (by refine blk_put (cs := #[.int .i64 x9_3, .bool false]) ?_ 1 _ rfl; refine blk_put (cs := #[.int .i64 0, .bool false]) ?_ 0 _ rfl; exact bk BK316) Try.underlying102 rfl (by kernel_rfl)) rfl ?_
      exact ⟨by first | rfl | (simp [errW_none, errW_some] <;> rfl) | (simp [*, errW_none, errW_some] <;> rfl), bw HB⟩
     subst c27
     have H1 : ((spec_l1Most.f (wrap64 (x9_3 - a0_1)) 0).bind fun t317 => ((spec_l1Least.f a0_3 t317).bind fun t318 => (some (wrap64 (x9_3 - t318), decide ((wrap64 (x9_3 - t318)) > a0_1), t318, x10_3)))) = some (r1, r2, r3, r4) := by rw [if_pos rfl] at H; exact H
     clear H
     have H := H1
     clear H1
     replace H := Option.bind_eq_some_iff.mp H
     obtain ⟨t317, A280, H⟩ := H
     (try dsimp only at H)
     have A28 := Aside0.mk A280
     clear A280
     replace H := Option.bind_eq_some_iff.mp H
     obtain ⟨t318, A290, H⟩ := H
     (try dsimp only at H)
     have A29 := Aside0.mk A290
     clear A290
     simp only [Option.some.injEq, Prod.mk.injEq] at H
     obtain ⟨rfl, rfl, rfl, rfl⟩ := H
     have hnb30 := NB314_315.out
     have hnc30 := NB315_314.out
     have hnb31 := NB314_316.out
     have hnc31 := NB316_314.out
     have hcz32_0 := bc0 BK314
     have hcz32_1 := bc1 BK314
     have hcz32_2 := bc2 BK314
     have hcz32_3 := bc3 BK314
     have hfz32_0 := blk_frozen BK314.out 0
     have hfz32_1 := blk_frozen BK314.out 1
     have hfz32_2 := blk_frozen BK314.out 2
     have hfz32_3 := blk_frozen BK314.out 3
     go_wp2_with (first | (go_at_call 173; (with_reducible refine (spec_l1Most.calls (wrap64 (x9_3 - a0_1)) 0 t317 _ A28.out).mono ?_); rintro e w' ⟨rfl, ⟨nd, rfl⟩⟩; (try first | exact ⟨rfl, _, World.drewN_drewN _ _ _⟩ | exact ⟨rfl, _, Eq.trans (World.drewN_drewN _ _ _) (congrArg (World.drewN _) (Nat.add_assoc _ _ _))⟩)) | (go_at_call 174; (with_reducible refine (spec_l1Least.calls a0_3 t317 t318 _ A29.out).mono ?_); rintro e w' ⟨rfl, ⟨nd, rfl⟩⟩; (try first | exact ⟨rfl, _, World.drewN_drewN _ _ _⟩ | exact ⟨rfl, _, Eq.trans (World.drewN_drewN _ _ _) (congrArg (World.drewN _) (Nat.add_assoc _ _ _))⟩); have hnb33 := NB316_315.out; have hnc33 := NB315_316.out; have hcz34_0 := bc0 BK316; have hcz34_1 := bc1 BK316; have hfz34_0 := blk_frozen BK316.out 0; have hfz34_1 := blk_frozen BK316.out 1))
     have hw_ : IntKind.i64.wrap (x9_3 - a0_1) = wrap64 (x9_3 - a0_1) := i64_w _
     repeat (go_quiet (first | (go_at_call 173; (with_reducible refine (spec_l1Most.calls (wrap64 (x9_3 - a0_1)) 0 t317 _ A28.out).mono ?_); rintro e w' ⟨rfl, ⟨nd, rfl⟩⟩; (try first | exact ⟨rfl, _, World.drewN_drewN _ _ _⟩ | exact ⟨rfl, _, Eq.trans (World.drewN_drewN _ _ _) (congrArg (World.drewN _) (Nat.add_assoc _ _ _))⟩)) | (go_at_call 174; (with_reducible refine (spec_l1Least.calls a0_3 t317 t318 _ A29.out).mono ?_); rintro e w' ⟨rfl, ⟨nd, rfl⟩⟩; (try first | exact ⟨rfl, _, World.drewN_drewN _ _ _⟩ | exact ⟨rfl, _, Eq.trans (World.drewN_drewN _ _ _) (congrArg (World.drewN _) (Nat.add_assoc _ _ _))⟩); have hnb33 := NB316_315.out; have hnc33 := NB315_316.out; have hcz34_0 := bc0 BK316; have hcz34_1 := bc1 BK316; have hfz34_0 := blk_frozen BK316.out 0; have hfz34_1 := blk_frozen BK316.out 1)); try go_wp2_with (first | (go_at_call 173; (with_reducible refine (spec_l1Most.calls (wrap64 (x9_3 - a0_1)) 0 t317 _ A28.out).mono ?_); rintro e w' ⟨rfl, ⟨nd, rfl⟩⟩; (try first | exact ⟨rfl, _, World.drewN_drewN _ _ _⟩ | exact ⟨rfl, _, Eq.trans (World.drewN_drewN _ _ _) (congrArg (World.drewN _) (Nat.add_assoc _ _ _))⟩)) | (go_at_call 174; (with_reducible refine (spec_l1Least.calls a0_3 t317 t318 _ A29.out).mono ?_); rintro e w' ⟨rfl, ⟨nd, rfl⟩⟩; (try first | exact ⟨rfl, _, World.drewN_drewN _ _ _⟩ | exact ⟨rfl, _, Eq.trans (World.drewN_drewN _ _ _) (congrArg (World.drewN _) (Nat.add_assoc _ _ _))⟩); have hnb33 := NB316_315.out; have hnc33 := NB315_316.out; have hcz34_0 := bc0 BK316; have hcz34_1 := bc1 BK316; have hfz34_0 := blk_frozen BK316.out 0; have hfz34_1 := blk_frozen BK316.out 1)))
     refine bodyPost_ret (results_ctt rfl _ _ gb316 102 #[.int .i64 (wrap64 (x9_3 - t318)), .bool (decide ((wrap64 (x9_3 - t318)) > a0_1))] (0, 0) _ rfl (by refine blk_put (cs := #[.int .i64 (wrap64 (x9_3 - t318)), .bool false]) ?_ 1 _ rfl; refine blk_put (cs := #[.int .i64 0, .bool false]) ?_ 0 _ rfl; exact bk BK316) Try.underlying102 rfl (by kernel_rfl)) rfl ?_
     exact ⟨by first | rfl | (simp [errW_none, errW_some] <;> rfl) | (simp [*, errW_none, errW_some] <;> rfl), bw HB⟩
def spec_siRun.l0 : Nat → List Int → List (S102) → Int → List Int → Int → Int → Int → Int → Int → Int → Int → Bool → Option (List Int × (List (S102)) × Int)
 | 0, _, _, _, _, _, _, _, _, _, _, _, _ => none
 | k + 1, x9, x10, x11, x19, x20, x21, x320000, x320001, x320002, x320003, x321000, x321001 => if x21 < x20 then (if 0 ≤ x21 then (if x21 < (x19.length : Int) then ((spec_siTick.f k x320000 x320001 x320002 x320003 x321000 x321001 (rd x19 x21)).bind fun bt325 => (if x9.length < 17592186044416 then (if x10.length < 8796093022208 then (spec_siRun.l0 k (x9 ++ [bt325.2.2.1]) (x10 ++ [(⟨bt325.1, bt325.2.1⟩ : S102)]) (wrap64 (x11 + bt325.2.2.2)) x19 x20 (wrap64 (x21 + 1)) x320000 x320001 x320002 x320003 bt325.1 bt325.2.1) else (none)) else (none))) else (none)) else (none)) else (some (x9, x10, x11))
def spec_siRun.f (k : Nat) (a0_0 : Int) (a0_1 : Int) (a0_2 : Int) (a0_3 : Int) (a1_0 : Int) (a1_1 : Bool) (l2 : List Int) : Option (List Int × (List (S102)) × Int) := spec_siRun.l0 k ([] : List Int) (([(⟨a1_0, a1_1⟩ : S102)] : List (S102))) 0 l2 (l2.length : Int) 0 a0_0 a0_1 a0_2 a0_3 a1_0 a1_1
set_option maxHeartbeats 8000000 in
set_option maxRecDepth 100000 in
theorem spec_siRun.calls (k : Nat) (a0_0 : Int) (a0_1 : Int) (a0_2 : Int) (a0_3 : Int) (a1_0 : Int) (a1_1 : Bool) (A2 : Option Addr) (c2 : Nat) (l2 : List Int) (r1 : List Int) (r2 : List (S102)) (r3 : Int) (w : World) (hr2 : Kd.C (Kd.int .i64) w A2 l2.length l2) (hc2 : l2.length ≤ c2) (h : spec_siRun.f k a0_0 a0_1 a0_2 a0_3 a1_0 a1_1 l2 = some (r1, r2, r3)) :
  Calls Try.prog 211 #[.agg #[.int .i64 a0_0, .int .i64 a0_1, .int .i64 a0_2, .int .i64 a0_3], .agg #[.int .i64 a1_0, .bool a1_1], .slice A2 l2.length c2] w fun e w' => ∃ v0_ v1_ : Value, e = .returned (.tuple #[v0_, v1_, .int .i64 r3]) ∧ Kd.R (Kd.int .i64) 3 w' w.heap.size (fun _ => True) v0_ r1 ∧ Kd.R k102 102 w' w.heap.size (fun _ => True) v1_ r2 ∧ Below w.heap.size w w' := by
 have hu100 := Try.underlying100
 have hu102 := Try.underlying102
 have HR2 := Aside0.mk hr2
 have HC2 := Aside0.mk hc2
 clear hr2 hc2
 have HB := Aside0.mk (Below.refl w.heap.size w)
 have H : (spec_siRun.l0 k ([] : List Int) (([(⟨a1_0, a1_1⟩ : S102)] : List (S102))) 0 l2 (l2.length : Int) 0 a0_0 a0_1 a0_2 a0_3 a1_0 a1_1) = some (r1, r2, r3) := h
 clear h
 obtain ⟨y321, hy321⟩ : ∃ y_ : List (S102), y_ = (([(⟨a1_0, a1_1⟩ : S102)] : List (S102))) := ⟨_, rfl⟩
 replace H : (spec_siRun.l0 k ([] : List Int) y321 0 l2 (l2.length : Int) 0 a0_0 a0_1 a0_2 a0_3 a1_0 a1_1) = some (r1, r2, r3) := by first | (rw [hy321]; with_reducible exact H) | (have H2_ := (Option.bind_some _ _).symm.trans H; rw [hy321]; with_reducible exact H2_) | (have H2_ := (Option.bind_some _ _).symm.trans H; with_reducible exact H2_) | with_reducible exact H | (rw [hy321]; exact H) | exact H
 have Ny321 := Aside0.mk hy321
 clear hy321
 have H' := Aside0.mk H
 clear H
 go_enter Try.func211, Try.ntmps211
 go_wp2_with (first | ((with_reducible refine gate_dst (N := 3) rfl ?_); refine bx 3 #[.int .i64 a0_0, .int .i64 a0_1, .int .i64 a0_2, .int .i64 a0_3] 100 ?_; intro gb319 hg w4 hbox hb; have BK319 := Aside0.mk (hbox); have GW319 := ge HB hg; have GE319 := ge HB hg; replace HB := bs HB hb; clear hb hbox hg) | ((with_reducible refine gate_dst (N := 4) rfl ?_); refine bx 4 #[.int .i64 a1_0, .bool a1_1] 102 ?_; intro gb320 hg w5 hbox hb; have BK320 := Aside0.mk (hbox); have GW320 := ge HB hg; have GE320 := ge HB hg; replace HB := bs HB hb; have NB319_320 := nl BK319 hg; have NB320_319 := nr BK319 hg; replace BK319 := bb BK319 hb; clear hb hbox hg; have hnb6 := NB320_319.out; have hnc6 := NB319_320.out; have hcz7_0 := bc0 BK320; have hcz7_1 := bc1 BK320; have hfz7_0 := blk_frozen BK320.out 0; have hfz7_1 := blk_frozen BK320.out 1) | ((with_reducible refine gate_dst (N := 18) rfl ?_); refine Kd.R_lit k102 _ 102 ?hg (N := 18) ?hd (xs := ([(⟨a1_0, a1_1⟩ : S102)] : List (S102))) (inner := [.int .i64 a1_0, .bool a1_1]) (ok := fun _ => True) (okp := fun _ => True) ?hr ?hp (fun _ hk => hk) trivial (Below.refl _ _) (Nat.le_refl _) (by simp) ?_; (case hd => rfl); (case hg => rfl); (case hr => first | (go_simp; done) | (go_simp; rfl)); (case hp => exact (Reps.c2 (show Kd.M k102 _ _ _ (⟨a1_0, a1_1⟩ : S102) [.int .i64 a1_0, .bool a1_1] from (k102_mkM _ _ _ (⟨a1_0, a1_1⟩ : S102) )) (Reps.none _ _))); intro v322 w8 ho9 hb hg_ hnew_; clear hg_ hnew_; (first | rw [← Ny321.out] at ho9 | (simp only [Int.reduceToNat] at ho9; rw [← Ny321.out] at ho9)); have HO323 := Aside0.mk (Kd.R_lower (Kd.R_newB ho9 (g := gb320) (o := .cells #[.int .i64 a1_0, .bool a1_1] 102 (0, 0)) (bk BK320)) (below_size (bw HB))); replace BK319 := bb BK319 hb; replace BK320 := bb BK320 hb; replace HB := bs HB hb; clear hb ho9))
 try simp only [Act.put, List.setIfInBounds_toArray, List.set_cons_zero, List.set_cons_succ]
 go_loopg [9, 10, 11, 21] k (fun kq v9 v10 v11 v21 w' => ∃ (x9_1 : List Int) (x10_1 : List (S102)) (x11_1 : Int) (x21_1 : Int) (x321000_1 : Int) (x321001_1 : Bool), v11 = .int .i64 x11_1 ∧ v21 = .int .i64 x21_1 ∧ Aside0 (spec_siRun.l0 kq x9_1 x10_1 x11_1 l2 (l2.length : Int) x21_1 a0_0 a0_1 a0_2 a0_3 x321000_1 x321001_1 = some (r1, r2, r3)) ∧ Aside0 (kq ≤ k) ∧ Aside0 (Kd.R (Kd.int .i64) 3 w' w.heap.size (fun _ => True) v9 x9_1) ∧ Aside0 (Kd.R k102 102 w' w.heap.size (fun k_ => k_ ≠ gb320) v10 x10_1) ∧ Aside0 (w'.heap[gb319]? = some (.cells #[.int .i64 a0_0, .int .i64 a0_1, .int .i64 a0_2, .int .i64 a0_3] 100 (0, 0))) ∧ Aside0 (w'.heap[gb320]? = some (.cells #[.int .i64 x321000_1, .bool x321001_1] 102 (0, 0))) ∧ Aside0 (Below w.heap.size w w'))
 case atStart => exact ⟨(([] : List Int)), (y321), (0), (0), (a1_0), (a1_1), (by first | rfl | (simp; done) | (simp [*]; done)), (by first | rfl | (simp; done) | (simp [*]; done)), H', ⟨Nat.le_refl _⟩, ⟨by first | exact Kd.R_nil _ _ _ _ _ | exact Kd.N_nil _ _ _ _ _ | exact Kd.V_nil _ _ _ _ _ | exact Kd.Q_nil _ _ _ _ _ | exact Kd.S_nil _ _ _ _ _⟩, ⟨by exact Kd.R_mono HO323.out (fun _ hk => hk.2)⟩, ⟨bk BK319⟩, ⟨bk BK320⟩, ⟨bw HB⟩⟩
 case round =>
  clear H'
  (try clear c2); (try clear p2); (try clear c6); (try clear hcz7_0); (try clear hcz7_1); (try clear hfz7_0); (try clear hfz7_1)
  obtain ⟨x9_1, x10_1, x11_1, x21_1, x321000_1, x321001_1, rfl, rfl, HA, HK1, HO_9, HO_10, BK319, BK320, HB⟩ := hrel
  cases gk with
  | zero => exact absurd HA.out (by simp [spec_siRun.l0])
  | succ k1 =>
   have H := HA.out
   clear HA
   simp only [spec_siRun.l0] at H
   by_cases c10 : x21_1 < (l2.length : Int)
   rotate_left
   ·rw [if_neg c10] at H
    have c10b0 : decide (x21_1 < (l2.length : Int)) = false := decide_eq_false c10
    clear c10
    simp only [Option.some.injEq, Prod.mk.injEq] at H
    obtain ⟨rfl, rfl, rfl⟩ := H
    go_wp2
    go_ret3
    exact ⟨_, _, by first | rfl | (simp [errW_none, errW_some] <;> rfl) | (simp [*, errW_none, errW_some] <;> rfl), rk HO_9, by exact Kd.R_mono HO_10.out (fun _ hk => trivial), bw HB⟩
   rw [if_pos c10] at H
   have c10b0 : decide (x21_1 < (l2.length : Int)) = true := decide_eq_true c10
   clear c10
   by_cases c11 : 0 ≤ x21_1
   rotate_left
   ·rw [if_neg c11] at H
    exact absurd H (by simp)
   rw [if_pos c11] at H
   have c11b0 : decide (0 ≤ x21_1) = true := decide_eq_true c11
   clear c11
   by_cases c12 : x21_1 < (l2.length : Int)
   rotate_left
   ·rw [if_neg c12] at H
    exact absurd H (by simp)
   rw [if_pos c12] at H
   have c12b0 : decide (x21_1 < (l2.length : Int)) = true := decide_eq_true c12
   clear c12
   replace H := Option.bind_eq_some_iff.mp H
   obtain ⟨⟨t325, t326, t327, t328⟩, A130, H⟩ := H
   (try dsimp only at H)
   have A13 := Aside0.mk A130
   clear A130
   by_cases c14 : x9_1.length < 17592186044416
   rotate_left
   ·rw [if_neg c14] at H
    exact absurd H (by simp)
   rw [if_pos c14] at H
   have LMc14 := Aside0.mk c14
   clear c14
   obtain ⟨y330, hy330⟩ : ∃ y_ : List Int, y_ = (x9_1 ++ [t327]) := ⟨_, rfl⟩
   replace H : (if x10_1.length < 8796093022208 then (spec_siRun.l0 k1 y330 (x10_1 ++ [(⟨t325, t326⟩ : S102)]) (wrap64 (x11_1 + t328)) l2 (l2.length : Int) (wrap64 (x21_1 + 1)) a0_0 a0_1 a0_2 a0_3 t325 t326) else (none)) = some (r1, r2, r3) := by first | (rw [hy330]; with_reducible exact H) | (have H2_ := (Option.bind_some _ _).symm.trans H; rw [hy330]; with_reducible exact H2_) | (have H2_ := (Option.bind_some _ _).symm.trans H; with_reducible exact H2_) | with_reducible exact H | (rw [hy330]; exact H) | exact H
   have Ny330 := Aside0.mk hy330
   clear hy330
   by_cases c15 : x10_1.length < 8796093022208
   rotate_left
   ·rw [if_neg c15] at H
    exact absurd H (by simp)
   rw [if_pos c15] at H
   have LMc15 := Aside0.mk c15
   clear c15
   obtain ⟨y333, hy333⟩ : ∃ y_ : List (S102), y_ = (x10_1 ++ [(⟨t325, t326⟩ : S102)]) := ⟨_, rfl⟩
   replace H : (spec_siRun.l0 k1 y330 y333 (wrap64 (x11_1 + t328)) l2 (l2.length : Int) (wrap64 (x21_1 + 1)) a0_0 a0_1 a0_2 a0_3 t325 t326) = some (r1, r2, r3) := by first | (rw [hy333]; with_reducible exact H) | (have H2_ := (Option.bind_some _ _).symm.trans H; rw [hy333]; with_reducible exact H2_) | (have H2_ := (Option.bind_some _ _).symm.trans H; with_reducible exact H2_) | with_reducible exact H | (rw [hy333]; exact H) | exact H
   have Ny333 := Aside0.mk hy333
   clear hy333
   have H' := Aside0.mk H
   clear H
   have p324 : 0 ≤ (x21_1 : Int) := of_decide_eq_true ‹_›
   have q324 : x21_1 < (l2.length : Int) := of_decide_eq_true ‹_›
   obtain ⟨ad324, e324, hx324_0⟩ := Kd.at_int HR2.out x21_1 p324 q324
   cases e324
   replace hx324_0 := (HB.out.cell (World.block_lt_of_cell? w _ hx324_0)).trans hx324_0
   replace p324 := eq_true p324
   replace q324 := eq_true q324
   have hnb16 := NB319_320.out
   have hnc16 := NB320_319.out
   have hcz17_0 := bc0 BK319
   have hcz17_1 := bc1 BK319
   have hcz17_2 := bc2 BK319
   have hcz17_3 := bc3 BK319
   have hfz17_0 := blk_frozen BK319.out 0
   have hfz17_1 := blk_frozen BK319.out 1
   have hfz17_2 := blk_frozen BK319.out 2
   have hfz17_3 := blk_frozen BK319.out 3
   have hcz18_0 := bc0 BK320
   have hcz18_1 := bc1 BK320
   have hfz18_0 := blk_frozen BK320.out 0
   have hfz18_1 := blk_frozen BK320.out 1
   go_wp2_with (first | ((with_reducible refine gate_callee (f := 217) rfl ?_); refine gl 29 Try.func217 #[.agg #[.int .i64 a0_0, .int .i64 a0_1, .int .i64 a0_2, .int .i64 a0_3], .agg #[.int .i64 x321000_1, .bool x321001_1], .int .i64 (rd l2 x21_1)] ?_; (with_reducible refine (spec_siTick.calls k1 a0_0 a0_1 a0_2 a0_3 x321000_1 x321001_1 (rd l2 x21_1) t325 t326 t327 t328 _ A13.out).mono ?_); rintro e w19 ⟨rfl, hb⟩; refine ⟨_, rfl, ?_⟩; replace HO_9 := rb HO_9 hb; replace HO_10 := rb HO_10 hb; replace BK319 := bb BK319 hb; replace BK320 := bb BK320 hb; replace HB := bs HB hb; (try clear hb)) | ((with_reducible refine gate_dst (N := 14) rfl ?_); refine bx 14 #[.int .i64 0, .bool false] 102 ?_; intro gb329 hg w20 hbox hb; replace HO_9 := rb HO_9 hb; replace HO_10 := Aside0.mk (Kd.R_below (Kd.R_elderB (rk HO_10) gb329 (Nat.le_of_eq hg.symm)) hb); have BK329 := Aside0.mk (hbox); have GW329 := ge HB hg; have GE329 := ge HB hg; replace HB := bs HB hb; have NB319_329 := nl BK319 hg; have NB329_319 := nr BK319 hg; replace BK319 := bb BK319 hb; have NB320_329 := nl BK320 hg; have NB329_320 := nr BK320 hg; replace BK320 := bb BK320 hb; clear hb hbox hg; have hnb21 := NB329_319.out; have hnc21 := NB319_329.out; have hnb22 := NB329_320.out; have hnc22 := NB320_329.out; have hcz23_0 := bc0 BK329; have hcz23_1 := bc1 BK329; have hfz23_0 := blk_frozen BK329.out 0; have hfz23_1 := blk_frozen BK329.out 1; have hcz24_0 := bc0 BK320; have hcz24_1 := bc1 BK320; have hfz24_0 := blk_frozen BK320.out 0; have hfz24_1 := blk_frozen BK320.out 1) | ((with_reducible refine gate_builtin (b := .append) (xs := #[.tmp 34, .tmp 36]) rfl ?_); at_builtin; refine Kd.R_append (Kd.int .i64) (w0 := w) w.heap.size rfl (.tmp 34) (.tmp 36) 34 3 (.int .i64 0) 8 rfl Try.underlying34 info3 rfl (by decide) (by omega) u9 x9_1 t327 [.int .i64 t327] (fun _ => True) (fun _ => False) rfl (by first | (go_simp; done) | (go_simp; rfl)) ?aP (fun _ hk => hk.elim) ?aF ?aO ?aB ?aS ?aL ?_; (case aP => exact rfl); (case aB => exact (bw HB)); (case aF => exact (fun _ _ => trivial)); (case aO => exact (by exact Kd.R_mono (Kd.R_far (p := ⟨gb320, 1, none⟩) (Kd.R_far (p := ⟨gb320, 0, none⟩) (Kd.R_far (p := ⟨gb329, 1, none⟩) (Kd.R_far (p := ⟨gb329, 0, none⟩) (Kd.R_types (Kd.R_types HO_9.out BK329.out (by decide)) BK320.out (by decide)) (fun _ hk => hk.1.2) (.int .i64 t325)) (fun _ hk => hk.1.2) (.bool t326)) (fun _ hk => hk.2) (.int .i64 t325)) (fun _ hk => hk.2) (.bool t326)) (fun _ hk => trivial))); (case aS => exact (below_size (bw HB))); (case aL => have := LMc14.out; omega); intro v331 w25 ho hb hg hat; rw [← Ny330.out] at ho; have n0_ := Aside0.mk (Kd.R_over' (by exact (Kd.R_mono (Kd.R_mono (Kd.R_far (p := ⟨gb320, 1, none⟩) (Kd.R_far (p := ⟨gb320, 0, none⟩) (Kd.R_far (p := ⟨gb329, 1, none⟩) (Kd.R_far (p := ⟨gb329, 0, none⟩) (Kd.R_mono (Kd.R_mono HO_10.out (fun k_ hk => (⟨hk, hk.2⟩ : _ ∧ k_ ≠ gb329))) (fun k_ hk => (⟨hk, hk.1.1⟩ : _ ∧ k_ ≠ gb320))) (fun _ hk => hk.1.2) (.int .i64 t325)) (fun _ hk => hk.1.2) (.bool t326)) (fun _ hk => hk.2) (.int .i64 t325)) (fun _ hk => hk.2) (.bool t326)) (fun _ h_ => h_.1)) (fun _ h_ => h_.1))) (Kd.R_typed (by exact (Kd.R_mono (Kd.R_mono (Kd.R_far (p := ⟨gb320, 1, none⟩) (Kd.R_far (p := ⟨gb320, 0, none⟩) (Kd.R_far (p := ⟨gb329, 1, none⟩) (Kd.R_far (p := ⟨gb329, 0, none⟩) (Kd.R_types (Kd.R_types HO_9.out BK329.out (by decide)) BK320.out (by decide)) (fun _ hk => hk.1.2) (.int .i64 t325)) (fun _ hk => hk.1.2) (.bool t326)) (fun _ hk => hk.2) (.int .i64 t325)) (fun _ hk => hk.2) (.bool t326)) (fun _ h_ => h_.1)) (fun _ h_ => h_.1)))) (by decide) hg); have n1_ := Aside0.mk (blk_grown (g := gb319) (o := .cells #[.int .i64 a0_0, .int .i64 a0_1, .int .i64 a0_2, .int .i64 a0_3] 100 (0, 0)) (bk BK319) hg (Kd.R_ne HO_9.out BK319.out (by decide))); have n2_ := Aside0.mk (blk_grown (g := gb320) (o := .cells #[.int .i64 t325, .bool t326] 102 (0, 0)) (by refine blk_put (cs := #[.int .i64 t325, .bool x321001_1]) ?_ 1 _ rfl; refine blk_put (cs := #[.int .i64 x321000_1, .bool x321001_1]) ?_ 0 _ rfl; exact bk BK320) hg (Kd.R_ne HO_9.out BK320.out (by decide))); have n3_ := Aside0.mk (blk_grown (g := gb329) (o := .cells #[.int .i64 t325, .bool t326] 102 (0, 0)) (by refine blk_far ?_ NB329_320.out _; refine blk_far ?_ NB329_320.out _; refine blk_put (cs := #[.int .i64 t325, .bool false]) ?_ 1 _ rfl; refine blk_put (cs := #[.int .i64 0, .bool false]) ?_ 0 _ rfl; exact bk BK329) hg (Kd.R_ne HO_9.out BK329.out (by decide))); have n4_ := Aside0.mk (hb); have n5_ := Aside0.mk (ho); clear HO_10; clear BK319; clear BK320; clear BK329; clear HB; clear HO_9; have HO_10 := n0_; have BK319 := n1_; have BK320 := n2_; have BK329 := n3_; have HB := n4_; have HO332 := n5_; clear n0_ n1_ n2_ n3_ n4_ n5_; clear ho hb hg hat; have hcz26_0 := bc0 BK320; have hcz26_1 := bc1 BK320; have hfz26_0 := blk_frozen BK320.out 0; have hfz26_1 := blk_frozen BK320.out 1) | ((with_reducible refine gate_builtin (b := .append) (xs := #[.tmp 38, .tmp 40]) rfl ?_); at_builtin; refine Kd.R_append k102 (w0 := w) w.heap.size rfl (.tmp 38) (.tmp 40) 106 102 (.agg #[(.int .i64 0), (.bool false)]) 16 rfl Try.underlying106 info102 rfl (by decide) (by omega) u10 x10_1 (⟨t325, t326⟩ : S102) [.int .i64 t325, .bool t326] (fun k_ => k_ ≠ gb320 ∧ k_ ≠ gb329) (fun _ => False) rfl rfl ?aP (fun _ hk => hk.elim) ?aF ?aO ?aB ?aS ?aL ?_; (case aP => exact k102_mkM _ _ _ (⟨t325, t326⟩ : S102)); (case aB => exact (bw HB)); (case aF => exact (fun k_ hk => ⟨Kd.freshB (g := gb320) (o := .cells #[.int .i64 t325, .bool t326] 102 (0, 0)) (bk BK320) k_ hk, Kd.freshB (g := gb329) (o := .cells #[.int .i64 t325, .bool t326] 102 (0, 0)) (bk BK329) k_ hk⟩)); (case aO => exact (rk HO_10)); (case aS => exact (below_size (bw HB))); (case aL => have := LMc15.out; omega); intro v334 w27 ho hb hg hat; rw [← Ny333.out] at ho; have n0_ := Aside0.mk (blk_grown (g := gb319) (o := .cells #[.int .i64 a0_0, .int .i64 a0_1, .int .i64 a0_2, .int .i64 a0_3] 100 (0, 0)) (bk BK319) hg (Kd.R_ne HO_10.out BK319.out (by decide))); have n1_ := Aside0.mk (blk_grown (g := gb320) (o := .cells #[.int .i64 t325, .bool t326] 102 (0, 0)) (bk BK320) hg (Kd.R_away HO_10.out (fun _ hk => hk.1))); have n2_ := Aside0.mk (blk_grown (g := gb329) (o := .cells #[.int .i64 t325, .bool t326] 102 (0, 0)) (bk BK329) hg (Kd.R_away HO_10.out (fun _ hk => hk.2))); have n3_ := Aside0.mk (Kd.R_over' (rk HO332) (Kd.R_typed (rk HO_10)) (by decide) hg); have n4_ := Aside0.mk (hb); have n5_ := Aside0.mk (ho); clear BK319; clear BK320; clear BK329; clear HO332; clear HB; clear HO_10; have BK319 := n0_; have BK320 := n1_; have BK329 := n2_; have HO332 := n3_; have HB := n4_; have HO335 := n5_; clear n0_ n1_ n2_ n3_ n4_ n5_; clear ho hb hg hat))
   go_roundg k1
   case measure => have := HK1.out; omega
   case rel => exact ⟨(y330), (y333), (wrap64 (x11_1 + t328)), (wrap64 (x21_1 + 1)), (t325), (t326), (by first | rfl | (simp; done) | (simp [*]; done)), (by first | rfl | (simp; done) | (simp [*]; done)), H', ⟨by have := HK1.out; omega⟩, ⟨rk HO332⟩, ⟨by exact Kd.R_mono HO335.out (fun _ hk => hk.1)⟩, ⟨bk BK319⟩, ⟨bk BK320⟩, ⟨bw HB⟩⟩
def spec_OutsOf.f (k : Nat) (a0_0 : Int) (a0_1 : Int) (a0_2 : Int) (a0_3 : Int) (a1_0 : Int) (a1_1 : Bool) (l2 : List Int) : Option (List Int × Bool) := (spec_siAsked.f k a0_0 a0_1 a0_2 a0_3 a1_0 a1_1 l2).bind fun t338 => (if t338 = true then ((spec_siRun.f k a0_0 a0_1 a0_2 a0_3 a1_0 a1_1 l2).bind fun bt339 => (some (bt339.1, true))) else (some (([] : List Int), false)))
set_option maxHeartbeats 8000000 in
set_option maxRecDepth 100000 in
theorem spec_OutsOf.calls (k : Nat) (a0_0 : Int) (a0_1 : Int) (a0_2 : Int) (a0_3 : Int) (a1_0 : Int) (a1_1 : Bool) (A2 : Option Addr) (c2 : Nat) (l2 : List Int) (r1 : List Int) (r2 : Bool) (w : World) (hr2 : Kd.C (Kd.int .i64) w A2 l2.length l2) (hc2 : l2.length ≤ c2) (h : spec_OutsOf.f k a0_0 a0_1 a0_2 a0_3 a1_0 a1_1 l2 = some (r1, r2)) :
  Calls Try.prog 100 #[.agg #[.int .i64 a0_0, .int .i64 a0_1, .int .i64 a0_2, .int .i64 a0_3], .agg #[.int .i64 a1_0, .bool a1_1], .slice A2 l2.length c2] w fun e w' => ∃ v0_ : Value, e = .returned (.tuple #[v0_, .bool r2]) ∧ Kd.R (Kd.int .i64) 3 w' w.heap.size (fun _ => True) v0_ r1 ∧ Below w.heap.size w w' := by
 have hu100 := Try.underlying100
 have hu102 := Try.underlying102
 have HR2 := Aside0.mk hr2
 have HC2 := Aside0.mk hc2
 clear hr2 hc2
 have HB := Aside0.mk (Below.refl w.heap.size w)
 have H : ((spec_siAsked.f k a0_0 a0_1 a0_2 a0_3 a1_0 a1_1 l2).bind fun t338 => (if t338 = true then ((spec_siRun.f k a0_0 a0_1 a0_2 a0_3 a1_0 a1_1 l2).bind fun bt339 => (some (bt339.1, true))) else (some (([] : List Int), false)))) = some (r1, r2) := h
 clear h
 replace H := Option.bind_eq_some_iff.mp H
 obtain ⟨t338, A40, H⟩ := H
 (try dsimp only at H)
 have A4 := Aside0.mk A40
 clear A40
 by_cases c5 : t338 = true
 rotate_left
 ·replace c5 := Bool.eq_false_iff.mpr c5
  subst c5
  have H1 : (some (([] : List Int), false)) = some (r1, r2) := by rw [if_neg (show ¬ (false = true) by decide)] at H; exact H
  clear H
  have H := H1
  clear H1
  simp only [Option.some.injEq, Prod.mk.injEq] at H
  obtain ⟨rfl, rfl⟩ := H
  go_enter Try.func100, Try.ntmps100
  go_wp2_with (first | ((with_reducible refine gate_dst (N := 3) rfl ?_); refine bx 3 #[.int .i64 a0_0, .int .i64 a0_1, .int .i64 a0_2, .int .i64 a0_3] 100 ?_; intro gb336 hg w16 hbox hb; have BK336 := Aside0.mk (hbox); have GW336 := ge HB hg; have GE336 := ge HB hg; replace HB := bs HB hb; clear hb hbox hg) | ((with_reducible refine gate_dst (N := 4) rfl ?_); refine bx 4 #[.int .i64 a1_0, .bool a1_1] 102 ?_; intro gb337 hg w17 hbox hb; have BK337 := Aside0.mk (hbox); have GW337 := ge HB hg; have GE337 := ge HB hg; replace HB := bs HB hb; have NB336_337 := nl BK336 hg; have NB337_336 := nr BK336 hg; replace BK336 := bb BK336 hb; clear hb hbox hg; have hnb18 := NB336_337.out; have hnc18 := NB337_336.out; have hcz19_0 := bc0 BK336; have hcz19_1 := bc1 BK336; have hcz19_2 := bc2 BK336; have hcz19_3 := bc3 BK336; have hfz19_0 := blk_frozen BK336.out 0; have hfz19_1 := blk_frozen BK336.out 1; have hfz19_2 := blk_frozen BK336.out 2; have hfz19_3 := blk_frozen BK336.out 3; have hcz20_0 := bc0 BK337; have hcz20_1 := bc1 BK337; have hfz20_0 := blk_frozen BK337.out 0; have hfz20_1 := blk_frozen BK337.out 1) | ((with_reducible refine gate_callee (f := 210) rfl ?_); refine gl 14 Try.func210 #[.agg #[.int .i64 a0_0, .int .i64 a0_1, .int .i64 a0_2, .int .i64 a0_3], .agg #[.int .i64 a1_0, .bool a1_1], .slice A2 l2.length c2] ?_; (with_reducible refine (spec_siAsked.calls k a0_0 a0_1 a0_2 a0_3 a1_0 a1_1 _ _ l2 false _ ?side1 ?side2 A4.out).mono ?_); (case side1 => exact ck HR2 HB); (case side2 => exact HC2.out); rintro e w21 ⟨rfl, hb⟩; refine ⟨_, rfl, ?_⟩; replace BK336 := bb BK336 hb; replace BK337 := bb BK337 hb; replace HB := bs HB hb; (try clear hb)))
  go_ret2
  exact ⟨_, by first | rfl | (simp [errW_none, errW_some] <;> rfl) | (simp [*, errW_none, errW_some] <;> rfl), by first | exact Kd.R_nil _ _ _ _ _ | exact Kd.N_nil _ _ _ _ _ | exact Kd.V_nil _ _ _ _ _ | exact Kd.Q_nil _ _ _ _ _ | exact Kd.S_nil _ _ _ _ _, bw HB⟩
 subst c5
 have H1 : ((spec_siRun.f k a0_0 a0_1 a0_2 a0_3 a1_0 a1_1 l2).bind fun bt339 => (some (bt339.1, true))) = some (r1, r2) := by rw [if_pos rfl] at H; exact H
 clear H
 have H := H1
 clear H1
 replace H := Option.bind_eq_some_iff.mp H
 obtain ⟨⟨t339, t342, t345⟩, A60, H⟩ := H
 (try dsimp only at H)
 have A6 := Aside0.mk A60
 clear A60
 simp only [Option.some.injEq, Prod.mk.injEq] at H
 obtain ⟨rfl, rfl⟩ := H
 go_enter Try.func100, Try.ntmps100
 go_wp2_with (first | ((with_reducible refine gate_dst (N := 3) rfl ?_); refine bx 3 #[.int .i64 a0_0, .int .i64 a0_1, .int .i64 a0_2, .int .i64 a0_3] 100 ?_; intro gb336 hg w7 hbox hb; have BK336 := Aside0.mk (hbox); have GW336 := ge HB hg; have GE336 := ge HB hg; replace HB := bs HB hb; clear hb hbox hg) | ((with_reducible refine gate_dst (N := 4) rfl ?_); refine bx 4 #[.int .i64 a1_0, .bool a1_1] 102 ?_; intro gb337 hg w8 hbox hb; have BK337 := Aside0.mk (hbox); have GW337 := ge HB hg; have GE337 := ge HB hg; replace HB := bs HB hb; have NB336_337 := nl BK336 hg; have NB337_336 := nr BK336 hg; replace BK336 := bb BK336 hb; clear hb hbox hg; have hnb9 := NB336_337.out; have hnc9 := NB337_336.out; have hcz10_0 := bc0 BK336; have hcz10_1 := bc1 BK336; have hcz10_2 := bc2 BK336; have hcz10_3 := bc3 BK336; have hfz10_0 := blk_frozen BK336.out 0; have hfz10_1 := blk_frozen BK336.out 1; have hfz10_2 := blk_frozen BK336.out 2; have hfz10_3 := blk_frozen BK336.out 3; have hcz11_0 := bc0 BK337; have hcz11_1 := bc1 BK337; have hfz11_0 := blk_frozen BK337.out 0; have hfz11_1 := blk_frozen BK337.out 1) | ((with_reducible refine gate_callee (f := 210) rfl ?_); refine gl 14 Try.func210 #[.agg #[.int .i64 a0_0, .int .i64 a0_1, .int .i64 a0_2, .int .i64 a0_3], .agg #[.int .i64 a1_0, .bool a1_1], .slice A2 l2.length c2] ?_; (with_reducible refine (spec_siAsked.calls k a0_0 a0_1 a0_2 a0_3 a1_0 a1_1 _ _ l2 true _ ?side1 ?side2 A4.out).mono ?_); (case side1 => exact ck HR2 HB); (case side2 => exact HC2.out); rintro e w12 ⟨rfl, hb⟩; refine ⟨_, rfl, ?_⟩; replace BK336 := bb BK336 hb; replace BK337 := bb BK337 hb; replace HB := bs HB hb; (try clear hb); have hcz13_0 := bc0 BK336; have hcz13_1 := bc1 BK336; have hcz13_2 := bc2 BK336; have hcz13_3 := bc3 BK336; have hfz13_0 := blk_frozen BK336.out 0; have hfz13_1 := blk_frozen BK336.out 1; have hfz13_2 := blk_frozen BK336.out 2; have hfz13_3 := blk_frozen BK336.out 3; have hcz14_0 := bc0 BK337; have hcz14_1 := bc1 BK337; have hfz14_0 := blk_frozen BK337.out 0; have hfz14_1 := blk_frozen BK337.out 1) | ((with_reducible refine gate_callee (f := 211) rfl ?_); refine gl 20 Try.func211 #[.agg #[.int .i64 a0_0, .int .i64 a0_1, .int .i64 a0_2, .int .i64 a0_3], .agg #[.int .i64 a1_0, .bool a1_1], .slice A2 l2.length c2] ?_; (with_reducible refine (spec_siRun.calls k a0_0 a0_1 a0_2 a0_3 a1_0 a1_1 _ _ l2 t339 t342 t345 _ ?side1 ?side2 A6.out).mono ?_); (case side1 => exact ck HR2 HB); (case side2 => exact HC2.out); rintro e w15 ⟨v340, v343, rfl, ho0, ho1, hb⟩; refine ⟨_, rfl, ?_⟩; have HO341 := lo ho0 HB; have HO344 := Aside0.mk (Kd.R_lower (Kd.R_newB ho1 (g := gb337) (o := .cells #[.int .i64 a1_0, .bool a1_1] 102 (0, 0)) (bk BK337)) (below_size (bw HB))); replace BK336 := bb BK336 hb; replace BK337 := bb BK337 hb; replace HB := bs HB hb; (try clear hb); (try clear ho0); (try clear ho1)))
 go_ret2
 exact ⟨_, by first | rfl | (simp [errW_none, errW_some] <;> rfl) | (simp [*, errW_none, errW_some] <;> rfl), rk HO341, bw HB⟩
def impl_LevelsOf.f (k : Nat) (a0_0 : Int) (a0_1 : Int) (a0_2 : Int) (a0_3 : Int) (a1_0 : Int) (a1_1 : Bool) (l2 : List Int) : Option ((List (S102)) × Bool) := (impl_isLevel.f a0_0 a0_1 a0_2 a0_3 a1_0 a1_1).bind fun t348 => (if t348 = true then ((impl_areInflows.f l2).bind fun t349 => (if t349 = true then ((impl_Siphon_run.f k a0_0 a0_1 a0_2 a0_3 a1_0 a1_1 l2).bind fun bt350 => (some (bt350.1, true))) else (some (([] : List (S102)), false)))) else (some (([] : List (S102)), false)))
set_option maxHeartbeats 8000000 in
set_option maxRecDepth 100000 in
theorem impl_LevelsOf.calls (k : Nat) (a0_0 : Int) (a0_1 : Int) (a0_2 : Int) (a0_3 : Int) (a1_0 : Int) (a1_1 : Bool) (A2 : Option Addr) (c2 : Nat) (l2 : List Int) (r1 : List (S102)) (r2 : Bool) (w : World) (hr2 : Kd.C (Kd.int .i64) w A2 l2.length l2) (hc2 : l2.length ≤ c2) (h : impl_LevelsOf.f k a0_0 a0_1 a0_2 a0_3 a1_0 a1_1 l2 = some (r1, r2)) :
  Calls Try.prog 101 #[.agg #[.int .i64 a0_0, .int .i64 a0_1, .int .i64 a0_2, .int .i64 a0_3], .agg #[.int .i64 a1_0, .bool a1_1], .slice A2 l2.length c2] w fun e w' => ∃ v0_ : Value, e = .returned (.tuple #[v0_, .bool r2]) ∧ Kd.R k102 102 w' w.heap.size (fun _ => True) v0_ r1 ∧ Below w.heap.size w w' := by
 have hu100 := Try.underlying100
 have hu102 := Try.underlying102
 have hfd192_0 : ∀ (x0 x1 x2 : Value) (W : World), (Instr.field 192 (.agg #[x0, x1, x2]) 0).run Try.prog W = .ok (x0) W := fun x0 x1 x2 W => by rfl
 have HR2 := Aside0.mk hr2
 have HC2 := Aside0.mk hc2
 clear hr2 hc2
 have HB := Aside0.mk (Below.refl w.heap.size w)
 have H : ((impl_isLevel.f a0_0 a0_1 a0_2 a0_3 a1_0 a1_1).bind fun t348 => (if t348 = true then ((impl_areInflows.f l2).bind fun t349 => (if t349 = true then ((impl_Siphon_run.f k a0_0 a0_1 a0_2 a0_3 a1_0 a1_1 l2).bind fun bt350 => (some (bt350.1, true))) else (some (([] : List (S102)), false)))) else (some (([] : List (S102)), false)))) = some (r1, r2) := h
 clear h
 replace H := Option.bind_eq_some_iff.mp H
 obtain ⟨t348, A40, H⟩ := H
 (try dsimp only at H)
 have A4 := Aside0.mk A40
 clear A40
 by_cases c5 : t348 = true
 rotate_left
 ·replace c5 := Bool.eq_false_iff.mpr c5
  subst c5
  have H1 : (some (([] : List (S102)), false)) = some (r1, r2) := by rw [if_neg (show ¬ (false = true) by decide)] at H; exact H
  clear H
  have H := H1
  clear H1
  simp only [Option.some.injEq, Prod.mk.injEq] at H
  obtain ⟨rfl, rfl⟩ := H
  go_enter Try.func101, Try.ntmps101
  go_wp2_with (first | ((with_reducible refine gate_dst (N := 3) rfl ?_); refine bx 3 #[.int .i64 a0_0, .int .i64 a0_1, .int .i64 a0_2, .int .i64 a0_3] 100 ?_; intro gb346 hg w26 hbox hb; have BK346 := Aside0.mk (hbox); have GW346 := ge HB hg; have GE346 := ge HB hg; replace HB := bs HB hb; clear hb hbox hg) | ((with_reducible refine gate_dst (N := 4) rfl ?_); refine bx 4 #[.int .i64 a1_0, .bool a1_1] 102 ?_; intro gb347 hg w27 hbox hb; have BK347 := Aside0.mk (hbox); have GW347 := ge HB hg; have GE347 := ge HB hg; replace HB := bs HB hb; have NB346_347 := nl BK346 hg; have NB347_346 := nr BK346 hg; replace BK346 := bb BK346 hb; clear hb hbox hg; have hnb28 := NB346_347.out; have hnc28 := NB347_346.out; have hcz29_0 := bc0 BK346; have hcz29_1 := bc1 BK346; have hcz29_2 := bc2 BK346; have hcz29_3 := bc3 BK346; have hfz29_0 := blk_frozen BK346.out 0; have hfz29_1 := blk_frozen BK346.out 1; have hfz29_2 := blk_frozen BK346.out 2; have hfz29_3 := blk_frozen BK346.out 3; have hcz30_0 := bc0 BK347; have hcz30_1 := bc1 BK347; have hfz30_0 := blk_frozen BK347.out 0; have hfz30_1 := blk_frozen BK347.out 1) | ((with_reducible refine gate_callee (f := 207) rfl ?_); refine gl 10 Try.func207 #[.agg #[.int .i64 a0_0, .int .i64 a0_1, .int .i64 a0_2, .int .i64 a0_3], .agg #[.int .i64 a1_0, .bool a1_1]] ?_; (with_reducible refine (impl_isLevel.calls a0_0 a0_1 a0_2 a0_3 a1_0 a1_1 false _ A4.out).mono ?_); rintro e w31 ⟨rfl, hb⟩; refine ⟨_, rfl, ?_⟩; replace BK346 := bb BK346 hb; replace BK347 := bb BK347 hb; replace HB := bs HB hb; (try clear hb)))
  go_ret2
  exact ⟨_, by first | rfl | (simp [errW_none, errW_some] <;> rfl) | (simp [*, errW_none, errW_some] <;> rfl), by first | exact Kd.R_nil _ _ _ _ _ | exact Kd.N_nil _ _ _ _ _ | exact Kd.V_nil _ _ _ _ _ | exact Kd.Q_nil _ _ _ _ _ | exact Kd.S_nil _ _ _ _ _, bw HB⟩
 subst c5
 have H1 : ((impl_areInflows.f l2).bind fun t349 => (if t349 = true then ((impl_Siphon_run.f k a0_0 a0_1 a0_2 a0_3 a1_0 a1_1 l2).bind fun bt350 => (some (bt350.1, true))) else (some (([] : List (S102)), false)))) = some (r1, r2) := by rw [if_pos rfl] at H; exact H
 clear H
 have H := H1
 clear H1
 replace H := Option.bind_eq_some_iff.mp H
 obtain ⟨t349, A60, H⟩ := H
 (try dsimp only at H)
 have A6 := Aside0.mk A60
 clear A60
 by_cases c7 : t349 = true
 rotate_left
 ·replace c7 := Bool.eq_false_iff.mpr c7
  subst c7
  have H1 : (some (([] : List (S102)), false)) = some (r1, r2) := by rw [if_neg (show ¬ (false = true) by decide)] at H; exact H
  clear H
  have H := H1
  clear H1
  simp only [Option.some.injEq, Prod.mk.injEq] at H
  obtain ⟨rfl, rfl⟩ := H
  go_enter Try.func101, Try.ntmps101
  go_wp2_with (first | ((with_reducible refine gate_dst (N := 3) rfl ?_); refine bx 3 #[.int .i64 a0_0, .int .i64 a0_1, .int .i64 a0_2, .int .i64 a0_3] 100 ?_; intro gb346 hg w19 hbox hb; have BK346 := Aside0.mk (hbox); have GW346 := ge HB hg; have GE346 := ge HB hg; replace HB := bs HB hb; clear hb hbox hg) | ((with_reducible refine gate_dst (N := 4) rfl ?_); refine bx 4 #[.int .i64 a1_0, .bool a1_1] 102 ?_; intro gb347 hg w20 hbox hb; have BK347 := Aside0.mk (hbox); have GW347 := ge HB hg; have GE347 := ge HB hg; replace HB := bs HB hb; have NB346_347 := nl BK346 hg; have NB347_346 := nr BK346 hg; replace BK346 := bb BK346 hb; clear hb hbox hg; have hnb21 := NB346_347.out; have hnc21 := NB347_346.out; have hcz22_0 := bc0 BK346; have hcz22_1 := bc1 BK346; have hcz22_2 := bc2 BK346; have hcz22_3 := bc3 BK346; have hfz22_0 := blk_frozen BK346.out 0; have hfz22_1 := blk_frozen BK346.out 1; have hfz22_2 := blk_frozen BK346.out 2; have hfz22_3 := blk_frozen BK346.out 3; have hcz23_0 := bc0 BK347; have hcz23_1 := bc1 BK347; have hfz23_0 := blk_frozen BK347.out 0; have hfz23_1 := blk_frozen BK347.out 1) | ((with_reducible refine gate_callee (f := 207) rfl ?_); refine gl 10 Try.func207 #[.agg #[.int .i64 a0_0, .int .i64 a0_1, .int .i64 a0_2, .int .i64 a0_3], .agg #[.int .i64 a1_0, .bool a1_1]] ?_; (with_reducible refine (impl_isLevel.calls a0_0 a0_1 a0_2 a0_3 a1_0 a1_1 true _ A4.out).mono ?_); rintro e w24 ⟨rfl, hb⟩; refine ⟨_, rfl, ?_⟩; replace BK346 := bb BK346 hb; replace BK347 := bb BK347 hb; replace HB := bs HB hb; (try clear hb)) | (go_at_call 208; (with_reducible refine (impl_areInflows.calls _ _ l2 false _ ?side1 ?side2 A6.out).mono ?_); (case side1 => exact ck HR2 HB); (case side2 => exact HC2.out); rintro e w25 ⟨rfl, hb⟩; replace BK346 := bb BK346 hb; replace BK347 := bb BK347 hb; replace HB := bs HB hb; (try clear hb)))
  go_ret2
  exact ⟨_, by first | rfl | (simp [errW_none, errW_some] <;> rfl) | (simp [*, errW_none, errW_some] <;> rfl), by first | exact Kd.R_nil _ _ _ _ _ | exact Kd.N_nil _ _ _ _ _ | exact Kd.V_nil _ _ _ _ _ | exact Kd.Q_nil _ _ _ _ _ | exact Kd.S_nil _ _ _ _ _, bw HB⟩
 subst c7
 have H1 : ((impl_Siphon_run.f k a0_0 a0_1 a0_2 a0_3 a1_0 a1_1 l2).bind fun bt350 => (some (bt350.1, true))) = some (r1, r2) := by rw [if_pos rfl] at H; exact H
 clear H
 have H := H1
 clear H1
 replace H := Option.bind_eq_some_iff.mp H
 obtain ⟨⟨t350, t353, t356⟩, A80, H⟩ := H
 (try dsimp only at H)
 have A8 := Aside0.mk A80
 clear A80
 simp only [Option.some.injEq, Prod.mk.injEq] at H
 obtain ⟨rfl, rfl⟩ := H
 go_enter Try.func101, Try.ntmps101
 go_wp2_with (first | ((with_reducible refine gate_dst (N := 3) rfl ?_); refine bx 3 #[.int .i64 a0_0, .int .i64 a0_1, .int .i64 a0_2, .int .i64 a0_3] 100 ?_; intro gb346 hg w9 hbox hb; have BK346 := Aside0.mk (hbox); have GW346 := ge HB hg; have GE346 := ge HB hg; replace HB := bs HB hb; clear hb hbox hg) | ((with_reducible refine gate_dst (N := 4) rfl ?_); refine bx 4 #[.int .i64 a1_0, .bool a1_1] 102 ?_; intro gb347 hg w10 hbox hb; have BK347 := Aside0.mk (hbox); have GW347 := ge HB hg; have GE347 := ge HB hg; replace HB := bs HB hb; have NB346_347 := nl BK346 hg; have NB347_346 := nr BK346 hg; replace BK346 := bb BK346 hb; clear hb hbox hg; have hnb11 := NB346_347.out; have hnc11 := NB347_346.out; have hcz12_0 := bc0 BK346; have hcz12_1 := bc1 BK346; have hcz12_2 := bc2 BK346; have hcz12_3 := bc3 BK346; have hfz12_0 := blk_frozen BK346.out 0; have hfz12_1 := blk_frozen BK346.out 1; have hfz12_2 := blk_frozen BK346.out 2; have hfz12_3 := blk_frozen BK346.out 3; have hcz13_0 := bc0 BK347; have hcz13_1 := bc1 BK347; have hfz13_0 := blk_frozen BK347.out 0; have hfz13_1 := blk_frozen BK347.out 1) | ((with_reducible refine gate_callee (f := 207) rfl ?_); refine gl 10 Try.func207 #[.agg #[.int .i64 a0_0, .int .i64 a0_1, .int .i64 a0_2, .int .i64 a0_3], .agg #[.int .i64 a1_0, .bool a1_1]] ?_; (with_reducible refine (impl_isLevel.calls a0_0 a0_1 a0_2 a0_3 a1_0 a1_1 true _ A4.out).mono ?_); rintro e w14 ⟨rfl, hb⟩; refine ⟨_, rfl, ?_⟩; replace BK346 := bb BK346 hb; replace BK347 := bb BK347 hb; replace HB := bs HB hb; (try clear hb)) | (go_at_call 208; (with_reducible refine (impl_areInflows.calls _ _ l2 true _ ?side1 ?side2 A6.out).mono ?_); (case side1 => exact ck HR2 HB); (case side2 => exact HC2.out); rintro e w15 ⟨rfl, hb⟩; replace BK346 := bb BK346 hb; replace BK347 := bb BK347 hb; replace HB := bs HB hb; (try clear hb); have hcz16_0 := bc0 BK346; have hcz16_1 := bc1 BK346; have hcz16_2 := bc2 BK346; have hcz16_3 := bc3 BK346; have hfz16_0 := blk_frozen BK346.out 0; have hfz16_1 := blk_frozen BK346.out 1; have hfz16_2 := blk_frozen BK346.out 2; have hfz16_3 := blk_frozen BK346.out 3; have hcz17_0 := bc0 BK347; have hcz17_1 := bc1 BK347; have hfz17_0 := blk_frozen BK347.out 0; have hfz17_1 := blk_frozen BK347.out 1) | ((with_reducible refine gate_callee (f := 209) rfl ?_); refine gl 20 Try.func209 #[.agg #[.int .i64 a0_0, .int .i64 a0_1, .int .i64 a0_2, .int .i64 a0_3], .agg #[.int .i64 a1_0, .bool a1_1], .slice A2 l2.length c2] ?_; (with_reducible refine (impl_Siphon_run.calls k a0_0 a0_1 a0_2 a0_3 a1_0 a1_1 _ _ l2 t350 t353 t356 _ ?side1 ?side2 A8.out).mono ?_); (case side1 => exact ck HR2 HB); (case side2 => exact HC2.out); rintro e w18 ⟨v351, v354, v357, rfl, ho0, ho1, ho2, hb⟩; refine ⟨_, rfl, ?_⟩; have HO352 := Aside0.mk (Kd.R_lower (Kd.R_newB ho0 (g := gb347) (o := .cells #[.int .i64 a1_0, .bool a1_1] 102 (0, 0)) (bk BK347)) (below_size (bw HB))); have HO355 := lo ho1 HB; have HO358 := lo ho2 HB; replace BK346 := bb BK346 hb; replace BK347 := bb BK347 hb; replace HB := bs HB hb; (try clear hb); (try clear ho0); (try clear ho1); (try clear ho2)))
 go_ret2
 exact ⟨_, by first | rfl | (simp [errW_none, errW_some] <;> rfl) | (simp [*, errW_none, errW_some] <;> rfl), by exact Kd.R_mono HO352.out (fun _ hk => trivial), bw HB⟩
def spec_LevelsOf.f (k : Nat) (a0_0 : Int) (a0_1 : Int) (a0_2 : Int) (a0_3 : Int) (a1_0 : Int) (a1_1 : Bool) (l2 : List Int) : Option ((List (S102)) × Bool) := (spec_siAsked.f k a0_0 a0_1 a0_2 a0_3 a1_0 a1_1 l2).bind fun t361 => (if t361 = true then ((spec_siRun.f k a0_0 a0_1 a0_2 a0_3 a1_0 a1_1 l2).bind fun bt362 => (some (bt362.2.1, true))) else (some (([] : List (S102)), false)))
set_option maxHeartbeats 8000000 in
set_option maxRecDepth 100000 in
theorem spec_LevelsOf.calls (k : Nat) (a0_0 : Int) (a0_1 : Int) (a0_2 : Int) (a0_3 : Int) (a1_0 : Int) (a1_1 : Bool) (A2 : Option Addr) (c2 : Nat) (l2 : List Int) (r1 : List (S102)) (r2 : Bool) (w : World) (hr2 : Kd.C (Kd.int .i64) w A2 l2.length l2) (hc2 : l2.length ≤ c2) (h : spec_LevelsOf.f k a0_0 a0_1 a0_2 a0_3 a1_0 a1_1 l2 = some (r1, r2)) :
  Calls Try.prog 102 #[.agg #[.int .i64 a0_0, .int .i64 a0_1, .int .i64 a0_2, .int .i64 a0_3], .agg #[.int .i64 a1_0, .bool a1_1], .slice A2 l2.length c2] w fun e w' => ∃ v0_ : Value, e = .returned (.tuple #[v0_, .bool r2]) ∧ Kd.R k102 102 w' w.heap.size (fun _ => True) v0_ r1 ∧ Below w.heap.size w w' := by
 have hu100 := Try.underlying100
 have hu102 := Try.underlying102
 have HR2 := Aside0.mk hr2
 have HC2 := Aside0.mk hc2
 clear hr2 hc2
 have HB := Aside0.mk (Below.refl w.heap.size w)
 have H : ((spec_siAsked.f k a0_0 a0_1 a0_2 a0_3 a1_0 a1_1 l2).bind fun t361 => (if t361 = true then ((spec_siRun.f k a0_0 a0_1 a0_2 a0_3 a1_0 a1_1 l2).bind fun bt362 => (some (bt362.2.1, true))) else (some (([] : List (S102)), false)))) = some (r1, r2) := h
 clear h
 replace H := Option.bind_eq_some_iff.mp H
 obtain ⟨t361, A40, H⟩ := H
 (try dsimp only at H)
 have A4 := Aside0.mk A40
 clear A40
 by_cases c5 : t361 = true
 rotate_left
 ·replace c5 := Bool.eq_false_iff.mpr c5
  subst c5
  have H1 : (some (([] : List (S102)), false)) = some (r1, r2) := by rw [if_neg (show ¬ (false = true) by decide)] at H; exact H
  clear H
  have H := H1
  clear H1
  simp only [Option.some.injEq, Prod.mk.injEq] at H
  obtain ⟨rfl, rfl⟩ := H
  go_enter Try.func102, Try.ntmps102
  go_wp2_with (first | ((with_reducible refine gate_dst (N := 3) rfl ?_); refine bx 3 #[.int .i64 a0_0, .int .i64 a0_1, .int .i64 a0_2, .int .i64 a0_3] 100 ?_; intro gb359 hg w16 hbox hb; have BK359 := Aside0.mk (hbox); have GW359 := ge HB hg; have GE359 := ge HB hg; replace HB := bs HB hb; clear hb hbox hg) | ((with_reducible refine gate_dst (N := 4) rfl ?_); refine bx 4 #[.int .i64 a1_0, .bool a1_1] 102 ?_; intro gb360 hg w17 hbox hb; have BK360 := Aside0.mk (hbox); have GW360 := ge HB hg; have GE360 := ge HB hg; replace HB := bs HB hb; have NB359_360 := nl BK359 hg; have NB360_359 := nr BK359 hg; replace BK359 := bb BK359 hb; clear hb hbox hg; have hnb18 := NB359_360.out; have hnc18 := NB360_359.out; have hcz19_0 := bc0 BK359; have hcz19_1 := bc1 BK359; have hcz19_2 := bc2 BK359; have hcz19_3 := bc3 BK359; have hfz19_0 := blk_frozen BK359.out 0; have hfz19_1 := blk_frozen BK359.out 1; have hfz19_2 := blk_frozen BK359.out 2; have hfz19_3 := blk_frozen BK359.out 3; have hcz20_0 := bc0 BK360; have hcz20_1 := bc1 BK360; have hfz20_0 := blk_frozen BK360.out 0; have hfz20_1 := blk_frozen BK360.out 1) | ((with_reducible refine gate_callee (f := 210) rfl ?_); refine gl 14 Try.func210 #[.agg #[.int .i64 a0_0, .int .i64 a0_1, .int .i64 a0_2, .int .i64 a0_3], .agg #[.int .i64 a1_0, .bool a1_1], .slice A2 l2.length c2] ?_; (with_reducible refine (spec_siAsked.calls k a0_0 a0_1 a0_2 a0_3 a1_0 a1_1 _ _ l2 false _ ?side1 ?side2 A4.out).mono ?_); (case side1 => exact ck HR2 HB); (case side2 => exact HC2.out); rintro e w21 ⟨rfl, hb⟩; refine ⟨_, rfl, ?_⟩; replace BK359 := bb BK359 hb; replace BK360 := bb BK360 hb; replace HB := bs HB hb; (try clear hb)))
  go_ret2
  exact ⟨_, by first | rfl | (simp [errW_none, errW_some] <;> rfl) | (simp [*, errW_none, errW_some] <;> rfl), by first | exact Kd.R_nil _ _ _ _ _ | exact Kd.N_nil _ _ _ _ _ | exact Kd.V_nil _ _ _ _ _ | exact Kd.Q_nil _ _ _ _ _ | exact Kd.S_nil _ _ _ _ _, bw HB⟩
 subst c5
 have H1 : ((spec_siRun.f k a0_0 a0_1 a0_2 a0_3 a1_0 a1_1 l2).bind fun bt362 => (some (bt362.2.1, true))) = some (r1, r2) := by rw [if_pos rfl] at H; exact H
 clear H
 have H := H1
 clear H1
 replace H := Option.bind_eq_some_iff.mp H
 obtain ⟨⟨t362, t365, t368⟩, A60, H⟩ := H
 (try dsimp only at H)
 have A6 := Aside0.mk A60
 clear A60
 simp only [Option.some.injEq, Prod.mk.injEq] at H
 obtain ⟨rfl, rfl⟩ := H
 go_enter Try.func102, Try.ntmps102
 go_wp2_with (first | ((with_reducible refine gate_dst (N := 3) rfl ?_); refine bx 3 #[.int .i64 a0_0, .int .i64 a0_1, .int .i64 a0_2, .int .i64 a0_3] 100 ?_; intro gb359 hg w7 hbox hb; have BK359 := Aside0.mk (hbox); have GW359 := ge HB hg; have GE359 := ge HB hg; replace HB := bs HB hb; clear hb hbox hg) | ((with_reducible refine gate_dst (N := 4) rfl ?_); refine bx 4 #[.int .i64 a1_0, .bool a1_1] 102 ?_; intro gb360 hg w8 hbox hb; have BK360 := Aside0.mk (hbox); have GW360 := ge HB hg; have GE360 := ge HB hg; replace HB := bs HB hb; have NB359_360 := nl BK359 hg; have NB360_359 := nr BK359 hg; replace BK359 := bb BK359 hb; clear hb hbox hg; have hnb9 := NB359_360.out; have hnc9 := NB360_359.out; have hcz10_0 := bc0 BK359; have hcz10_1 := bc1 BK359; have hcz10_2 := bc2 BK359; have hcz10_3 := bc3 BK359; have hfz10_0 := blk_frozen BK359.out 0; have hfz10_1 := blk_frozen BK359.out 1; have hfz10_2 := blk_frozen BK359.out 2; have hfz10_3 := blk_frozen BK359.out 3; have hcz11_0 := bc0 BK360; have hcz11_1 := bc1 BK360; have hfz11_0 := blk_frozen BK360.out 0; have hfz11_1 := blk_frozen BK360.out 1) | ((with_reducible refine gate_callee (f := 210) rfl ?_); refine gl 14 Try.func210 #[.agg #[.int .i64 a0_0, .int .i64 a0_1, .int .i64 a0_2, .int .i64 a0_3], .agg #[.int .i64 a1_0, .bool a1_1], .slice A2 l2.length c2] ?_; (with_reducible refine (spec_siAsked.calls k a0_0 a0_1 a0_2 a0_3 a1_0 a1_1 _ _ l2 true _ ?side1 ?side2 A4.out).mono ?_); (case side1 => exact ck HR2 HB); (case side2 => exact HC2.out); rintro e w12 ⟨rfl, hb⟩; refine ⟨_, rfl, ?_⟩; replace BK359 := bb BK359 hb; replace BK360 := bb BK360 hb; replace HB := bs HB hb; (try clear hb); have hcz13_0 := bc0 BK359; have hcz13_1 := bc1 BK359; have hcz13_2 := bc2 BK359; have hcz13_3 := bc3 BK359; have hfz13_0 := blk_frozen BK359.out 0; have hfz13_1 := blk_frozen BK359.out 1; have hfz13_2 := blk_frozen BK359.out 2; have hfz13_3 := blk_frozen BK359.out 3; have hcz14_0 := bc0 BK360; have hcz14_1 := bc1 BK360; have hfz14_0 := blk_frozen BK360.out 0; have hfz14_1 := blk_frozen BK360.out 1) | ((with_reducible refine gate_callee (f := 211) rfl ?_); refine gl 20 Try.func211 #[.agg #[.int .i64 a0_0, .int .i64 a0_1, .int .i64 a0_2, .int .i64 a0_3], .agg #[.int .i64 a1_0, .bool a1_1], .slice A2 l2.length c2] ?_; (with_reducible refine (spec_siRun.calls k a0_0 a0_1 a0_2 a0_3 a1_0 a1_1 _ _ l2 t362 t365 t368 _ ?side1 ?side2 A6.out).mono ?_); (case side1 => exact ck HR2 HB); (case side2 => exact HC2.out); rintro e w15 ⟨v363, v366, rfl, ho0, ho1, hb⟩; refine ⟨_, rfl, ?_⟩; have HO364 := lo ho0 HB; have HO367 := Aside0.mk (Kd.R_lower (Kd.R_newB ho1 (g := gb360) (o := .cells #[.int .i64 a1_0, .bool a1_1] 102 (0, 0)) (bk BK360)) (below_size (bw HB))); replace BK359 := bb BK359 hb; replace BK360 := bb BK360 hb; replace HB := bs HB hb; (try clear hb); (try clear ho0); (try clear ho1)))
 go_ret2
 exact ⟨_, by first | rfl | (simp [errW_none, errW_some] <;> rfl) | (simp [*, errW_none, errW_some] <;> rfl), by exact Kd.R_mono HO367.out (fun _ hk => trivial), bw HB⟩
def impl_total.l0 : Nat → Int → List Int → Int → Int → Option (Int)
 | 0, _, _, _, _ => none
 | k + 1, x3, x6, x7, x8 => if x8 < x7 then (if 0 ≤ x8 then (if x8 < (x6.length : Int) then (impl_total.l0 k (wrap64 (x3 + (rd x6 x8))) x6 x7 (wrap64 (x8 + 1))) else (none)) else (none)) else (some x3)
def impl_total.f (k : Nat) (l0 : List Int) : Option (Int) := impl_total.l0 k 0 l0 (l0.length : Int) 0
set_option maxHeartbeats 8000000 in
set_option maxRecDepth 100000 in
theorem impl_total.calls (k : Nat) (A0 : Option Addr) (c0 : Nat) (l0 : List Int) (r : Int) (w : World) (hr0 : Kd.C (Kd.int .i64) w A0 l0.length l0) (hc0 : l0.length ≤ c0) (h : impl_total.f k l0 = some r) :
  Calls Try.prog 166 #[.slice A0 l0.length c0] w fun e w' => e = .returned (.int .i64 r) ∧ Drawn0 w w' := by
 have HR0 := Aside0.mk hr0
 have HC0 := Aside0.mk hc0
 clear hr0 hc0
 have H : (impl_total.l0 k 0 l0 (l0.length : Int) 0) = some r := h
 clear h
 have H' := Aside0.mk H
 clear H
 go_enter Try.func166, Try.ntmps166
 go_wp2
 try simp only [Act.put, List.setIfInBounds_toArray, List.set_cons_zero, List.set_cons_succ]
 go_loopg [3, 8] k (fun kq v3 v8 w' => ∃ (x3_1 : Int) (x8_1 : Int), v3 = .int .i64 x3_1 ∧ v8 = .int .i64 x8_1 ∧ Aside0 (impl_total.l0 kq x3_1 l0 (l0.length : Int) x8_1 = some r) ∧ Aside0 (kq ≤ k) ∧ Drawn0 w w')
 case atStart => exact ⟨(0), (0), (by first | rfl | (simp; done) | (simp [*]; done)), (by first | rfl | (simp; done) | (simp [*]; done)), H', ⟨Nat.le_refl _⟩, by repeat (first | exact Drawn0.refl _ | apply Drawn0.step)⟩
 case round =>
  clear H'
  (try clear c1)
  obtain ⟨x3_1, x8_1, rfl, rfl, HA, HK1, ⟨m1, rfl⟩⟩ := hrel
  cases gk with
  | zero => exact absurd HA.out (by simp [impl_total.l0])
  | succ k1 =>
   have H := HA.out
   clear HA
   simp only [impl_total.l0] at H
   by_cases c2 : x8_1 < (l0.length : Int)
   rotate_left
   ·rw [if_neg c2] at H
    have c2b0 : decide (x8_1 < (l0.length : Int)) = false := decide_eq_false c2
    clear c2
    obtain rfl := Option.some.inj H
    go_wp2
    go_ret
    exact ⟨by first | rfl | (simp; done) | (simp [*]; done), by repeat (first | exact Drawn0.refl _ | apply Drawn0.step)⟩
   rw [if_pos c2] at H
   have c2b0 : decide (x8_1 < (l0.length : Int)) = true := decide_eq_true c2
   clear c2
   by_cases c3 : 0 ≤ x8_1
   rotate_left
   ·rw [if_neg c3] at H
    exact absurd H (by simp)
   rw [if_pos c3] at H
   have c3b0 : decide (0 ≤ x8_1) = true := decide_eq_true c3
   clear c3
   by_cases c4 : x8_1 < (l0.length : Int)
   rotate_left
   ·rw [if_neg c4] at H
    exact absurd H (by simp)
   rw [if_pos c4] at H
   have c4b0 : decide (x8_1 < (l0.length : Int)) = true := decide_eq_true c4
   clear c4
   have H' := Aside0.mk H
   clear H
   have p369 : 0 ≤ (x8_1 : Int) := of_decide_eq_true ‹_›
   have q369 : x8_1 < (l0.length : Int) := of_decide_eq_true ‹_›
   obtain ⟨ad369, e369, hx369_0⟩ := Kd.at_int HR0.out x8_1 p369 q369
   cases e369
   replace p369 := eq_true p369
   replace q369 := eq_true q369
   go_wp2
   go_roundg k1
   case measure => have := HK1.out; omega
   case rel => exact ⟨(wrap64 (x3_1 + (rd l0 x8_1))), (wrap64 (x8_1 + 1)), (by first | rfl | (simp; done) | (simp [*]; done)), (by first | rfl | (simp; done) | (simp [*]; done)), H', ⟨by have := HK1.out; omega⟩, by repeat (first | exact Drawn0.refl _ | apply Drawn0.step)⟩
def impl_SpiltOf.j0 : Nat → List Int → Bool → Int → Int → Int → Int → Int → Bool → Option (Int × Bool)
 | 0, _, _, _, _, _, _, _, _ => none
 | k + 1, x2, x16, x371000, x371001, x371002, x371003, x372000, x372001 => if x16 = true then (some (0, false)) else ((impl_Siphon_run.f k x371000 x371001 x371002 x371003 x372000 x372001 x2).bind fun bt374 => ((impl_total.f k bt374.2.2).bind fun t383 => (some (t383, true))))
def impl_SpiltOf.f (k : Nat) (a0_0 : Int) (a0_1 : Int) (a0_2 : Int) (a0_3 : Int) (a1_0 : Int) (a1_1 : Bool) (l2 : List Int) : Option (Int × Bool) := (impl_isLevel.f a0_0 a0_1 a0_2 a0_3 a1_0 a1_1).bind fun t372 => (if t372 = true then ((impl_areInflows.f l2).bind fun t373 => (impl_SpiltOf.j0 k l2 (!t373) a0_0 a0_1 a0_2 a0_3 a1_0 a1_1)) else (impl_SpiltOf.j0 k l2 true a0_0 a0_1 a0_2 a0_3 a1_0 a1_1))
set_option maxHeartbeats 8000000 in
set_option maxRecDepth 100000 in
theorem impl_SpiltOf.calls (k : Nat) (a0_0 : Int) (a0_1 : Int) (a0_2 : Int) (a0_3 : Int) (a1_0 : Int) (a1_1 : Bool) (A2 : Option Addr) (c2 : Nat) (l2 : List Int) (r1 : Int) (r2 : Bool) (w : World) (hr2 : Kd.C (Kd.int .i64) w A2 l2.length l2) (hc2 : l2.length ≤ c2) (h : impl_SpiltOf.f k a0_0 a0_1 a0_2 a0_3 a1_0 a1_1 l2 = some (r1, r2)) :
  Calls Try.prog 103 #[.agg #[.int .i64 a0_0, .int .i64 a0_1, .int .i64 a0_2, .int .i64 a0_3], .agg #[.int .i64 a1_0, .bool a1_1], .slice A2 l2.length c2] w fun e w' => e = .returned (.tuple #[.int .i64 r1, .bool r2]) ∧ Below w.heap.size w w' := by
 have hu100 := Try.underlying100
 have hu102 := Try.underlying102
 have hfd192_2 : ∀ (x0 x1 x2 : Value) (W : World), (Instr.field 192 (.agg #[x0, x1, x2]) 2).run Try.prog W = .ok (x2) W := fun x0 x1 x2 W => by rfl
 have HR2 := Aside0.mk hr2
 have HC2 := Aside0.mk hc2
 clear hr2 hc2
 have HB := Aside0.mk (Below.refl w.heap.size w)
 have H : ((impl_isLevel.f a0_0 a0_1 a0_2 a0_3 a1_0 a1_1).bind fun t372 => (if t372 = true then ((impl_areInflows.f l2).bind fun t373 => (impl_SpiltOf.j0 k l2 (!t373) a0_0 a0_1 a0_2 a0_3 a1_0 a1_1)) else (impl_SpiltOf.j0 k l2 true a0_0 a0_1 a0_2 a0_3 a1_0 a1_1))) = some (r1, r2) := h
 clear h
 have HC4 := Aside0.mk H
 clear H
 go_enter Try.func103, Try.ntmps103
 go_upto_region 1 with (first | ((with_reducible refine gate_dst (N := 3) rfl ?_); refine bx 3 #[.int .i64 a0_0, .int .i64 a0_1, .int .i64 a0_2, .int .i64 a0_3] 100 ?_; intro gb370 hg w5 hbox hb; have BK370 := Aside0.mk (hbox); have GW370 := ge HB hg; have GE370 := ge HB hg; replace HB := bs HB hb; clear hb hbox hg) | ((with_reducible refine gate_dst (N := 4) rfl ?_); refine bx 4 #[.int .i64 a1_0, .bool a1_1] 102 ?_; intro gb371 hg w6 hbox hb; have BK371 := Aside0.mk (hbox); have GW371 := ge HB hg; have GE371 := ge HB hg; replace HB := bs HB hb; have NB370_371 := nl BK370 hg; have NB371_370 := nr BK370 hg; replace BK370 := bb BK370 hb; clear hb hbox hg))
 (try simp only [Act.put, List.setIfInBounds_toArray, List.set_cons_zero, List.set_cons_succ])
 go_cut [16] (fun v16 wc => ∃ (kq : Nat) (x16_3 : Bool), v16 = .bool x16_3 ∧ Aside0 (impl_SpiltOf.j0 kq l2 x16_3 a0_0 a0_1 a0_2 a0_3 a1_0 a1_1 = some (r1, r2)) ∧ Aside0 (kq ≤ k) ∧ Aside0 (wc.heap[gb370]? = some (.cells #[.int .i64 a0_0, .int .i64 a0_1, .int .i64 a0_2, .int .i64 a0_3] 100 (0, 0))) ∧ Aside0 (wc.heap[gb371]? = some (.cells #[.int .i64 a1_0, .bool a1_1] 102 (0, 0))) ∧ Aside0 (Below w.heap.size w wc))
 case first =>
  have H := HC4.out
  clear HC4
  replace H := Option.bind_eq_some_iff.mp H
  obtain ⟨t372, A70, H⟩ := H
  (try dsimp only at H)
  have A7 := Aside0.mk A70
  clear A70
  have H' := Aside0.mk H
  clear H
  have hnb10 := NB370_371.out
  have hnc10 := NB371_370.out
  have hcz11_0 := bc0 BK370
  have hcz11_1 := bc1 BK370
  have hcz11_2 := bc2 BK370
  have hcz11_3 := bc3 BK370
  have hfz11_0 := blk_frozen BK370.out 0
  have hfz11_1 := blk_frozen BK370.out 1
  have hfz11_2 := blk_frozen BK370.out 2
  have hfz11_3 := blk_frozen BK370.out 3
  have hcz12_0 := bc0 BK371
  have hcz12_1 := bc1 BK371
  have hfz12_0 := blk_frozen BK371.out 0
  have hfz12_1 := blk_frozen BK371.out 1
  have H := H'.out
  clear H'
  by_cases c8 : t372 = true
  rotate_left
  ·replace c8 := Bool.eq_false_iff.mpr c8
   subst c8
   have H1 : (impl_SpiltOf.j0 k l2 true a0_0 a0_1 a0_2 a0_3 a1_0 a1_1) = some (r1, r2) := by rw [if_neg (show ¬ (false = true) by decide)] at H; exact H
   clear H
   have H := H1
   clear H1
   have H' := Aside0.mk H
   clear H
   go_wp2_with (first | ((with_reducible refine gate_callee (f := 207) rfl ?_); refine gl 10 Try.func207 #[.agg #[.int .i64 a0_0, .int .i64 a0_1, .int .i64 a0_2, .int .i64 a0_3], .agg #[.int .i64 a1_0, .bool a1_1]] ?_; (with_reducible refine (impl_isLevel.calls a0_0 a0_1 a0_2 a0_3 a1_0 a1_1 false _ A7.out).mono ?_); rintro e w18 ⟨rfl, hb⟩; refine ⟨_, rfl, ?_⟩; replace BK370 := bb BK370 hb; replace BK371 := bb BK371 hb; replace HB := bs HB hb; (try clear hb)))
   go_meet
   case rel => exact ⟨_, (true), (by first | rfl | (simp; done) | (simp [*]; done)), H', ⟨by first | omega | exact Nat.le_refl _⟩, ⟨bk BK370⟩, ⟨bk BK371⟩, ⟨bw HB⟩⟩
  subst c8
  have H1 : ((impl_areInflows.f l2).bind fun t373 => (impl_SpiltOf.j0 k l2 (!t373) a0_0 a0_1 a0_2 a0_3 a1_0 a1_1)) = some (r1, r2) := by rw [if_pos rfl] at H; exact H
  clear H
  have H := H1
  clear H1
  replace H := Option.bind_eq_some_iff.mp H
  obtain ⟨t373, A90, H⟩ := H
  (try dsimp only at H)
  have A9 := Aside0.mk A90
  clear A90
  have H' := Aside0.mk H
  clear H
  go_wp2_with (first | ((with_reducible refine gate_callee (f := 207) rfl ?_); refine gl 10 Try.func207 #[.agg #[.int .i64 a0_0, .int .i64 a0_1, .int .i64 a0_2, .int .i64 a0_3], .agg #[.int .i64 a1_0, .bool a1_1]] ?_; (with_reducible refine (impl_isLevel.calls a0_0 a0_1 a0_2 a0_3 a1_0 a1_1 true _ A7.out).mono ?_); rintro e w13 ⟨rfl, hb⟩; refine ⟨_, rfl, ?_⟩; replace BK370 := bb BK370 hb; replace BK371 := bb BK371 hb; replace HB := bs HB hb; (try clear hb)) | (go_at_call 208; (with_reducible refine (impl_areInflows.calls _ _ l2 t373 _ ?side1 ?side2 A9.out).mono ?_); (case side1 => exact ck HR2 HB); (case side2 => exact HC2.out); rintro e w14 ⟨rfl, hb⟩; replace BK370 := bb BK370 hb; replace BK371 := bb BK371 hb; replace HB := bs HB hb; (try clear hb)))
  go_meet
  case rel => exact ⟨_, (!t373), (by first | rfl | (simp; done) | (simp [*]; done)), H', ⟨by first | omega | exact Nat.le_refl _⟩, ⟨bk BK370⟩, ⟨bk BK371⟩, ⟨bw HB⟩⟩
 case rest =>
  clear HC4
  (try clear c1); (try clear c2); (try clear p2); (try clear c8); (try clear c10); (try clear c15); (try clear hcz11_0); (try clear hcz11_1); (try clear hcz11_2); (try clear hcz11_3); (try clear hcz12_0); (try clear hcz12_1); (try clear hcz16_0); (try clear hcz16_1); (try clear hcz16_2); (try clear hcz16_3); (try clear hcz17_0); (try clear hcz17_1); (try clear hfz11_0); (try clear hfz11_1); (try clear hfz11_2); (try clear hfz11_3); (try clear hfz12_0); (try clear hfz12_1); (try clear hfz16_0); (try clear hfz16_1); (try clear hfz16_2); (try clear hfz16_3); (try clear hfz17_0); (try clear hfz17_1)
  obtain ⟨kq, x16_3, rfl, HA, HJ3, BK370, BK371, HB⟩ := hcut
  cases kq with
  | zero => exact absurd HA.out (by simp [impl_SpiltOf.j0])
  | succ kj3 =>
   have H := HA.out
   clear HA
   simp only [impl_SpiltOf.j0] at H
   by_cases c19 : x16_3 = true
   ·subst c19
    have H1 : (some (0, false)) = some (r1, r2) := by rw [if_pos rfl] at H; exact H
    clear H
    have H := H1
    clear H1
    simp only [Option.some.injEq, Prod.mk.injEq] at H
    obtain ⟨rfl, rfl⟩ := H
    go_wp2
    go_ret2
    exact ⟨by first | rfl | (simp [errW_none, errW_some] <;> rfl) | (simp [*, errW_none, errW_some] <;> rfl), bw HB⟩
   replace c19 := Bool.eq_false_iff.mpr c19
   subst c19
   have H1 : ((impl_Siphon_run.f kj3 a0_0 a0_1 a0_2 a0_3 a1_0 a1_1 l2).bind fun bt374 => ((impl_total.f kj3 bt374.2.2).bind fun t383 => (some (t383, true)))) = some (r1, r2) := by rw [if_neg (show ¬ (false = true) by decide)] at H; exact H
   clear H
   have H := H1
   clear H1
   replace H := Option.bind_eq_some_iff.mp H
   obtain ⟨⟨t374, t377, t380⟩, A200, H⟩ := H
   (try dsimp only at H)
   have A20 := Aside0.mk A200
   clear A200
   replace H := Option.bind_eq_some_iff.mp H
   obtain ⟨t383, A210, H⟩ := H
   (try dsimp only at H)
   have A21 := Aside0.mk A210
   clear A210
   simp only [Option.some.injEq, Prod.mk.injEq] at H
   obtain ⟨rfl, rfl⟩ := H
   have hnb22 := NB370_371.out
   have hnc22 := NB371_370.out
   have hcz23_0 := bc0 BK370
   have hcz23_1 := bc1 BK370
   have hcz23_2 := bc2 BK370
   have hcz23_3 := bc3 BK370
   have hfz23_0 := blk_frozen BK370.out 0
   have hfz23_1 := blk_frozen BK370.out 1
   have hfz23_2 := blk_frozen BK370.out 2
   have hfz23_3 := blk_frozen BK370.out 3
   have hcz24_0 := bc0 BK371
   have hcz24_1 := bc1 BK371
   have hfz24_0 := blk_frozen BK371.out 0
   have hfz24_1 := blk_frozen BK371.out 1
   go_wp2_with (first | ((with_reducible refine gate_callee (f := 209) rfl ?_); refine gl 20 Try.func209 #[.agg #[.int .i64 a0_0, .int .i64 a0_1, .int .i64 a0_2, .int .i64 a0_3], .agg #[.int .i64 a1_0, .bool a1_1], .slice A2 l2.length c2] ?_; (with_reducible refine (impl_Siphon_run.calls kj3 a0_0 a0_1 a0_2 a0_3 a1_0 a1_1 _ _ l2 t374 t377 t380 _ ?side1 ?side2 A20.out).mono ?_); (case side1 => exact ck HR2 HB); (case side2 => exact HC2.out); rintro e w25 ⟨v375, v378, v381, rfl, ho0, ho1, ho2, hb⟩; refine ⟨_, rfl, ?_⟩; have HO376 := Aside0.mk (Kd.R_lower (Kd.R_newB ho0 (g := gb371) (o := .cells #[.int .i64 a1_0, .bool a1_1] 102 (0, 0)) (bk BK371)) (below_size (bw HB))); have HO379 := lo ho1 HB; have HO382 := lo ho2 HB; replace BK370 := bb BK370 hb; replace BK371 := bb BK371 hb; replace HB := bs HB hb; (try clear hb); (try clear ho0); (try clear ho1); (try clear ho2); obtain ⟨Ao26, co26, eo26⟩ := Kd.R_slice HO382.out; subst eo26) | ((with_reducible refine gate_callee (f := 166) rfl ?_); refine gl 22 Try.func166 #[.slice Ao26 t380.length co26] ?_; (with_reducible refine (impl_total.calls kj3 _ _ t380 t383 _ ?side1 ?side2 A21.out).mono ?_); (case side1 => exact cr HO382); (case side2 => exact (Kd.R_reads' HO382.out).2.1); rintro e w' ⟨rfl, ⟨nd, rfl⟩⟩; refine ⟨_, rfl, ?_⟩))
   go_ret2
   exact ⟨by first | rfl | (simp [errW_none, errW_some] <;> rfl) | (simp [*, errW_none, errW_some] <;> rfl), bw HB⟩
def spec_SpiltOf.f (k : Nat) (a0_0 : Int) (a0_1 : Int) (a0_2 : Int) (a0_3 : Int) (a1_0 : Int) (a1_1 : Bool) (l2 : List Int) : Option (Int × Bool) := (spec_siAsked.f k a0_0 a0_1 a0_2 a0_3 a1_0 a1_1 l2).bind fun t386 => (if t386 = true then ((spec_siRun.f k a0_0 a0_1 a0_2 a0_3 a1_0 a1_1 l2).bind fun bt387 => (some (bt387.2.2, true))) else (some (0, false)))
set_option maxHeartbeats 8000000 in
set_option maxRecDepth 100000 in
theorem spec_SpiltOf.calls (k : Nat) (a0_0 : Int) (a0_1 : Int) (a0_2 : Int) (a0_3 : Int) (a1_0 : Int) (a1_1 : Bool) (A2 : Option Addr) (c2 : Nat) (l2 : List Int) (r1 : Int) (r2 : Bool) (w : World) (hr2 : Kd.C (Kd.int .i64) w A2 l2.length l2) (hc2 : l2.length ≤ c2) (h : spec_SpiltOf.f k a0_0 a0_1 a0_2 a0_3 a1_0 a1_1 l2 = some (r1, r2)) :
  Calls Try.prog 104 #[.agg #[.int .i64 a0_0, .int .i64 a0_1, .int .i64 a0_2, .int .i64 a0_3], .agg #[.int .i64 a1_0, .bool a1_1], .slice A2 l2.length c2] w fun e w' => e = .returned (.tuple #[.int .i64 r1, .bool r2]) ∧ Below w.heap.size w w' := by
 have hu100 := Try.underlying100
 have hu102 := Try.underlying102
 have HR2 := Aside0.mk hr2
 have HC2 := Aside0.mk hc2
 clear hr2 hc2
 have HB := Aside0.mk (Below.refl w.heap.size w)
 have H : ((spec_siAsked.f k a0_0 a0_1 a0_2 a0_3 a1_0 a1_1 l2).bind fun t386 => (if t386 = true then ((spec_siRun.f k a0_0 a0_1 a0_2 a0_3 a1_0 a1_1 l2).bind fun bt387 => (some (bt387.2.2, true))) else (some (0, false)))) = some (r1, r2) := h
 clear h
 replace H := Option.bind_eq_some_iff.mp H
 obtain ⟨t386, A40, H⟩ := H
 (try dsimp only at H)
 have A4 := Aside0.mk A40
 clear A40
 by_cases c5 : t386 = true
 rotate_left
 ·replace c5 := Bool.eq_false_iff.mpr c5
  subst c5
  have H1 : (some (0, false)) = some (r1, r2) := by rw [if_neg (show ¬ (false = true) by decide)] at H; exact H
  clear H
  have H := H1
  clear H1
  simp only [Option.some.injEq, Prod.mk.injEq] at H
  obtain ⟨rfl, rfl⟩ := H
  go_enter Try.func104, Try.ntmps104
  go_wp2_with (first | ((with_reducible refine gate_dst (N := 3) rfl ?_); refine bx 3 #[.int .i64 a0_0, .int .i64 a0_1, .int .i64 a0_2, .int .i64 a0_3] 100 ?_; intro gb384 hg w16 hbox hb; have BK384 := Aside0.mk (hbox); have GW384 := ge HB hg; have GE384 := ge HB hg; replace HB := bs HB hb; clear hb hbox hg) | ((with_reducible refine gate_dst (N := 4) rfl ?_); refine bx 4 #[.int .i64 a1_0, .bool a1_1] 102 ?_; intro gb385 hg w17 hbox hb; have BK385 := Aside0.mk (hbox); have GW385 := ge HB hg; have GE385 := ge HB hg; replace HB := bs HB hb; have NB384_385 := nl BK384 hg; have NB385_384 := nr BK384 hg; replace BK384 := bb BK384 hb; clear hb hbox hg; have hnb18 := NB384_385.out; have hnc18 := NB385_384.out; have hcz19_0 := bc0 BK384; have hcz19_1 := bc1 BK384; have hcz19_2 := bc2 BK384; have hcz19_3 := bc3 BK384; have hfz19_0 := blk_frozen BK384.out 0; have hfz19_1 := blk_frozen BK384.out 1; have hfz19_2 := blk_frozen BK384.out 2; have hfz19_3 := blk_frozen BK384.out 3; have hcz20_0 := bc0 BK385; have hcz20_1 := bc1 BK385; have hfz20_0 := blk_frozen BK385.out 0; have hfz20_1 := blk_frozen BK385.out 1) | ((with_reducible refine gate_callee (f := 210) rfl ?_); refine gl 14 Try.func210 #[.agg #[.int .i64 a0_0, .int .i64 a0_1, .int .i64 a0_2, .int .i64 a0_3], .agg #[.int .i64 a1_0, .bool a1_1], .slice A2 l2.length c2] ?_; (with_reducible refine (spec_siAsked.calls k a0_0 a0_1 a0_2 a0_3 a1_0 a1_1 _ _ l2 false _ ?side1 ?side2 A4.out).mono ?_); (case side1 => exact ck HR2 HB); (case side2 => exact HC2.out); rintro e w21 ⟨rfl, hb⟩; refine ⟨_, rfl, ?_⟩; replace BK384 := bb BK384 hb; replace BK385 := bb BK385 hb; replace HB := bs HB hb; (try clear hb)))
  go_ret2
  exact ⟨by first | rfl | (simp [errW_none, errW_some] <;> rfl) | (simp [*, errW_none, errW_some] <;> rfl), bw HB⟩
 subst c5
 have H1 : ((spec_siRun.f k a0_0 a0_1 a0_2 a0_3 a1_0 a1_1 l2).bind fun bt387 => (some (bt387.2.2, true))) = some (r1, r2) := by rw [if_pos rfl] at H; exact H
 clear H
 have H := H1
 clear H1
 replace H := Option.bind_eq_some_iff.mp H
 obtain ⟨⟨t387, t390, t393⟩, A60, H⟩ := H
 (try dsimp only at H)
 have A6 := Aside0.mk A60
 clear A60
 simp only [Option.some.injEq, Prod.mk.injEq] at H
 obtain ⟨rfl, rfl⟩ := H
 go_enter Try.func104, Try.ntmps104
 go_wp2_with (first | ((with_reducible refine gate_dst (N := 3) rfl ?_); refine bx 3 #[.int .i64 a0_0, .int .i64 a0_1, .int .i64 a0_2, .int .i64 a0_3] 100 ?_; intro gb384 hg w7 hbox hb; have BK384 := Aside0.mk (hbox); have GW384 := ge HB hg; have GE384 := ge HB hg; replace HB := bs HB hb; clear hb hbox hg) | ((with_reducible refine gate_dst (N := 4) rfl ?_); refine bx 4 #[.int .i64 a1_0, .bool a1_1] 102 ?_; intro gb385 hg w8 hbox hb; have BK385 := Aside0.mk (hbox); have GW385 := ge HB hg; have GE385 := ge HB hg; replace HB := bs HB hb; have NB384_385 := nl BK384 hg; have NB385_384 := nr BK384 hg; replace BK384 := bb BK384 hb; clear hb hbox hg; have hnb9 := NB384_385.out; have hnc9 := NB385_384.out; have hcz10_0 := bc0 BK384; have hcz10_1 := bc1 BK384; have hcz10_2 := bc2 BK384; have hcz10_3 := bc3 BK384; have hfz10_0 := blk_frozen BK384.out 0; have hfz10_1 := blk_frozen BK384.out 1; have hfz10_2 := blk_frozen BK384.out 2; have hfz10_3 := blk_frozen BK384.out 3; have hcz11_0 := bc0 BK385; have hcz11_1 := bc1 BK385; have hfz11_0 := blk_frozen BK385.out 0; have hfz11_1 := blk_frozen BK385.out 1) | ((with_reducible refine gate_callee (f := 210) rfl ?_); refine gl 14 Try.func210 #[.agg #[.int .i64 a0_0, .int .i64 a0_1, .int .i64 a0_2, .int .i64 a0_3], .agg #[.int .i64 a1_0, .bool a1_1], .slice A2 l2.length c2] ?_; (with_reducible refine (spec_siAsked.calls k a0_0 a0_1 a0_2 a0_3 a1_0 a1_1 _ _ l2 true _ ?side1 ?side2 A4.out).mono ?_); (case side1 => exact ck HR2 HB); (case side2 => exact HC2.out); rintro e w12 ⟨rfl, hb⟩; refine ⟨_, rfl, ?_⟩; replace BK384 := bb BK384 hb; replace BK385 := bb BK385 hb; replace HB := bs HB hb; (try clear hb); have hcz13_0 := bc0 BK384; have hcz13_1 := bc1 BK384; have hcz13_2 := bc2 BK384; have hcz13_3 := bc3 BK384; have hfz13_0 := blk_frozen BK384.out 0; have hfz13_1 := blk_frozen BK384.out 1; have hfz13_2 := blk_frozen BK384.out 2; have hfz13_3 := blk_frozen BK384.out 3; have hcz14_0 := bc0 BK385; have hcz14_1 := bc1 BK385; have hfz14_0 := blk_frozen BK385.out 0; have hfz14_1 := blk_frozen BK385.out 1) | ((with_reducible refine gate_callee (f := 211) rfl ?_); refine gl 20 Try.func211 #[.agg #[.int .i64 a0_0, .int .i64 a0_1, .int .i64 a0_2, .int .i64 a0_3], .agg #[.int .i64 a1_0, .bool a1_1], .slice A2 l2.length c2] ?_; (with_reducible refine (spec_siRun.calls k a0_0 a0_1 a0_2 a0_3 a1_0 a1_1 _ _ l2 t387 t390 t393 _ ?side1 ?side2 A6.out).mono ?_); (case side1 => exact ck HR2 HB); (case side2 => exact HC2.out); rintro e w15 ⟨v388, v391, rfl, ho0, ho1, hb⟩; refine ⟨_, rfl, ?_⟩; have HO389 := lo ho0 HB; have HO392 := Aside0.mk (Kd.R_lower (Kd.R_newB ho1 (g := gb385) (o := .cells #[.int .i64 a1_0, .bool a1_1] 102 (0, 0)) (bk BK385)) (below_size (bw HB))); replace BK384 := bb BK384 hb; replace BK385 := bb BK385 hb; replace HB := bs HB hb; (try clear hb); (try clear ho0); (try clear ho1)))
 go_ret2
 exact ⟨by first | rfl | (simp [errW_none, errW_some] <;> rfl) | (simp [*, errW_none, errW_some] <;> rfl), bw HB⟩
def laws_eLevels.l0 : Nat → List (S102) → List (S102) → Int → Int → Option (Bool)
 | 0, _, _, _, _ => none
 | k + 1, x0, x1, x12, x13 => if x13 < x12 then (if 0 ≤ x13 then (if x13 < (x0.length : Int) then (if x13 < (x1.length : Int) then (if (!(((rd_T102 x0 x13).f0) == ((rd_T102 x1 x13).f0)) || (!(((rd_T102 x0 x13).f1) == ((rd_T102 x1 x13).f1)))) = true then (some false) else (laws_eLevels.l0 k x0 x1 x12 (wrap64 (x13 + 1)))) else (none)) else (none)) else (none)) else (some true)
def laws_eLevels.f (k : Nat) (l0 : List (S102)) (l1 : List (S102)) : Option (Bool) := if (l0.length : Int) = (l1.length : Int) then (laws_eLevels.l0 k l0 l1 (l0.length : Int) 0) else (some false)
set_option maxHeartbeats 8000000 in
set_option maxRecDepth 100000 in
theorem laws_eLevels.calls (k : Nat) (A0 : Option Addr) (c0 : Nat) (l0 : List (S102)) (A1 : Option Addr) (c1 : Nat) (l1 : List (S102)) (r : Bool) (w : World) (hr0 : Kd.C k102 w A0 l0.length l0) (hc0 : l0.length ≤ c0) (hr1 : Kd.C k102 w A1 l1.length l1) (hc1 : l1.length ≤ c1) (h : laws_eLevels.f k l0 l1 = some r) :
  Calls Try.prog 105 #[.slice A0 l0.length c0, .slice A1 l1.length c1] w fun e w' => e = .returned (.bool r) ∧ Drawn0 w w' := by
 have hu102 := Try.underlying102
 have HR0 := Aside0.mk hr0
 have HC0 := Aside0.mk hc0
 clear hr0 hc0
 have HR1 := Aside0.mk hr1
 have HC1 := Aside0.mk hc1
 clear hr1 hc1
 have H : (if (l0.length : Int) = (l1.length : Int) then (laws_eLevels.l0 k l0 l1 (l0.length : Int) 0) else (some false)) = some r := h
 clear h
 by_cases c3 : (l0.length : Int) = (l1.length : Int)
 rotate_left
 ·rw [if_neg c3] at H
  have c3b0 : ((l0.length : Int) == (l1.length : Int)) = false := beq_eq_false_iff_ne.mpr c3
  have c3b1 : ((l0.length : Int) != (l1.length : Int)) = true := bne_iff_ne.mpr c3
  have c3b2 : (l0.length == l1.length) = false := by first | simpa using c3 | (simp at c3 ⊢; omega)
  obtain rfl := Option.some.inj H
  go_enter Try.func105, Try.ntmps105
  go_wp2
  repeat (go_quiet (fail); try go_wp2)
  go_ret
  exact ⟨by first | rfl | (simp; done) | (simp [*]; done), by repeat (first | exact Drawn0.refl _ | apply Drawn0.step)⟩
 rw [if_pos c3] at H
 have c3b0 : ((l0.length : Int) == (l1.length : Int)) = true := beq_iff_eq.mpr c3
 have c3b1 : ((l0.length : Int) != (l1.length : Int)) = false := bne_eq_false_iff_eq.mpr c3
 have c3b2 : (l0.length == l1.length) = true := by first | simpa using c3 | (simp at c3 ⊢; omega)
 clear c3
 have H' := Aside0.mk H
 clear H
 go_enter Try.func105, Try.ntmps105
 go_wp2
 repeat (go_quiet (fail); try go_wp2)
 try simp only [Act.put, List.setIfInBounds_toArray, List.set_cons_zero, List.set_cons_succ]
 go_loopg [13] k (fun kq v13 w' => ∃ (x13_1 : Int), v13 = .int .i64 x13_1 ∧ Aside0 (laws_eLevels.l0 kq l0 l1 (l0.length : Int) x13_1 = some r) ∧ Aside0 (kq ≤ k) ∧ Drawn0 w w')
 case atStart => exact ⟨(0), (by first | rfl | (simp; done) | (simp [*]; done)), H', ⟨Nat.le_refl _⟩, by repeat (first | exact Drawn0.refl _ | apply Drawn0.step)⟩
 case round =>
  clear H'
  (try clear c1); (try clear p2); (try clear c3); (try clear c3b0); (try clear c3b1); (try clear c3b2)
  obtain ⟨x13_1, rfl, HA, HK1, ⟨m1, rfl⟩⟩ := hrel
  cases gk with
  | zero => exact absurd HA.out (by simp [laws_eLevels.l0])
  | succ k1 =>
   have H := HA.out
   clear HA
   simp only [laws_eLevels.l0] at H
   by_cases c4 : x13_1 < (l0.length : Int)
   rotate_left
   ·rw [if_neg c4] at H
    have c4b0 : decide (x13_1 < (l0.length : Int)) = false := decide_eq_false c4
    clear c4
    obtain rfl := Option.some.inj H
    go_wp2
    repeat (go_quiet (fail); try go_wp2)
    go_ret
    exact ⟨by first | rfl | (simp; done) | (simp [*]; done), by repeat (first | exact Drawn0.refl _ | apply Drawn0.step)⟩
   rw [if_pos c4] at H
   have c4b0 : decide (x13_1 < (l0.length : Int)) = true := decide_eq_true c4
   clear c4
   by_cases c5 : 0 ≤ x13_1
   rotate_left
   ·rw [if_neg c5] at H
    exact absurd H (by simp)
   rw [if_pos c5] at H
   have c5b0 : decide (0 ≤ x13_1) = true := decide_eq_true c5
   clear c5
   by_cases c6 : x13_1 < (l0.length : Int)
   rotate_left
   ·rw [if_neg c6] at H
    exact absurd H (by simp)
   rw [if_pos c6] at H
   have c6b0 : decide (x13_1 < (l0.length : Int)) = true := decide_eq_true c6
   clear c6
   by_cases c7 : x13_1 < (l1.length : Int)
   rotate_left
   ·rw [if_neg c7] at H
    exact absurd H (by simp)
   rw [if_pos c7] at H
   have c7b0 : decide (x13_1 < (l1.length : Int)) = true := decide_eq_true c7
   clear c7
   by_cases c8 : (!(((rd_T102 l0 x13_1).f0) == ((rd_T102 l1 x13_1).f0)) || (!(((rd_T102 l0 x13_1).f1) == ((rd_T102 l1 x13_1).f1)))) = true
   ·rw [if_pos c8] at H
    have c8b0 : (!(((rd_T102 l0 x13_1).f0) == ((rd_T102 l1 x13_1).f0)) || (!(((rd_T102 l0 x13_1).f1) == ((rd_T102 l1 x13_1).f1)))) = true := c8
    clear c8
    obtain rfl := Option.some.inj H
    have p394 : 0 ≤ (x13_1 : Int) := of_decide_eq_true ‹_›
    have q394 : x13_1 < (l0.length : Int) := of_decide_eq_true ‹_›
    obtain ⟨ad394, e394, hx394_0, hx394_1⟩ := at_T102 HR0.out x13_1 p394 q394
    cases e394
    replace p394 := eq_true p394
    replace q394 := eq_true q394
    have p395 : 0 ≤ (x13_1 : Int) := of_decide_eq_true ‹_›
    have q395 : x13_1 < (l1.length : Int) := of_decide_eq_true ‹_›
    obtain ⟨ad395, e395, hx395_0, hx395_1⟩ := at_T102 HR1.out x13_1 p395 q395
    cases e395
    replace p395 := eq_true p395
    replace q395 := eq_true q395
    go_wp2
    repeat (go_quiet (fail); try go_wp2)
    go_ret
    exact ⟨by first | rfl | (simp; done) | (simp [*]; done), by repeat (first | exact Drawn0.refl _ | apply Drawn0.step)⟩
   rw [if_neg c8] at H
   have c8b0 : (!(((rd_T102 l0 x13_1).f0) == ((rd_T102 l1 x13_1).f0)) || (!(((rd_T102 l0 x13_1).f1) == ((rd_T102 l1 x13_1).f1)))) = false := by simpa using c8
   clear c8
   have H' := Aside0.mk H
   clear H
   have p394 : 0 ≤ (x13_1 : Int) := of_decide_eq_true ‹_›
   have q394 : x13_1 < (l0.length : Int) := of_decide_eq_true ‹_›
   obtain ⟨ad394, e394, hx394_0, hx394_1⟩ := at_T102 HR0.out x13_1 p394 q394
   cases e394
   replace p394 := eq_true p394
   replace q394 := eq_true q394
   have p395 : 0 ≤ (x13_1 : Int) := of_decide_eq_true ‹_›
   have q395 : x13_1 < (l1.length : Int) := of_decide_eq_true ‹_›
   obtain ⟨ad395, e395, hx395_0, hx395_1⟩ := at_T102 HR1.out x13_1 p395 q395
   cases e395
   replace p395 := eq_true p395
   replace q395 := eq_true q395
   go_wp2
   repeat (go_quiet (fail); try go_wp2)
   go_roundg k1
   case measure => have := HK1.out; omega
   case rel => exact ⟨(wrap64 (x13_1 + 1)), (by first | rfl | (simp; done) | (simp [*]; done)), H', ⟨by have := HK1.out; omega⟩, by repeat (first | exact Drawn0.refl _ | apply Drawn0.step)⟩
def impl_isInflow.f (a0 : Int) : Option (Bool) := (impl_within.f a0 0 60).bind fun t396 => (some t396)
set_option maxHeartbeats 8000000 in
set_option maxRecDepth 100000 in
theorem impl_isInflow.calls (a0 : Int) (r : Bool) (w : World) (h : impl_isInflow.f a0 = some r) :
  Calls Try.prog 212 #[.int .i64 a0] w fun e w' => e = .returned (.bool r) ∧ Drawn0 w w' := by
 have H : ((impl_within.f a0 0 60).bind fun t396 => (some t396)) = some r := h
 clear h
 replace H := Option.bind_eq_some_iff.mp H
 obtain ⟨t396, A20, H⟩ := H
 (try dsimp only at H)
 have A2 := Aside0.mk A20
 clear A20
 obtain rfl := Option.some.inj H
 go_enter Try.func212, Try.ntmps212
 go_wp2_with (first | ((with_reducible refine gate_callee (f := 141) rfl ?_); refine gl 4 Try.func141 #[.int .i64 a0, .int .i64 0, .int .i64 60] ?_; (with_reducible refine (impl_within.calls a0 0 60 t396 _ A2.out).mono ?_); rintro e w' ⟨rfl, ⟨nd, rfl⟩⟩; refine ⟨_, rfl, ?_⟩))
 go_ret
 exact ⟨by first | rfl | (simp; done) | (simp [*]; done), by repeat (first | exact Drawn0.refl _ | apply Drawn0.step)⟩
def impl_TickSiphon.f (a0_0 : Int) (a0_1 : Int) (a0_2 : Int) (a0_3 : Int) (a1_0 : Int) (a1_1 : Bool) (a2 : Int) : Option (Int × Bool × Int × Int × Bool) := (impl_isLevel.f a0_0 a0_1 a0_2 a0_3 a1_0 a1_1).bind fun t400 => (if t400 = true then ((impl_isInflow.f a2).bind fun t401 => (if t401 = true then ((impl_Siphon_tick.f a0_0 a0_1 a0_2 a0_3 a1_0 a1_1 a2).bind fun bt402 => (some (bt402.1, bt402.2.1, bt402.2.2.1, bt402.2.2.2, true))) else (some (0, false, 0, 0, false)))) else (some (0, false, 0, 0, false)))
set_option maxHeartbeats 8000000 in
set_option maxRecDepth 100000 in
theorem impl_TickSiphon.calls (a0_0 : Int) (a0_1 : Int) (a0_2 : Int) (a0_3 : Int) (a1_0 : Int) (a1_1 : Bool) (a2 : Int) (r1 : Int) (r2 : Bool) (r3 : Int) (r4 : Int) (r5 : Bool) (w : World) (h : impl_TickSiphon.f a0_0 a0_1 a0_2 a0_3 a1_0 a1_1 a2 = some (r1, r2, r3, r4, r5)) :
  Calls Try.prog 106 #[.agg #[.int .i64 a0_0, .int .i64 a0_1, .int .i64 a0_2, .int .i64 a0_3], .agg #[.int .i64 a1_0, .bool a1_1], .int .i64 a2] w fun e w' => e = .returned (.tuple #[.agg #[.int .i64 r1, .bool r2], .int .i64 r3, .int .i64 r4, .bool r5]) ∧ Below w.heap.size w w' := by
 have hu100 := Try.underlying100
 have hu102 := Try.underlying102
 have HB := Aside0.mk (Below.refl w.heap.size w)
 have H : ((impl_isLevel.f a0_0 a0_1 a0_2 a0_3 a1_0 a1_1).bind fun t400 => (if t400 = true then ((impl_isInflow.f a2).bind fun t401 => (if t401 = true then ((impl_Siphon_tick.f a0_0 a0_1 a0_2 a0_3 a1_0 a1_1 a2).bind fun bt402 => (some (bt402.1, bt402.2.1, bt402.2.2.1, bt402.2.2.2, true))) else (some (0, false, 0, 0, false)))) else (some (0, false, 0, 0, false)))) = some (r1, r2, r3, r4, r5) := h
 clear h
 replace H := Option.bind_eq_some_iff.mp H
 obtain ⟨t400, A40, H⟩ := H
 (try dsimp only at H)
 have A4 := Aside0.mk A40
 clear A40
 by_cases c5 : t400 = true
 rotate_left
 ·replace c5 := Bool.eq_false_iff.mpr c5
  subst c5
  have H1 : (some (0, false, 0, 0, false)) = some (r1, r2, r3, r4, r5) := by rw [if_neg (show ¬ (false = true) by decide)] at H; exact H
  clear H
  have H := H1
  clear H1
  simp only [Option.some.injEq, Prod.mk.injEq] at H
  obtain ⟨rfl, rfl, rfl, rfl, rfl⟩ := H
  go_enter Try.func106, Try.ntmps106
  go_wp2_with (first | ((with_reducible refine gate_dst (N := 3) rfl ?_); refine bx 3 #[.int .i64 a0_0, .int .i64 a0_1, .int .i64 a0_2, .int .i64 a0_3] 100 ?_; intro gb397 hg w37 hbox hb; have BK397 := Aside0.mk (hbox); have GW397 := ge HB hg; have GE397 := ge HB hg; replace HB := bs HB hb; clear hb hbox hg) | ((with_reducible refine gate_dst (N := 4) rfl ?_); refine bx 4 #[.int .i64 a1_0, .bool a1_1] 102 ?_; intro gb398 hg w38 hbox hb; have BK398 := Aside0.mk (hbox); have GW398 := ge HB hg; have GE398 := ge HB hg; replace HB := bs HB hb; have NB397_398 := nl BK397 hg; have NB398_397 := nr BK397 hg; replace BK397 := bb BK397 hb; clear hb hbox hg) | ((with_reducible refine gate_dst (N := 6) rfl ?_); refine bx 6 #[.int .i64 0, .bool false] 102 ?_; intro gb399 hg w39 hbox hb; have BK399 := Aside0.mk (hbox); have GW399 := ge HB hg; have GE399 := ge HB hg; replace HB := bs HB hb; have NB397_399 := nl BK397 hg; have NB399_397 := nr BK397 hg; replace BK397 := bb BK397 hb; have NB398_399 := nl BK398 hg; have NB399_398 := nr BK398 hg; replace BK398 := bb BK398 hb; clear hb hbox hg; have hnb40 := NB397_398.out; have hnc40 := NB398_397.out; have hnb41 := NB397_399.out; have hnc41 := NB399_397.out; have hcz42_0 := bc0 BK397; have hcz42_1 := bc1 BK397; have hcz42_2 := bc2 BK397; have hcz42_3 := bc3 BK397; have hfz42_0 := blk_frozen BK397.out 0; have hfz42_1 := blk_frozen BK397.out 1; have hfz42_2 := blk_frozen BK397.out 2; have hfz42_3 := blk_frozen BK397.out 3; have hnb43 := NB398_399.out; have hnc43 := NB399_398.out; have hcz44_0 := bc0 BK398; have hcz44_1 := bc1 BK398; have hfz44_0 := blk_frozen BK398.out 0; have hfz44_1 := blk_frozen BK398.out 1) | ((with_reducible refine gate_callee (f := 207) rfl ?_); refine gl 15 Try.func207 #[.agg #[.int .i64 a0_0, .int .i64 a0_1, .int .i64 a0_2, .int .i64 a0_3], .agg #[.int .i64 a1_0, .bool a1_1]] ?_; (with_reducible refine (impl_isLevel.calls a0_0 a0_1 a0_2 a0_3 a1_0 a1_1 false _ A4.out).mono ?_); rintro e w45 ⟨rfl, hb⟩; refine ⟨_, rfl, ?_⟩; replace BK397 := bb BK397 hb; replace BK398 := bb BK398 hb; replace BK399 := bb BK399 hb; replace HB := bs HB hb; (try clear hb); have hcz46_0 := bc0 BK399; have hcz46_1 := bc1 BK399; have hfz46_0 := blk_frozen BK399.out 0; have hfz46_1 := blk_frozen BK399.out 1))
  refine bodyPost_ret (results_list (rs := [.cell 6 102, .tmp 7, .tmp 8, .tmp 9]) rfl (by simp) (.cell gb399 102 #[.int .i64 0, .bool false] (0, 0) _ rfl (by refine blk_put (cs := #[.int .i64 0, .bool false]) ?_ 1 _ rfl; refine blk_put (cs := #[.int .i64 0, .bool false]) ?_ 0 _ rfl; exact bk BK399) Try.underlying102 rfl (by kernel_rfl) (.tmp (.tmp (.tmp .nil))))) rfl ?_
  exact ⟨by first | rfl | (simp [errW_none, errW_some] <;> rfl) | (simp [*, errW_none, errW_some] <;> rfl), bw HB⟩
 subst c5
 have H1 : ((impl_isInflow.f a2).bind fun t401 => (if t401 = true then ((impl_Siphon_tick.f a0_0 a0_1 a0_2 a0_3 a1_0 a1_1 a2).bind fun bt402 => (some (bt402.1, bt402.2.1, bt402.2.2.1, bt402.2.2.2, true))) else (some (0, false, 0, 0, false)))) = some (r1, r2, r3, r4, r5) := by rw [if_pos rfl] at H; exact H
 clear H
 have H := H1
 clear H1
 replace H := Option.bind_eq_some_iff.mp H
 obtain ⟨t401, A60, H⟩ := H
 (try dsimp only at H)
 have A6 := Aside0.mk A60
 clear A60
 by_cases c7 : t401 = true
 rotate_left
 ·replace c7 := Bool.eq_false_iff.mpr c7
  subst c7
  have H1 : (some (0, false, 0, 0, false)) = some (r1, r2, r3, r4, r5) := by rw [if_neg (show ¬ (false = true) by decide)] at H; exact H
  clear H
  have H := H1
  clear H1
  simp only [Option.some.injEq, Prod.mk.injEq] at H
  obtain ⟨rfl, rfl, rfl, rfl, rfl⟩ := H
  go_enter Try.func106, Try.ntmps106
  go_wp2_with (first | ((with_reducible refine gate_dst (N := 3) rfl ?_); refine bx 3 #[.int .i64 a0_0, .int .i64 a0_1, .int .i64 a0_2, .int .i64 a0_3] 100 ?_; intro gb397 hg w27 hbox hb; have BK397 := Aside0.mk (hbox); have GW397 := ge HB hg; have GE397 := ge HB hg; replace HB := bs HB hb; clear hb hbox hg) | ((with_reducible refine gate_dst (N := 4) rfl ?_); refine bx 4 #[.int .i64 a1_0, .bool a1_1] 102 ?_; intro gb398 hg w28 hbox hb; have BK398 := Aside0.mk (hbox); have GW398 := ge HB hg; have GE398 := ge HB hg; replace HB := bs HB hb; have NB397_398 := nl BK397 hg; have NB398_397 := nr BK397 hg; replace BK397 := bb BK397 hb; clear hb hbox hg) | ((with_reducible refine gate_dst (N := 6) rfl ?_); refine bx 6 #[.int .i64 0, .bool false] 102 ?_; intro gb399 hg w29 hbox hb; have BK399 := Aside0.mk (hbox); have GW399 := ge HB hg; have GE399 := ge HB hg; replace HB := bs HB hb; have NB397_399 := nl BK397 hg; have NB399_397 := nr BK397 hg; replace BK397 := bb BK397 hb; have NB398_399 := nl BK398 hg; have NB399_398 := nr BK398 hg; replace BK398 := bb BK398 hb; clear hb hbox hg; have hnb30 := NB397_398.out; have hnc30 := NB398_397.out; have hnb31 := NB397_399.out; have hnc31 := NB399_397.out; have hcz32_0 := bc0 BK397; have hcz32_1 := bc1 BK397; have hcz32_2 := bc2 BK397; have hcz32_3 := bc3 BK397; have hfz32_0 := blk_frozen BK397.out 0; have hfz32_1 := blk_frozen BK397.out 1; have hfz32_2 := blk_frozen BK397.out 2; have hfz32_3 := blk_frozen BK397.out 3; have hnb33 := NB398_399.out; have hnc33 := NB399_398.out; have hcz34_0 := bc0 BK398; have hcz34_1 := bc1 BK398; have hfz34_0 := blk_frozen BK398.out 0; have hfz34_1 := blk_frozen BK398.out 1) | ((with_reducible refine gate_callee (f := 207) rfl ?_); refine gl 15 Try.func207 #[.agg #[.int .i64 a0_0, .int .i64 a0_1, .int .i64 a0_2, .int .i64 a0_3], .agg #[.int .i64 a1_0, .bool a1_1]] ?_; (with_reducible refine (impl_isLevel.calls a0_0 a0_1 a0_2 a0_3 a1_0 a1_1 true _ A4.out).mono ?_); rintro e w35 ⟨rfl, hb⟩; refine ⟨_, rfl, ?_⟩; replace BK397 := bb BK397 hb; replace BK398 := bb BK398 hb; replace BK399 := bb BK399 hb; replace HB := bs HB hb; (try clear hb)) | (go_at_call 212; (with_reducible refine (impl_isInflow.calls a2 false _ A6.out).mono ?_); rintro e w' ⟨rfl, ⟨nd, rfl⟩⟩; (try (rw [drewN_self w35]; generalize hq_ : World.drewN w35 _ = w35; have n0_ : Aside0 (w35.heap[gb397]? = some (.cells #[.int .i64 a0_0, .int .i64 a0_1, .int .i64 a0_2, .int .i64 a0_3] 100 (0, 0))) := ⟨by rw [← hq_]; exact (bk BK397)⟩; have n1_ : Aside0 (w35.heap[gb398]? = some (.cells #[.int .i64 a1_0, .bool a1_1] 102 (0, 0))) := ⟨by rw [← hq_]; exact (bk BK398)⟩; have n2_ : Aside0 (w35.heap[gb399]? = some (.cells #[.int .i64 0, .bool false] 102 (0, 0))) := ⟨by rw [← hq_]; exact (bk BK399)⟩; have n3_ : Aside0 (Below w.heap.size w w35) := ⟨by rw [← hq_]; exact (bw HB)⟩; clear BK397 BK398 BK399 HB hq_; have BK397 := n0_; have BK398 := n1_; have BK399 := n2_; have HB := n3_; clear n0_ n1_ n2_ n3_)); have hcz36_0 := bc0 BK399; have hcz36_1 := bc1 BK399; have hfz36_0 := blk_frozen BK399.out 0; have hfz36_1 := blk_frozen BK399.out 1))
  refine bodyPost_ret (results_list (rs := [.cell 6 102, .tmp 7, .tmp 8, .tmp 9]) rfl (by simp) (.cell gb399 102 #[.int .i64 0, .bool false] (0, 0) _ rfl (by refine blk_put (cs := #[.int .i64 0, .bool false]) ?_ 1 _ rfl; refine blk_put (cs := #[.int .i64 0, .bool false]) ?_ 0 _ rfl; exact bk BK399) Try.underlying102 rfl (by kernel_rfl) (.tmp (.tmp (.tmp .nil))))) rfl ?_
  exact ⟨by first | rfl | (simp [errW_none, errW_some] <;> rfl) | (simp [*, errW_none, errW_some] <;> rfl), bw HB⟩
 subst c7
 have H1 : ((impl_Siphon_tick.f a0_0 a0_1 a0_2 a0_3 a1_0 a1_1 a2).bind fun bt402 => (some (bt402.1, bt402.2.1, bt402.2.2.1, bt402.2.2.2, true))) = some (r1, r2, r3, r4, r5) := by rw [if_pos rfl] at H; exact H
 clear H
 have H := H1
 clear H1
 replace H := Option.bind_eq_some_iff.mp H
 obtain ⟨⟨t402, t403, t404, t405⟩, A80, H⟩ := H
 (try dsimp only at H)
 have A8 := Aside0.mk A80
 clear A80
 simp only [Option.some.injEq, Prod.mk.injEq] at H
 obtain ⟨rfl, rfl, rfl, rfl, rfl⟩ := H
 go_enter Try.func106, Try.ntmps106
 go_wp2_with (first | ((with_reducible refine gate_dst (N := 3) rfl ?_); refine bx 3 #[.int .i64 a0_0, .int .i64 a0_1, .int .i64 a0_2, .int .i64 a0_3] 100 ?_; intro gb397 hg w9 hbox hb; have BK397 := Aside0.mk (hbox); have GW397 := ge HB hg; have GE397 := ge HB hg; replace HB := bs HB hb; clear hb hbox hg) | ((with_reducible refine gate_dst (N := 4) rfl ?_); refine bx 4 #[.int .i64 a1_0, .bool a1_1] 102 ?_; intro gb398 hg w10 hbox hb; have BK398 := Aside0.mk (hbox); have GW398 := ge HB hg; have GE398 := ge HB hg; replace HB := bs HB hb; have NB397_398 := nl BK397 hg; have NB398_397 := nr BK397 hg; replace BK397 := bb BK397 hb; clear hb hbox hg) | ((with_reducible refine gate_dst (N := 6) rfl ?_); refine bx 6 #[.int .i64 0, .bool false] 102 ?_; intro gb399 hg w11 hbox hb; have BK399 := Aside0.mk (hbox); have GW399 := ge HB hg; have GE399 := ge HB hg; replace HB := bs HB hb; have NB397_399 := nl BK397 hg; have NB399_397 := nr BK397 hg; replace BK397 := bb BK397 hb; have NB398_399 := nl BK398 hg; have NB399_398 := nr BK398 hg; replace BK398 := bb BK398 hb; clear hb hbox hg; have hnb12 := NB397_398.out; have hnc12 := NB398_397.out; have hnb13 := NB397_399.out; have hnc13 := NB399_397.out; have hcz14_0 := bc0 BK397; have hcz14_1 := bc1 BK397; have hcz14_2 := bc2 BK397; have hcz14_3 := bc3 BK397; have hfz14_0 := blk_frozen BK397.out 0; have hfz14_1 := blk_frozen BK397.out 1; have hfz14_2 := blk_frozen BK397.out 2; have hfz14_3 := blk_frozen BK397.out 3; have hnb15 := NB398_399.out; have hnc15 := NB399_398.out; have hcz16_0 := bc0 BK398; have hcz16_1 := bc1 BK398; have hfz16_0 := blk_frozen BK398.out 0; have hfz16_1 := blk_frozen BK398.out 1) | ((with_reducible refine gate_callee (f := 207) rfl ?_); refine gl 15 Try.func207 #[.agg #[.int .i64 a0_0, .int .i64 a0_1, .int .i64 a0_2, .int .i64 a0_3], .agg #[.int .i64 a1_0, .bool a1_1]] ?_; (with_reducible refine (impl_isLevel.calls a0_0 a0_1 a0_2 a0_3 a1_0 a1_1 true _ A4.out).mono ?_); rintro e w17 ⟨rfl, hb⟩; refine ⟨_, rfl, ?_⟩; replace BK397 := bb BK397 hb; replace BK398 := bb BK398 hb; replace BK399 := bb BK399 hb; replace HB := bs HB hb; (try clear hb)) | (go_at_call 212; (with_reducible refine (impl_isInflow.calls a2 true _ A6.out).mono ?_); rintro e w' ⟨rfl, ⟨nd, rfl⟩⟩; (try (rw [drewN_self w17]; generalize hq_ : World.drewN w17 _ = w17; have n0_ : Aside0 (w17.heap[gb397]? = some (.cells #[.int .i64 a0_0, .int .i64 a0_1, .int .i64 a0_2, .int .i64 a0_3] 100 (0, 0))) := ⟨by rw [← hq_]; exact (bk BK397)⟩; have n1_ : Aside0 (w17.heap[gb398]? = some (.cells #[.int .i64 a1_0, .bool a1_1] 102 (0, 0))) := ⟨by rw [← hq_]; exact (bk BK398)⟩; have n2_ : Aside0 (w17.heap[gb399]? = some (.cells #[.int .i64 0, .bool false] 102 (0, 0))) := ⟨by rw [← hq_]; exact (bk BK399)⟩; have n3_ : Aside0 (Below w.heap.size w w17) := ⟨by rw [← hq_]; exact (bw HB)⟩; clear BK397 BK398 BK399 HB hq_; have BK397 := n0_; have BK398 := n1_; have BK399 := n2_; have HB := n3_; clear n0_ n1_ n2_ n3_)); have hcz18_0 := bc0 BK397; have hcz18_1 := bc1 BK397; have hcz18_2 := bc2 BK397; have hcz18_3 := bc3 BK397; have hfz18_0 := blk_frozen BK397.out 0; have hfz18_1 := blk_frozen BK397.out 1; have hfz18_2 := blk_frozen BK397.out 2; have hfz18_3 := blk_frozen BK397.out 3; have hcz19_0 := bc0 BK398; have hcz19_1 := bc1 BK398; have hfz19_0 := blk_frozen BK398.out 0; have hfz19_1 := blk_frozen BK398.out 1) | ((with_reducible refine gate_callee (f := 213) rfl ?_); refine gl 27 Try.func213 #[.agg #[.int .i64 a0_0, .int .i64 a0_1, .int .i64 a0_2, .int .i64 a0_3], .agg #[.int .i64 a1_0, .bool a1_1], .int .i64 a2] ?_; (with_reducible refine (impl_Siphon_tick.calls a0_0 a0_1 a0_2 a0_3 a1_0 a1_1 a2 t402 t403 t404 t405 _ A8.out).mono ?_); rintro e w20 ⟨rfl, hb⟩; refine ⟨_, rfl, ?_⟩; replace BK397 := bb BK397 hb; replace BK398 := bb BK398 hb; replace BK399 := bb BK399 hb; replace HB := bs HB hb; (try clear hb)) | ((with_reducible refine gate_dst (N := 10) rfl ?_); refine bx 10 #[.int .i64 0, .bool false] 102 ?_; intro gb406 hg w21 hbox hb; have BK406 := Aside0.mk (hbox); have GW406 := ge HB hg; have GE406 := ge HB hg; replace HB := bs HB hb; have NB397_406 := nl BK397 hg; have NB406_397 := nr BK397 hg; replace BK397 := bb BK397 hb; have NB398_406 := nl BK398 hg; have NB406_398 := nr BK398 hg; replace BK398 := bb BK398 hb; have NB399_406 := nl BK399 hg; have NB406_399 := nr BK399 hg; replace BK399 := bb BK399 hb; clear hb hbox hg; have hnb22 := NB406_397.out; have hnc22 := NB397_406.out; have hnb23 := NB406_398.out; have hnc23 := NB398_406.out; have hnb24 := NB406_399.out; have hnc24 := NB399_406.out; have hcz25_0 := bc0 BK406; have hcz25_1 := bc1 BK406; have hfz25_0 := blk_frozen BK406.out 0; have hfz25_1 := blk_frozen BK406.out 1; have hcz26_0 := bc0 BK399; have hcz26_1 := bc1 BK399; have hfz26_0 := blk_frozen BK399.out 0; have hfz26_1 := blk_frozen BK399.out 1))
 refine bodyPost_ret (results_list (rs := [.cell 6 102, .tmp 7, .tmp 8, .tmp 9]) rfl (by simp) (.cell gb399 102 #[.int .i64 t402, .bool t403] (0, 0) _ rfl (by refine blk_put (cs := #[.int .i64 t402, .bool false]) ?_ 1 _ rfl; refine blk_put (cs := #[.int .i64 0, .bool false]) ?_ 0 _ rfl; exact bk BK399) Try.underlying102 rfl (by kernel_rfl) (.tmp (.tmp (.tmp .nil))))) rfl ?_
 exact ⟨by first | rfl | (simp [errW_none, errW_some] <;> rfl) | (simp [*, errW_none, errW_some] <;> rfl), bw HB⟩
def spec_DrawTickSiphon.f (k : Nat) (l0 : List Int) : Option (Int × Int × Int × Int × Int × Bool × Int) := (spec_l1Cur_siphon.f l0 0 0).bind fun bt410 => ((spec_l1Cur_level.f k l0 bt410.2.2.2.2.1 bt410.2.2.2.2.2 bt410.1 bt410.2.1 bt410.2.2.1 bt410.2.2.2.1).bind fun bt417 => ((spec_l1Cur_inflow.f l0 bt417.2.2.1 bt417.2.2.2).bind fun bt421 => (some (bt410.1, bt410.2.1, bt410.2.2.1, bt410.2.2.2.1, bt417.1, bt417.2.1, bt421.1))))
def spec_DrawTickSiphon.T3 : Bool × List (List Nat × List Nat) := (true, [([], []), ([], []), ([], []), ([1, 2], [1, 2]), ([], []), ([4, 3], [4]), ([0, 5, 0], [0]), ([3, 6, 0, 1, 2, 3, 6], [3]), ([5, 7, 0, 1, 2, 3, 4, 5, 6, 7], [5])])
def spec_DrawTickSiphon.B3 : List Nat := [0, 0, 0, 6, 0, 30, 63, 127, 255]
theorem spec_DrawTickSiphon.tab3 : rtab .any (opsOf Try.f108 3) = spec_DrawTickSiphon.T3 := by kernel_rfl
theorem spec_DrawTickSiphon.bits3 : waitsOk spec_DrawTickSiphon.T3.2 spec_DrawTickSiphon.B3 = true := by kernel_rfl
set_option maxHeartbeats 8000000 in
set_option maxRecDepth 100000 in
theorem spec_DrawTickSiphon.calls (k : Nat) (A0 : Option Addr) (c0 : Nat) (l0 : List Int) (r1 : Int) (r2 : Int) (r3 : Int) (r4 : Int) (r5 : Int) (r6 : Bool) (r7 : Int) (w : World) (hr0 : Kd.C (Kd.int .u8) w A0 l0.length l0) (hc0 : l0.length ≤ c0) (h : spec_DrawTickSiphon.f k l0 = some (r1, r2, r3, r4, r5, r6, r7)) :
  Calls Try.prog 108 #[.slice A0 l0.length c0] w fun e w' => e = .returned (.tuple #[.agg #[.int .i64 r1, .int .i64 r2, .int .i64 r3, .int .i64 r4], .agg #[.int .i64 r5, .bool r6], .int .i64 r7]) ∧ Below w.heap.size w w' := by
 have hu100 := Try.underlying100
 have hu102 := Try.underlying102
 have hu140 := Try.underlying140
 have HR0 := Aside0.mk hr0
 have HC0 := Aside0.mk hc0
 clear hr0 hc0
 have HB := Aside0.mk (Below.refl w.heap.size w)
 have H : ((spec_l1Cur_siphon.f l0 0 0).bind fun bt410 => ((spec_l1Cur_level.f k l0 bt410.2.2.2.2.1 bt410.2.2.2.2.2 bt410.1 bt410.2.1 bt410.2.2.1 bt410.2.2.2.1).bind fun bt417 => ((spec_l1Cur_inflow.f l0 bt417.2.2.1 bt417.2.2.2).bind fun bt421 => (some (bt410.1, bt410.2.1, bt410.2.2.1, bt410.2.2.2.1, bt417.1, bt417.2.1, bt421.1))))) = some (r1, r2, r3, r4, r5, r6, r7) := h
 clear h
 replace H := Option.bind_eq_some_iff.mp H
 obtain ⟨⟨t410, t411, t412, t413, t414, t415⟩, A20, H⟩ := H
 (try dsimp only at H)
 have A2 := Aside0.mk A20
 clear A20
 replace H := Option.bind_eq_some_iff.mp H
 obtain ⟨⟨t417, t418, t419, t420⟩, A30, H⟩ := H
 (try dsimp only at H)
 have A3 := Aside0.mk A30
 clear A30
 replace H := Option.bind_eq_some_iff.mp H
 obtain ⟨⟨t421, t422, t423⟩, A40, H⟩ := H
 (try dsimp only at H)
 have A4 := Aside0.mk A40
 clear A40
 simp only [Option.some.injEq, Prod.mk.injEq] at H
 obtain ⟨rfl, rfl, rfl, rfl, rfl, rfl, rfl⟩ := H
 go_enter Try.func108, Try.ntmps108
 try go_wp2_with (first | ((with_reducible refine gate_dst (N := 2) rfl ?_); refine bx 2 #[.int .i64 0, .int .i64 0, .int .i64 0, .int .i64 0] 100 ?_; intro gb407 hg w5 hbox hb; have BK407 := Aside0.mk (hbox); have GW407 := ge HB hg; have GE407 := ge HB hg; replace HB := bs HB hb; clear hb hbox hg) | ((with_reducible refine gate_dst (N := 3) rfl ?_); refine bx 3 #[.int .i64 0, .bool false] 102 ?_; intro gb408 hg w6 hbox hb; have BK408 := Aside0.mk (hbox); have GW408 := ge HB hg; have GE408 := ge HB hg; replace HB := bs HB hb; have NB407_408 := nl BK407 hg; have NB408_407 := nr BK407 hg; replace BK407 := bb BK407 hb; clear hb hbox hg) | ((with_reducible refine gate_dst (N := 9) rfl ?_); refine bx 9 #[.slice A0 l0.length c0, .int .i64 0, .int .u64 0] 140 ?_; intro gb409 hg w7 hbox hb; have HI409 := Aside0.mk ((⟨_, _, hbox, (by rw [hg]; exact (below_size (bw HB)) : w.heap.size ≤ gb409), HR0.out⟩ : IsS140 w _ gb409 l0 0 0)); replace HB := bs HB hb; have NB407_409 := nl BK407 hg; have NB409_407 := nr BK407 hg; replace BK407 := bb BK407 hb; have NB408_409 := nl BK408 hg; have NB409_408 := nr BK408 hg; replace BK408 := bb BK408 hb; clear hb hbox hg) | ((with_reducible refine gate_callee (f := 204) rfl ?_); refine gl 11 Try.func204 #[.pointer (some ⟨gb409, 0, none⟩)] ?_; (with_reducible refine (spec_l1Cur_siphon.calls gb409 l0 0 0 t410 t411 t412 t413 t414 t415 w _ ?side1 ?side2 A2.out).mono ?_); (case side1 => repeat (first | (with_reducible first | exact HI409.out | apply IsS140.alloc | apply IsS140.drewN | apply IsS140.drew | apply IsS140.set_1 | apply IsS140.set_2 | refine IsS140.far ?_ NB409_407.out _ | refine IsS140.far ?_ NB409_408.out _) | exact HI409.out)); (case side2 => repeat (first | (with_reducible first | exact HB.out | apply below_alloc | apply pw_below_drewN | apply below_drew1 | refine below_set ?_ (IsS140.ge HI409.out) | refine below_set ?_ GE407.out | refine below_set ?_ GE408.out) | exact HB.out)); rintro e w8 ⟨rfl, hi, hb, hk⟩; refine ⟨_, rfl, ?_⟩; replace BK407 := Aside0.mk (KeepBut.blk hk (g' := gb407) (o := .cells #[.int .i64 0, .int .i64 0, .int .i64 0, .int .i64 0] 100 (0, 0)) (bk BK407) NB407_409.out (by simp)); replace BK408 := Aside0.mk (KeepBut.blk hk (g' := gb408) (o := .cells #[.int .i64 0, .bool false] 102 (0, 0)) (bk BK408) NB408_409.out (by simp)); replace HB := Aside0.mk (hb); replace HI409 := Aside0.mk (hi); (try clear hb); (try clear hk); (try clear hi)) | ((with_reducible refine gate_dst (N := 6) rfl ?_); refine bx 6 #[.int .i64 0, .int .i64 0, .int .i64 0, .int .i64 0] 100 ?_; intro gb416 hg w9 hbox hb; have BK416 := Aside0.mk (hbox); have GW416 := Aside0.mk ((by rw [hg]; exact (below_size (by repeat (first | (with_reducible first | exact HB.out | apply below_alloc | apply pw_below_drewN | apply below_drew1 | refine below_set ?_ (IsS140.ge HI409.out) | refine below_set ?_ GE407.out | refine below_set ?_ GE408.out) | exact HB.out))) : w.heap.size ≤ gb416)); have GE416 := Aside0.mk ((by rw [hg]; exact (below_size (by repeat (first | (with_reducible first | exact HB.out | apply below_alloc | apply pw_below_drewN | apply below_drew1 | refine below_set ?_ (IsS140.ge HI409.out) | refine below_set ?_ GE407.out | refine below_set ?_ GE408.out) | exact HB.out))) : w.heap.size ≤ gb416)); replace HB := Aside0.mk (below_step (by repeat (first | (with_reducible first | exact HB.out | apply below_alloc | apply pw_below_drewN | apply below_drew1 | refine below_set ?_ (IsS140.ge HI409.out) | refine below_set ?_ GE407.out | refine below_set ?_ GE408.out) | exact HB.out)) hb); have NB407_416 := nl BK407 hg; have NB416_407 := nr BK407 hg; replace BK407 := bb BK407 hb; have NB408_416 := nl BK408 hg; have NB416_408 := nr BK408 hg; replace BK408 := bb BK408 hb; have NB409_416 := Aside0.mk ((by rw [hg]; exact Nat.ne_of_lt (IsS140.lt (show IsS140 w _ gb409 l0 t414 t415 from by repeat (first | (with_reducible first | exact HI409.out | apply IsS140.alloc | apply IsS140.drewN | apply IsS140.drew | apply IsS140.set_1 | apply IsS140.set_2 | refine IsS140.far ?_ NB409_407.out _ | refine IsS140.far ?_ NB409_408.out _) | exact HI409.out))) : gb409 ≠ gb416)); have NB416_409 := Aside0.mk ((by rw [hg]; exact Nat.ne_of_gt (IsS140.lt (show IsS140 w _ gb409 l0 t414 t415 from by repeat (first | (with_reducible first | exact HI409.out | apply IsS140.alloc | apply IsS140.drewN | apply IsS140.drew | apply IsS140.set_1 | apply IsS140.set_2 | refine IsS140.far ?_ NB409_407.out _ | refine IsS140.far ?_ NB409_408.out _) | exact HI409.out))) : gb416 ≠ gb409)); replace HI409 := Aside0.mk (IsS140.below (by repeat (first | (with_reducible first | exact HI409.out | apply IsS140.alloc | apply IsS140.drewN | apply IsS140.drew | apply IsS140.set_1 | apply IsS140.set_2 | refine IsS140.far ?_ NB409_407.out _ | refine IsS140.far ?_ NB409_408.out _) | exact HI409.out)) hb); clear hb hbox hg; have hnb10 := NB416_407.out; have hnc10 := NB407_416.out; have hnb11 := NB416_408.out; have hnc11 := NB408_416.out; have hnb12 := NB416_409.out; have hnc12 := NB409_416.out; have hcz13_0 := bc0 BK416; have hcz13_1 := bc1 BK416; have hcz13_2 := bc2 BK416; have hcz13_3 := bc3 BK416; have hfz13_0 := blk_frozen BK416.out 0; have hfz13_1 := blk_frozen BK416.out 1; have hfz13_2 := blk_frozen BK416.out 2; have hfz13_3 := blk_frozen BK416.out 3))
 have n0_ : Aside0 (((((w9.setCell ⟨gb416, 0, none⟩ (.int .i64 t410)).setCell ⟨gb416, 1, none⟩ (.int .i64 t411)).setCell ⟨gb416, 2, none⟩ (.int .i64 t412)).setCell ⟨gb416, 3, none⟩ (.int .i64 t413)).heap[gb407]? = some (.cells #[.int .i64 0, .int .i64 0, .int .i64 0, .int .i64 0] 100 (0, 0))) := ⟨bk BK407⟩
 have n1_ : Aside0 (((((w9.setCell ⟨gb416, 0, none⟩ (.int .i64 t410)).setCell ⟨gb416, 1, none⟩ (.int .i64 t411)).setCell ⟨gb416, 2, none⟩ (.int .i64 t412)).setCell ⟨gb416, 3, none⟩ (.int .i64 t413)).heap[gb408]? = some (.cells #[.int .i64 0, .bool false] 102 (0, 0))) := ⟨bk BK408⟩
 have n2_ : Aside0 (((((w9.setCell ⟨gb416, 0, none⟩ (.int .i64 t410)).setCell ⟨gb416, 1, none⟩ (.int .i64 t411)).setCell ⟨gb416, 2, none⟩ (.int .i64 t412)).setCell ⟨gb416, 3, none⟩ (.int .i64 t413)).heap[gb416]? = some (.cells #[.int .i64 t410, .int .i64 t411, .int .i64 t412, .int .i64 t413] 100 (0, 0))) := ⟨by refine blk_put (cs := #[.int .i64 t410, .int .i64 t411, .int .i64 t412, .int .i64 0]) ?_ 3 _ rfl; refine blk_put (cs := #[.int .i64 t410, .int .i64 t411, .int .i64 0, .int .i64 0]) ?_ 2 _ rfl; refine blk_put (cs := #[.int .i64 t410, .int .i64 0, .int .i64 0, .int .i64 0]) ?_ 1 _ rfl; refine blk_put (cs := #[.int .i64 0, .int .i64 0, .int .i64 0, .int .i64 0]) ?_ 0 _ rfl; exact bk BK416⟩
 have n3_ : Aside0 (IsS140 w ((((w9.setCell ⟨gb416, 0, none⟩ (.int .i64 t410)).setCell ⟨gb416, 1, none⟩ (.int .i64 t411)).setCell ⟨gb416, 2, none⟩ (.int .i64 t412)).setCell ⟨gb416, 3, none⟩ (.int .i64 t413)) gb409 l0 t414 t415) := ⟨by repeat (first | (with_reducible first | exact HI409.out | apply IsS140.alloc | apply IsS140.drewN | apply IsS140.drew | apply IsS140.set_1 | apply IsS140.set_2 | refine IsS140.far ?_ NB409_407.out _ | refine IsS140.far ?_ NB409_408.out _ | refine IsS140.far ?_ NB409_416.out _) | exact HI409.out)⟩
 have n4_ : Aside0 (Below w.heap.size w ((((w9.setCell ⟨gb416, 0, none⟩ (.int .i64 t410)).setCell ⟨gb416, 1, none⟩ (.int .i64 t411)).setCell ⟨gb416, 2, none⟩ (.int .i64 t412)).setCell ⟨gb416, 3, none⟩ (.int .i64 t413))) := ⟨by repeat (first | (with_reducible first | exact HB.out | apply below_alloc | apply pw_below_drewN | apply below_drew1 | refine below_set ?_ (IsS140.ge HI409.out) | refine below_set ?_ GE407.out | refine below_set ?_ GE408.out | refine below_set ?_ GE416.out) | exact HB.out)⟩
 (try clear BK407); (try clear BK408); (try clear BK416); (try clear HI409); (try clear HB)
 generalize ((((w9.setCell ⟨gb416, 0, none⟩ (.int .i64 t410)).setCell ⟨gb416, 1, none⟩ (.int .i64 t411)).setCell ⟨gb416, 2, none⟩ (.int .i64 t412)).setCell ⟨gb416, 3, none⟩ (.int .i64 t413)) = w14 at n0_ n1_ n2_ n3_ n4_ ⊢
 have BK407 := n0_
 have BK408 := n1_
 have BK416 := n2_
 have HI409 := n3_
 have HB := n4_
 clear n0_ n1_ n2_ n3_ n4_
 replace BK407 := Aside0.mk (blk_drew BK407.out)
 replace BK408 := Aside0.mk (blk_drew BK408.out)
 replace BK416 := Aside0.mk (blk_drew BK416.out)
 replace HI409 := Aside0.mk (IsS140.drew HI409.out)
 replace HB := Aside0.mk (below_drew1 HB.out)
 refine start_ (n := 9) (S := fun w' => w'.cell? ⟨gb416, 0, none⟩ = some (.int .i64 t410) ∧ w'.cell? ⟨gb416, 1, none⟩ = some (.int .i64 t411) ∧ w'.cell? ⟨gb416, 2, none⟩ = some (.int .i64 t412) ∧ w'.cell? ⟨gb416, 3, none⟩ = some (.int .i64 t413)) (ds := []) (bl 9 0) (by kernel_rfl) rfl rfl ⟨bc0 BK416, bc1 BK416, bc2 BK416, bc3 BK416⟩ (fun hHeld => ?_); refine with_tabW spec_DrawTickSiphon.tab3 spec_DrawTickSiphon.bits3 (fun HT_ HW_ => ?_)
 generalize w14.drew = w15 at BK407 BK408 BK416 HI409 HB hHeld ⊢
 refine pu 1 13 (bl 9 2) HT_.out (v := ?_) (a' := ?_) ?_ ?_ ?_
 rotate_left; (intro w'; go_simp; with_reducible rfl); rotate_left; (simp only [sqa, sqb, sqc, sqd, i64_w, i32_w]; rfl)
 refine pu 4 16 (bl 9 18) HT_.out (v := ?_) (a' := ?_) ?_ ?_ ?_
 rotate_left; (intro w'; go_simp; with_reducible rfl); rotate_left; (simp only [sqa, sqb, sqc, sqd, i64_w, i32_w]; rfl)
 refine tk 0 12 (bl 9 19) HT_.out HW_.out hHeld (v := ?_) (a' := ?_) ?_ ?_ ?_
 rotate_left; (rintro w' ⟨s0, s1, s2, s3⟩; go_simp; with_reducible rfl); rotate_left; (simp only [sqa, sqb, sqc, sqd, i64_w, i32_w]; rfl)
 refine tk 2 14 (bl 9 23) HT_.out HW_.out hHeld (v := ?_) (a' := ?_) ?_ ?_ ?_
 rotate_left; (rintro w' ⟨s0, s1, s2, s3⟩; go_simp; with_reducible rfl); rotate_left; (simp only [sqa, sqb, sqc, sqd, i64_w, i32_w]; rfl)
 refine on 3 15 (bl 9 31) HT_.out (fun K hK => ?_)
 refine gs Try.func205 #[.pointer (some ⟨gb409, 0, none⟩), .agg #[.int .i64 t410, .int .i64 t411, .int .i64 t412, .int .i64 t413]] ?_
 with_reducible refine (spec_l1Cur_level.calls k gb409 l0 t414 t415 t410 t411 t412 t413 t417 t418 t419 t420 w _ ?side1 ?side2 A3.out).mono ?_
 (case side1 => repeat (first | (with_reducible first | exact HI409.out | apply IsS140.alloc | apply IsS140.drewN | apply IsS140.drew | apply IsS140.set_1 | apply IsS140.set_2 | refine IsS140.far ?_ NB409_407.out _ | refine IsS140.far ?_ NB409_408.out _ | refine IsS140.far ?_ NB409_416.out _) | exact HI409.out))
 (case side2 => repeat (first | (with_reducible first | exact HB.out | apply below_alloc | apply pw_below_drewN | apply below_drew1 | refine below_set ?_ (IsS140.ge HI409.out) | refine below_set ?_ GE407.out | refine below_set ?_ GE408.out | refine below_set ?_ GE416.out) | exact HB.out))
 rintro e w16 ⟨rfl, hi, hb, hk⟩
 refine ⟨_, rfl, ?_⟩
 replace BK407 := Aside0.mk (KeepBut.blk hk (g' := gb407) (o := .cells #[.int .i64 0, .int .i64 0, .int .i64 0, .int .i64 0] 100 (0, 0)) (bk BK407) NB407_409.out (by simp))
 replace BK408 := Aside0.mk (KeepBut.blk hk (g' := gb408) (o := .cells #[.int .i64 0, .bool false] 102 (0, 0)) (bk BK408) NB408_409.out (by simp))
 replace BK416 := Aside0.mk (KeepBut.blk hk (g' := gb416) (o := .cells #[.int .i64 t410, .int .i64 t411, .int .i64 t412, .int .i64 t413] 100 (0, 0)) (bk BK416) NB416_409.out (by simp))
 replace HB := Aside0.mk (hb)
 replace HI409 := Aside0.mk (hi)
 (try clear hb); (try clear hb2); (try clear hk); (try clear hi)
 refine hK.out _ _ ⟨bc0 BK416, bc1 BK416, bc2 BK416, bc3 BK416⟩ (fun hHeld => ?_)
 clear hK K
 refine norm_ (a' := ?_) ?_ ?_; rotate_left; (show Act.put _ (some 15) _ = _; simp only [sqa, sqb, sqc, sqd, i64_w, i32_w]; rfl)
 refine on 5 17 (bl 9 63) HT_.out (fun K hK => ?_)
 refine gs Try.func214 #[.pointer (some ⟨gb409, 0, none⟩)] ?_
 with_reducible refine (spec_l1Cur_inflow.calls gb409 l0 t419 t420 t421 t422 t423 w _ ?side1 ?side2 A4.out).mono ?_
 (case side1 => repeat (first | (with_reducible first | exact HI409.out | apply IsS140.alloc | apply IsS140.drewN | apply IsS140.drew | apply IsS140.set_1 | apply IsS140.set_2 | refine IsS140.far ?_ NB409_407.out _ | refine IsS140.far ?_ NB409_408.out _ | refine IsS140.far ?_ NB409_416.out _) | exact HI409.out))
 (case side2 => repeat (first | (with_reducible first | exact HB.out | apply below_alloc | apply pw_below_drewN | apply below_drew1 | refine below_set ?_ (IsS140.ge HI409.out) | refine below_set ?_ GE407.out | refine below_set ?_ GE408.out | refine below_set ?_ GE416.out) | exact HB.out))
 rintro e w17 ⟨rfl, hi, hb, hk⟩
 refine ⟨_, rfl, ?_⟩
 replace BK407 := Aside0.mk (KeepBut.blk hk (g' := gb407) (o := .cells #[.int .i64 0, .int .i64 0, .int .i64 0, .int .i64 0] 100 (0, 0)) (bk BK407) NB407_409.out (by simp))
 replace BK408 := Aside0.mk (KeepBut.blk hk (g' := gb408) (o := .cells #[.int .i64 0, .bool false] 102 (0, 0)) (bk BK408) NB408_409.out (by simp))
 replace BK416 := Aside0.mk (KeepBut.blk hk (g' := gb416) (o := .cells #[.int .i64 t410, .int .i64 t411, .int .i64 t412, .int .i64 t413] 100 (0, 0)) (bk BK416) NB416_409.out (by simp))
 replace HB := Aside0.mk (hb)
 replace HI409 := Aside0.mk (hi)
 (try clear hb); (try clear hb2); (try clear hk); (try clear hi)
 refine hK.out _ _ ⟨bc0 BK416, bc1 BK416, bc2 BK416, bc3 BK416⟩ (fun hHeld => ?_)
 clear hK K
 refine norm_ (a' := ?_) ?_ ?_; rotate_left; (show Act.put _ (some 17) _ = _; simp only [sqa, sqb, sqc, sqd, i64_w, i32_w]; rfl)
 refine one_ (i := 6) (N := none) (bl 9 127) rfl rfl (one_of HT_.out (by kernel_rfl)) (by decide) (fun K hK => ?_)
 have hs18 : w17.cell? ⟨gb407, 0, none⟩ = some (.int .i64 0) := bc0 BK407
 have hfs18 := blk_frozen BK407.out 0
 have hns18_1 := NB408_407.out
 have hns18_2 := NB416_407.out
 have hms18_1 := NB407_408.out
 have hms18_2 := NB407_416.out
 have hs19 : w17.cell? ⟨gb407, 1, none⟩ = some (.int .i64 0) := bc1 BK407
 have hfs19 := blk_frozen BK407.out 1
 have hns19_1 := NB408_407.out
 have hns19_2 := NB416_407.out
 have hms19_1 := NB407_408.out
 have hms19_2 := NB407_416.out
 have hs20 : w17.cell? ⟨gb407, 2, none⟩ = some (.int .i64 0) := bc2 BK407
 have hfs20 := blk_frozen BK407.out 2
 have hns20_1 := NB408_407.out
 have hns20_2 := NB416_407.out
 have hms20_1 := NB407_408.out
 have hms20_2 := NB407_416.out
 have hs21 : w17.cell? ⟨gb407, 3, none⟩ = some (.int .i64 0) := bc3 BK407
 have hfs21 := blk_frozen BK407.out 3
 have hns21_1 := NB408_407.out
 have hns21_2 := NB416_407.out
 have hms21_1 := NB407_408.out
 have hms21_2 := NB407_416.out
 refine skip_ (w1 := ?_) (by rfl) rfl ?_ ?_
 rotate_left
 ·go_simp
  rfl
 refine hK.out _ _ ⟨((cell_far (p := ⟨gb407, _, none⟩) NB416_407.out _).trans (((cell_far (p := ⟨gb407, _, none⟩) NB416_407.out _).trans (((cell_far (p := ⟨gb407, _, none⟩) NB416_407.out _).trans (((cell_far (p := ⟨gb407, _, none⟩) NB416_407.out _).trans (hHeld.1)))))))), ((cell_far (p := ⟨gb407, _, none⟩) NB416_407.out _).trans (((cell_far (p := ⟨gb407, _, none⟩) NB416_407.out _).trans (((cell_far (p := ⟨gb407, _, none⟩) NB416_407.out _).trans (((cell_far (p := ⟨gb407, _, none⟩) NB416_407.out _).trans (hHeld.2.1)))))))), ((cell_far (p := ⟨gb407, _, none⟩) NB416_407.out _).trans (((cell_far (p := ⟨gb407, _, none⟩) NB416_407.out _).trans (((cell_far (p := ⟨gb407, _, none⟩) NB416_407.out _).trans (((cell_far (p := ⟨gb407, _, none⟩) NB416_407.out _).trans (hHeld.2.2.1)))))))), ((cell_far (p := ⟨gb407, _, none⟩) NB416_407.out _).trans (((cell_far (p := ⟨gb407, _, none⟩) NB416_407.out _).trans (((cell_far (p := ⟨gb407, _, none⟩) NB416_407.out _).trans (((cell_far (p := ⟨gb407, _, none⟩) NB416_407.out _).trans (hHeld.2.2.2))))))))⟩ (fun hHeld => ?_)
 clear hK K
 refine one_ (i := 7) (N := none) (bl 9 255) rfl rfl (one_of HT_.out (by kernel_rfl)) (by decide) (fun K hK => ?_)
 have hs22 : w17.cell? ⟨gb408, 0, none⟩ = some (.int .i64 0) := bc0 BK408
 have hfs22 := blk_frozen BK408.out 0
 have hns22_0 := NB407_408.out
 have hns22_2 := NB416_408.out
 have hms22_0 := NB408_407.out
 have hms22_2 := NB408_416.out
 have hs23 : w17.cell? ⟨gb408, 1, none⟩ = some (.bool false) := bc1 BK408
 have hfs23 := blk_frozen BK408.out 1
 have hns23_0 := NB407_408.out
 have hns23_2 := NB416_408.out
 have hms23_0 := NB408_407.out
 have hms23_2 := NB408_416.out
 refine skip_ (w1 := ?_) (by rfl) rfl ?_ ?_
 rotate_left
 ·go_simp
  rfl
 refine hK.out _ _ ⟨((cell_far (p := ⟨gb408, _, none⟩) NB416_408.out _).trans (((cell_far (p := ⟨gb408, _, none⟩) NB416_408.out _).trans (hHeld.1)))), ((cell_far (p := ⟨gb408, _, none⟩) NB416_408.out _).trans (((cell_far (p := ⟨gb408, _, none⟩) NB416_408.out _).trans (hHeld.2.1)))), ((cell_far (p := ⟨gb408, _, none⟩) NB416_408.out _).trans (((cell_far (p := ⟨gb408, _, none⟩) NB416_408.out _).trans (hHeld.2.2.1)))), ((cell_far (p := ⟨gb408, _, none⟩) NB416_408.out _).trans (((cell_far (p := ⟨gb408, _, none⟩) NB416_408.out _).trans (hHeld.2.2.2))))⟩ (fun hHeld => ?_)
 clear hK K
 refine pu 8 4 (bl 9 511) HT_.out (v := ?_) (a' := ?_) ?_ ?_ ?_
 rotate_left; (intro w'; go_simp; with_reducible rfl); rotate_left; (simp only [sqa, sqb, sqc, sqd, i64_w, i32_w]; rfl)
 refine done_ (done_of HT_.out (by kernel_rfl)) ?_
 try go_wp2
 refine bodyPost_ret (results_list (rs := [.cell 2 100, .cell 3 102, .tmp 4]) rfl (by simp) (.cell gb407 100 #[.int .i64 t410, .int .i64 t411, .int .i64 t412, .int .i64 t413] (0, 0) _ rfl (by refine blk_far ?_ NB407_408.out _; refine blk_far ?_ NB407_408.out _; refine blk_put (cs := #[.int .i64 t410, .int .i64 t411, .int .i64 t412, .int .i64 0]) ?_ 3 _ rfl; refine blk_put (cs := #[.int .i64 t410, .int .i64 t411, .int .i64 0, .int .i64 0]) ?_ 2 _ rfl; refine blk_put (cs := #[.int .i64 t410, .int .i64 0, .int .i64 0, .int .i64 0]) ?_ 1 _ rfl; refine blk_put (cs := #[.int .i64 0, .int .i64 0, .int .i64 0, .int .i64 0]) ?_ 0 _ rfl; exact bk BK407) Try.underlying100 rfl (by kernel_rfl) (.cell gb408 102 #[.int .i64 t417, .bool t418] (0, 0) _ rfl (by refine blk_put (cs := #[.int .i64 t417, .bool false]) ?_ 1 _ rfl; refine blk_put (cs := #[.int .i64 0, .bool false]) ?_ 0 _ rfl; exact bk BK408) Try.underlying102 rfl (by kernel_rfl) (.tmp .nil)))) rfl ?_
 exact ⟨by first | rfl | (simp [errW_none, errW_some] <;> rfl) | (simp [*, errW_none, errW_some] <;> rfl), by repeat (first | (with_reducible first | exact HB.out | apply below_alloc | apply pw_below_drewN | apply below_drew1 | refine below_set ?_ (IsS140.ge HI409.out) | refine below_set ?_ GE407.out | refine below_set ?_ GE408.out | refine below_set ?_ GE416.out) | exact HB.out)⟩
def spec_siInflow.f (a0 : Int) : Option (Bool) := (spec_l1In.f a0 0 60).bind fun t424 => (some t424)
set_option maxHeartbeats 8000000 in
set_option maxRecDepth 100000 in
theorem spec_siInflow.calls (a0 : Int) (r : Bool) (w : World) (h : spec_siInflow.f a0 = some r) :
  Calls Try.prog 216 #[.int .i64 a0] w fun e w' => e = .returned (.bool r) ∧ Drawn0 w w' := by
 have H : ((spec_l1In.f a0 0 60).bind fun t424 => (some t424)) = some r := h
 clear h
 replace H := Option.bind_eq_some_iff.mp H
 obtain ⟨t424, A20, H⟩ := H
 (try dsimp only at H)
 have A2 := Aside0.mk A20
 clear A20
 obtain rfl := Option.some.inj H
 go_enter Try.func216, Try.ntmps216
 go_wp2_with (first | ((with_reducible refine gate_callee (f := 143) rfl ?_); refine gl 4 Try.func143 #[.int .i64 a0, .int .i64 0, .int .i64 60] ?_; (with_reducible refine (spec_l1In.calls a0 0 60 t424 _ A2.out).mono ?_); rintro e w' ⟨rfl, ⟨nd, rfl⟩⟩; refine ⟨_, rfl, ?_⟩))
 go_ret
 exact ⟨by first | rfl | (simp; done) | (simp [*]; done), by repeat (first | exact Drawn0.refl _ | apply Drawn0.step)⟩
def spec_TickSiphon.f (k : Nat) (a0_0 : Int) (a0_1 : Int) (a0_2 : Int) (a0_3 : Int) (a1_0 : Int) (a1_1 : Bool) (a2 : Int) : Option (Int × Bool × Int × Int × Bool) := (spec_siLevel.f a0_0 a0_1 a0_2 a0_3 a1_0 a1_1).bind fun t428 => (if t428 = true then ((spec_siInflow.f a2).bind fun t429 => (if t429 = true then ((spec_siTick.f k a0_0 a0_1 a0_2 a0_3 a1_0 a1_1 a2).bind fun bt430 => (some (bt430.1, bt430.2.1, bt430.2.2.1, bt430.2.2.2, true))) else (some (0, false, 0, 0, false)))) else (some (0, false, 0, 0, false)))
set_option maxHeartbeats 8000000 in
set_option maxRecDepth 100000 in
theorem spec_TickSiphon.calls (k : Nat) (a0_0 : Int) (a0_1 : Int) (a0_2 : Int) (a0_3 : Int) (a1_0 : Int) (a1_1 : Bool) (a2 : Int) (r1 : Int) (r2 : Bool) (r3 : Int) (r4 : Int) (r5 : Bool) (w : World) (h : spec_TickSiphon.f k a0_0 a0_1 a0_2 a0_3 a1_0 a1_1 a2 = some (r1, r2, r3, r4, r5)) :
  Calls Try.prog 109 #[.agg #[.int .i64 a0_0, .int .i64 a0_1, .int .i64 a0_2, .int .i64 a0_3], .agg #[.int .i64 a1_0, .bool a1_1], .int .i64 a2] w fun e w' => e = .returned (.tuple #[.agg #[.int .i64 r1, .bool r2], .int .i64 r3, .int .i64 r4, .bool r5]) ∧ Below w.heap.size w w' := by
 have hu100 := Try.underlying100
 have hu102 := Try.underlying102
 have HB := Aside0.mk (Below.refl w.heap.size w)
 have H : ((spec_siLevel.f a0_0 a0_1 a0_2 a0_3 a1_0 a1_1).bind fun t428 => (if t428 = true then ((spec_siInflow.f a2).bind fun t429 => (if t429 = true then ((spec_siTick.f k a0_0 a0_1 a0_2 a0_3 a1_0 a1_1 a2).bind fun bt430 => (some (bt430.1, bt430.2.1, bt430.2.2.1, bt430.2.2.2, true))) else (some (0, false, 0, 0, false)))) else (some (0, false, 0, 0, false)))) = some (r1, r2, r3, r4, r5) := h
 clear h
 replace H := Option.bind_eq_some_iff.mp H
 obtain ⟨t428, A40, H⟩ := H
 (try dsimp only at H)
 have A4 := Aside0.mk A40
 clear A40
 by_cases c5 : t428 = true
 rotate_left
 ·replace c5 := Bool.eq_false_iff.mpr c5
  subst c5
  have H1 : (some (0, false, 0, 0, false)) = some (r1, r2, r3, r4, r5) := by rw [if_neg (show ¬ (false = true) by decide)] at H; exact H
  clear H
  have H := H1
  clear H1
  simp only [Option.some.injEq, Prod.mk.injEq] at H
  obtain ⟨rfl, rfl, rfl, rfl, rfl⟩ := H
  go_enter Try.func109, Try.ntmps109
  go_wp2_with (first | ((with_reducible refine gate_dst (N := 3) rfl ?_); refine bx 3 #[.int .i64 a0_0, .int .i64 a0_1, .int .i64 a0_2, .int .i64 a0_3] 100 ?_; intro gb425 hg w37 hbox hb; have BK425 := Aside0.mk (hbox); have GW425 := ge HB hg; have GE425 := ge HB hg; replace HB := bs HB hb; clear hb hbox hg) | ((with_reducible refine gate_dst (N := 4) rfl ?_); refine bx 4 #[.int .i64 a1_0, .bool a1_1] 102 ?_; intro gb426 hg w38 hbox hb; have BK426 := Aside0.mk (hbox); have GW426 := ge HB hg; have GE426 := ge HB hg; replace HB := bs HB hb; have NB425_426 := nl BK425 hg; have NB426_425 := nr BK425 hg; replace BK425 := bb BK425 hb; clear hb hbox hg) | ((with_reducible refine gate_dst (N := 6) rfl ?_); refine bx 6 #[.int .i64 0, .bool false] 102 ?_; intro gb427 hg w39 hbox hb; have BK427 := Aside0.mk (hbox); have GW427 := ge HB hg; have GE427 := ge HB hg; replace HB := bs HB hb; have NB425_427 := nl BK425 hg; have NB427_425 := nr BK425 hg; replace BK425 := bb BK425 hb; have NB426_427 := nl BK426 hg; have NB427_426 := nr BK426 hg; replace BK426 := bb BK426 hb; clear hb hbox hg; have hnb40 := NB425_426.out; have hnc40 := NB426_425.out; have hnb41 := NB425_427.out; have hnc41 := NB427_425.out; have hcz42_0 := bc0 BK425; have hcz42_1 := bc1 BK425; have hcz42_2 := bc2 BK425; have hcz42_3 := bc3 BK425; have hfz42_0 := blk_frozen BK425.out 0; have hfz42_1 := blk_frozen BK425.out 1; have hfz42_2 := blk_frozen BK425.out 2; have hfz42_3 := blk_frozen BK425.out 3; have hnb43 := NB426_427.out; have hnc43 := NB427_426.out; have hcz44_0 := bc0 BK426; have hcz44_1 := bc1 BK426; have hfz44_0 := blk_frozen BK426.out 0; have hfz44_1 := blk_frozen BK426.out 1) | ((with_reducible refine gate_callee (f := 215) rfl ?_); refine gl 15 Try.func215 #[.agg #[.int .i64 a0_0, .int .i64 a0_1, .int .i64 a0_2, .int .i64 a0_3], .agg #[.int .i64 a1_0, .bool a1_1]] ?_; (with_reducible refine (spec_siLevel.calls a0_0 a0_1 a0_2 a0_3 a1_0 a1_1 false _ A4.out).mono ?_); rintro e w45 ⟨rfl, hb⟩; refine ⟨_, rfl, ?_⟩; replace BK425 := bb BK425 hb; replace BK426 := bb BK426 hb; replace BK427 := bb BK427 hb; replace HB := bs HB hb; (try clear hb); have hcz46_0 := bc0 BK427; have hcz46_1 := bc1 BK427; have hfz46_0 := blk_frozen BK427.out 0; have hfz46_1 := blk_frozen BK427.out 1))
  refine bodyPost_ret (results_list (rs := [.cell 6 102, .tmp 7, .tmp 8, .tmp 9]) rfl (by simp) (.cell gb427 102 #[.int .i64 0, .bool false] (0, 0) _ rfl (by refine blk_put (cs := #[.int .i64 0, .bool false]) ?_ 1 _ rfl; refine blk_put (cs := #[.int .i64 0, .bool false]) ?_ 0 _ rfl; exact bk BK427) Try.underlying102 rfl (by kernel_rfl) (.tmp (.tmp (.tmp .nil))))) rfl ?_
  exact ⟨by first | rfl | (simp [errW_none, errW_some] <;> rfl) | (simp [*, errW_none, errW_some] <;> rfl), bw HB⟩
 subst c5
 have H1 : ((spec_siInflow.f a2).bind fun t429 => (if t429 = true then ((spec_siTick.f k a0_0 a0_1 a0_2 a0_3 a1_0 a1_1 a2).bind fun bt430 => (some (bt430.1, bt430.2.1, bt430.2.2.1, bt430.2.2.2, true))) else (some (0, false, 0, 0, false)))) = some (r1, r2, r3, r4, r5) := by rw [if_pos rfl] at H; exact H
 clear H
 have H := H1
 clear H1
 replace H := Option.bind_eq_some_iff.mp H
 obtain ⟨t429, A60, H⟩ := H
 (try dsimp only at H)
 have A6 := Aside0.mk A60
 clear A60
 by_cases c7 : t429 = true
 rotate_left
 ·replace c7 := Bool.eq_false_iff.mpr c7
  subst c7
  have H1 : (some (0, false, 0, 0, false)) = some (r1, r2, r3, r4, r5) := by rw [if_neg (show ¬ (false = true) by decide)] at H; exact H
  clear H
  have H := H1
  clear H1
  simp only [Option.some.injEq, Prod.mk.injEq] at H
  obtain ⟨rfl, rfl, rfl, rfl, rfl⟩ := H
  go_enter Try.func109, Try.ntmps109
  go_wp2_with (first | ((with_reducible refine gate_dst (N := 3) rfl ?_); refine bx 3 #[.int .i64 a0_0, .int .i64 a0_1, .int .i64 a0_2, .int .i64 a0_3] 100 ?_; intro gb425 hg w27 hbox hb; have BK425 := Aside0.mk (hbox); have GW425 := ge HB hg; have GE425 := ge HB hg; replace HB := bs HB hb; clear hb hbox hg) | ((with_reducible refine gate_dst (N := 4) rfl ?_); refine bx 4 #[.int .i64 a1_0, .bool a1_1] 102 ?_; intro gb426 hg w28 hbox hb; have BK426 := Aside0.mk (hbox); have GW426 := ge HB hg; have GE426 := ge HB hg; replace HB := bs HB hb; have NB425_426 := nl BK425 hg; have NB426_425 := nr BK425 hg; replace BK425 := bb BK425 hb; clear hb hbox hg) | ((with_reducible refine gate_dst (N := 6) rfl ?_); refine bx 6 #[.int .i64 0, .bool false] 102 ?_; intro gb427 hg w29 hbox hb; have BK427 := Aside0.mk (hbox); have GW427 := ge HB hg; have GE427 := ge HB hg; replace HB := bs HB hb; have NB425_427 := nl BK425 hg; have NB427_425 := nr BK425 hg; replace BK425 := bb BK425 hb; have NB426_427 := nl BK426 hg; have NB427_426 := nr BK426 hg; replace BK426 := bb BK426 hb; clear hb hbox hg; have hnb30 := NB425_426.out; have hnc30 := NB426_425.out; have hnb31 := NB425_427.out; have hnc31 := NB427_425.out; have hcz32_0 := bc0 BK425; have hcz32_1 := bc1 BK425; have hcz32_2 := bc2 BK425; have hcz32_3 := bc3 BK425; have hfz32_0 := blk_frozen BK425.out 0; have hfz32_1 := blk_frozen BK425.out 1; have hfz32_2 := blk_frozen BK425.out 2; have hfz32_3 := blk_frozen BK425.out 3; have hnb33 := NB426_427.out; have hnc33 := NB427_426.out; have hcz34_0 := bc0 BK426; have hcz34_1 := bc1 BK426; have hfz34_0 := blk_frozen BK426.out 0; have hfz34_1 := blk_frozen BK426.out 1) | ((with_reducible refine gate_callee (f := 215) rfl ?_); refine gl 15 Try.func215 #[.agg #[.int .i64 a0_0, .int .i64 a0_1, .int .i64 a0_2, .int .i64 a0_3], .agg #[.int .i64 a1_0, .bool a1_1]] ?_; (with_reducible refine (spec_siLevel.calls a0_0 a0_1 a0_2 a0_3 a1_0 a1_1 true _ A4.out).mono ?_); rintro e w35 ⟨rfl, hb⟩; refine ⟨_, rfl, ?_⟩; replace BK425 := bb BK425 hb; replace BK426 := bb BK426 hb; replace BK427 := bb BK427 hb; replace HB := bs HB hb; (try clear hb)) | (go_at_call 216; (with_reducible refine (spec_siInflow.calls a2 false _ A6.out).mono ?_); rintro e w' ⟨rfl, ⟨nd, rfl⟩⟩; (try (rw [drewN_self w35]; generalize hq_ : World.drewN w35 _ = w35; have n0_ : Aside0 (w35.heap[gb425]? = some (.cells #[.int .i64 a0_0, .int .i64 a0_1, .int .i64 a0_2, .int .i64 a0_3] 100 (0, 0))) := ⟨by rw [← hq_]; exact (bk BK425)⟩; have n1_ : Aside0 (w35.heap[gb426]? = some (.cells #[.int .i64 a1_0, .bool a1_1] 102 (0, 0))) := ⟨by rw [← hq_]; exact (bk BK426)⟩; have n2_ : Aside0 (w35.heap[gb427]? = some (.cells #[.int .i64 0, .bool false] 102 (0, 0))) := ⟨by rw [← hq_]; exact (bk BK427)⟩; have n3_ : Aside0 (Below w.heap.size w w35) := ⟨by rw [← hq_]; exact (bw HB)⟩; clear BK425 BK426 BK427 HB hq_; have BK425 := n0_; have BK426 := n1_; have BK427 := n2_; have HB := n3_; clear n0_ n1_ n2_ n3_)); have hcz36_0 := bc0 BK427; have hcz36_1 := bc1 BK427; have hfz36_0 := blk_frozen BK427.out 0; have hfz36_1 := blk_frozen BK427.out 1))
  refine bodyPost_ret (results_list (rs := [.cell 6 102, .tmp 7, .tmp 8, .tmp 9]) rfl (by simp) (.cell gb427 102 #[.int .i64 0, .bool false] (0, 0) _ rfl (by refine blk_put (cs := #[.int .i64 0, .bool false]) ?_ 1 _ rfl; refine blk_put (cs := #[.int .i64 0, .bool false]) ?_ 0 _ rfl; exact bk BK427) Try.underlying102 rfl (by kernel_rfl) (.tmp (.tmp (.tmp .nil))))) rfl ?_
  exact ⟨by first | rfl | (simp [errW_none, errW_some] <;> rfl) | (simp [*, errW_none, errW_some] <;> rfl), bw HB⟩
 subst c7
 have H1 : ((spec_siTick.f k a0_0 a0_1 a0_2 a0_3 a1_0 a1_1 a2).bind fun bt430 => (some (bt430.1, bt430.2.1, bt430.2.2.1, bt430.2.2.2, true))) = some (r1, r2, r3, r4, r5) := by rw [if_pos rfl] at H; exact H
 clear H
 have H := H1
 clear H1
 replace H := Option.bind_eq_some_iff.mp H
 obtain ⟨⟨t430, t431, t432, t433⟩, A80, H⟩ := H
 (try dsimp only at H)
 have A8 := Aside0.mk A80
 clear A80
 simp only [Option.some.injEq, Prod.mk.injEq] at H
 obtain ⟨rfl, rfl, rfl, rfl, rfl⟩ := H
 go_enter Try.func109, Try.ntmps109
 go_wp2_with (first | ((with_reducible refine gate_dst (N := 3) rfl ?_); refine bx 3 #[.int .i64 a0_0, .int .i64 a0_1, .int .i64 a0_2, .int .i64 a0_3] 100 ?_; intro gb425 hg w9 hbox hb; have BK425 := Aside0.mk (hbox); have GW425 := ge HB hg; have GE425 := ge HB hg; replace HB := bs HB hb; clear hb hbox hg) | ((with_reducible refine gate_dst (N := 4) rfl ?_); refine bx 4 #[.int .i64 a1_0, .bool a1_1] 102 ?_; intro gb426 hg w10 hbox hb; have BK426 := Aside0.mk (hbox); have GW426 := ge HB hg; have GE426 := ge HB hg; replace HB := bs HB hb; have NB425_426 := nl BK425 hg; have NB426_425 := nr BK425 hg; replace BK425 := bb BK425 hb; clear hb hbox hg) | ((with_reducible refine gate_dst (N := 6) rfl ?_); refine bx 6 #[.int .i64 0, .bool false] 102 ?_; intro gb427 hg w11 hbox hb; have BK427 := Aside0.mk (hbox); have GW427 := ge HB hg; have GE427 := ge HB hg; replace HB := bs HB hb; have NB425_427 := nl BK425 hg; have NB427_425 := nr BK425 hg; replace BK425 := bb BK425 hb; have NB426_427 := nl BK426 hg; have NB427_426 := nr BK426 hg; replace BK426 := bb BK426 hb; clear hb hbox hg; have hnb12 := NB425_426.out; have hnc12 := NB426_425.out; have hnb13 := NB425_427.out; have hnc13 := NB427_425.out; have hcz14_0 := bc0 BK425; have hcz14_1 := bc1 BK425; have hcz14_2 := bc2 BK425; have hcz14_3 := bc3 BK425; have hfz14_0 := blk_frozen BK425.out 0; have hfz14_1 := blk_frozen BK425.out 1; have hfz14_2 := blk_frozen BK425.out 2; have hfz14_3 := blk_frozen BK425.out 3; have hnb15 := NB426_427.out; have hnc15 := NB427_426.out; have hcz16_0 := bc0 BK426; have hcz16_1 := bc1 BK426; have hfz16_0 := blk_frozen BK426.out 0; have hfz16_1 := blk_frozen BK426.out 1) | ((with_reducible refine gate_callee (f := 215) rfl ?_); refine gl 15 Try.func215 #[.agg #[.int .i64 a0_0, .int .i64 a0_1, .int .i64 a0_2, .int .i64 a0_3], .agg #[.int .i64 a1_0, .bool a1_1]] ?_; (with_reducible refine (spec_siLevel.calls a0_0 a0_1 a0_2 a0_3 a1_0 a1_1 true _ A4.out).mono ?_); rintro e w17 ⟨rfl, hb⟩; refine ⟨_, rfl, ?_⟩; replace BK425 := bb BK425 hb; replace BK426 := bb BK426 hb; replace BK427 := bb BK427 hb; replace HB := bs HB hb; (try clear hb)) | (go_at_call 216; (with_reducible refine (spec_siInflow.calls a2 true _ A6.out).mono ?_); rintro e w' ⟨rfl, ⟨nd, rfl⟩⟩; (try (rw [drewN_self w17]; generalize hq_ : World.drewN w17 _ = w17; have n0_ : Aside0 (w17.heap[gb425]? = some (.cells #[.int .i64 a0_0, .int .i64 a0_1, .int .i64 a0_2, .int .i64 a0_3] 100 (0, 0))) := ⟨by rw [← hq_]; exact (bk BK425)⟩; have n1_ : Aside0 (w17.heap[gb426]? = some (.cells #[.int .i64 a1_0, .bool a1_1] 102 (0, 0))) := ⟨by rw [← hq_]; exact (bk BK426)⟩; have n2_ : Aside0 (w17.heap[gb427]? = some (.cells #[.int .i64 0, .bool false] 102 (0, 0))) := ⟨by rw [← hq_]; exact (bk BK427)⟩; have n3_ : Aside0 (Below w.heap.size w w17) := ⟨by rw [← hq_]; exact (bw HB)⟩; clear BK425 BK426 BK427 HB hq_; have BK425 := n0_; have BK426 := n1_; have BK427 := n2_; have HB := n3_; clear n0_ n1_ n2_ n3_)); have hcz18_0 := bc0 BK425; have hcz18_1 := bc1 BK425; have hcz18_2 := bc2 BK425; have hcz18_3 := bc3 BK425; have hfz18_0 := blk_frozen BK425.out 0; have hfz18_1 := blk_frozen BK425.out 1; have hfz18_2 := blk_frozen BK425.out 2; have hfz18_3 := blk_frozen BK425.out 3; have hcz19_0 := bc0 BK426; have hcz19_1 := bc1 BK426; have hfz19_0 := blk_frozen BK426.out 0; have hfz19_1 := blk_frozen BK426.out 1) | ((with_reducible refine gate_callee (f := 217) rfl ?_); refine gl 27 Try.func217 #[.agg #[.int .i64 a0_0, .int .i64 a0_1, .int .i64 a0_2, .int .i64 a0_3], .agg #[.int .i64 a1_0, .bool a1_1], .int .i64 a2] ?_; (with_reducible refine (spec_siTick.calls k a0_0 a0_1 a0_2 a0_3 a1_0 a1_1 a2 t430 t431 t432 t433 _ A8.out).mono ?_); rintro e w20 ⟨rfl, hb⟩; refine ⟨_, rfl, ?_⟩; replace BK425 := bb BK425 hb; replace BK426 := bb BK426 hb; replace BK427 := bb BK427 hb; replace HB := bs HB hb; (try clear hb)) | ((with_reducible refine gate_dst (N := 10) rfl ?_); refine bx 10 #[.int .i64 0, .bool false] 102 ?_; intro gb434 hg w21 hbox hb; have BK434 := Aside0.mk (hbox); have GW434 := ge HB hg; have GE434 := ge HB hg; replace HB := bs HB hb; have NB425_434 := nl BK425 hg; have NB434_425 := nr BK425 hg; replace BK425 := bb BK425 hb; have NB426_434 := nl BK426 hg; have NB434_426 := nr BK426 hg; replace BK426 := bb BK426 hb; have NB427_434 := nl BK427 hg; have NB434_427 := nr BK427 hg; replace BK427 := bb BK427 hb; clear hb hbox hg; have hnb22 := NB434_425.out; have hnc22 := NB425_434.out; have hnb23 := NB434_426.out; have hnc23 := NB426_434.out; have hnb24 := NB434_427.out; have hnc24 := NB427_434.out; have hcz25_0 := bc0 BK434; have hcz25_1 := bc1 BK434; have hfz25_0 := blk_frozen BK434.out 0; have hfz25_1 := blk_frozen BK434.out 1; have hcz26_0 := bc0 BK427; have hcz26_1 := bc1 BK427; have hfz26_0 := blk_frozen BK427.out 0; have hfz26_1 := blk_frozen BK427.out 1))
 refine bodyPost_ret (results_list (rs := [.cell 6 102, .tmp 7, .tmp 8, .tmp 9]) rfl (by simp) (.cell gb427 102 #[.int .i64 t430, .bool t431] (0, 0) _ rfl (by refine blk_put (cs := #[.int .i64 t430, .bool false]) ?_ 1 _ rfl; refine blk_put (cs := #[.int .i64 0, .bool false]) ?_ 0 _ rfl; exact bk BK427) Try.underlying102 rfl (by kernel_rfl) (.tmp (.tmp (.tmp .nil))))) rfl ?_
 exact ⟨by first | rfl | (simp [errW_none, errW_some] <;> rfl) | (simp [*, errW_none, errW_some] <;> rfl), bw HB⟩
def spec_DrawIsSiphonLevel.f (k : Nat) (l0 : List Int) : Option (Int × Int × Int × Int × Int × Bool) := (spec_l1Cur_siphon.f l0 0 0).bind fun bt438 => ((spec_l1Cur_level.f k l0 bt438.2.2.2.2.1 bt438.2.2.2.2.2 bt438.1 bt438.2.1 bt438.2.2.1 bt438.2.2.2.1).bind fun bt445 => (some (bt438.1, bt438.2.1, bt438.2.2.1, bt438.2.2.2.1, bt445.1, bt445.2.1)))
set_option maxHeartbeats 8000000 in
set_option maxRecDepth 100000 in
theorem spec_DrawIsSiphonLevel.calls (k : Nat) (A0 : Option Addr) (c0 : Nat) (l0 : List Int) (r1 : Int) (r2 : Int) (r3 : Int) (r4 : Int) (r5 : Int) (r6 : Bool) (w : World) (hr0 : Kd.C (Kd.int .u8) w A0 l0.length l0) (hc0 : l0.length ≤ c0) (h : spec_DrawIsSiphonLevel.f k l0 = some (r1, r2, r3, r4, r5, r6)) :
  Calls Try.prog 110 #[.slice A0 l0.length c0] w fun e w' => e = .returned (.tuple #[.agg #[.int .i64 r1, .int .i64 r2, .int .i64 r3, .int .i64 r4], .agg #[.int .i64 r5, .bool r6]]) ∧ Below w.heap.size w w' := by
 have hu100 := Try.underlying100
 have hu102 := Try.underlying102
 have hu140 := Try.underlying140
 have HR0 := Aside0.mk hr0
 have HC0 := Aside0.mk hc0
 clear hr0 hc0
 have HB := Aside0.mk (Below.refl w.heap.size w)
 have H : ((spec_l1Cur_siphon.f l0 0 0).bind fun bt438 => ((spec_l1Cur_level.f k l0 bt438.2.2.2.2.1 bt438.2.2.2.2.2 bt438.1 bt438.2.1 bt438.2.2.1 bt438.2.2.2.1).bind fun bt445 => (some (bt438.1, bt438.2.1, bt438.2.2.1, bt438.2.2.2.1, bt445.1, bt445.2.1)))) = some (r1, r2, r3, r4, r5, r6) := h
 clear h
 replace H := Option.bind_eq_some_iff.mp H
 obtain ⟨⟨t438, t439, t440, t441, t442, t443⟩, A20, H⟩ := H
 (try dsimp only at H)
 have A2 := Aside0.mk A20
 clear A20
 replace H := Option.bind_eq_some_iff.mp H
 obtain ⟨⟨t445, t446, t447, t448⟩, A30, H⟩ := H
 (try dsimp only at H)
 have A3 := Aside0.mk A30
 clear A30
 simp only [Option.some.injEq, Prod.mk.injEq] at H
 obtain ⟨rfl, rfl, rfl, rfl, rfl, rfl⟩ := H
 go_enter Try.func110, Try.ntmps110
 try go_wp2_with (first | ((with_reducible refine gate_dst (N := 2) rfl ?_); refine bx 2 #[.int .i64 0, .int .i64 0, .int .i64 0, .int .i64 0] 100 ?_; intro gb435 hg w4 hbox hb; have BK435 := Aside0.mk (hbox); have GW435 := ge HB hg; have GE435 := ge HB hg; replace HB := bs HB hb; clear hb hbox hg) | ((with_reducible refine gate_dst (N := 3) rfl ?_); refine bx 3 #[.int .i64 0, .bool false] 102 ?_; intro gb436 hg w5 hbox hb; have BK436 := Aside0.mk (hbox); have GW436 := ge HB hg; have GE436 := ge HB hg; replace HB := bs HB hb; have NB435_436 := nl BK435 hg; have NB436_435 := nr BK435 hg; replace BK435 := bb BK435 hb; clear hb hbox hg) | ((with_reducible refine gate_dst (N := 8) rfl ?_); refine bx 8 #[.slice A0 l0.length c0, .int .i64 0, .int .u64 0] 140 ?_; intro gb437 hg w6 hbox hb; have HI437 := Aside0.mk ((⟨_, _, hbox, (by rw [hg]; exact (below_size (bw HB)) : w.heap.size ≤ gb437), HR0.out⟩ : IsS140 w _ gb437 l0 0 0)); replace HB := bs HB hb; have NB435_437 := nl BK435 hg; have NB437_435 := nr BK435 hg; replace BK435 := bb BK435 hb; have NB436_437 := nl BK436 hg; have NB437_436 := nr BK436 hg; replace BK436 := bb BK436 hb; clear hb hbox hg) | ((with_reducible refine gate_callee (f := 204) rfl ?_); refine gl 10 Try.func204 #[.pointer (some ⟨gb437, 0, none⟩)] ?_; (with_reducible refine (spec_l1Cur_siphon.calls gb437 l0 0 0 t438 t439 t440 t441 t442 t443 w _ ?side1 ?side2 A2.out).mono ?_); (case side1 => repeat (first | (with_reducible first | exact HI437.out | apply IsS140.alloc | apply IsS140.drewN | apply IsS140.drew | apply IsS140.set_1 | apply IsS140.set_2 | refine IsS140.far ?_ NB437_435.out _ | refine IsS140.far ?_ NB437_436.out _) | exact HI437.out)); (case side2 => repeat (first | (with_reducible first | exact HB.out | apply below_alloc | apply pw_below_drewN | apply below_drew1 | refine below_set ?_ (IsS140.ge HI437.out) | refine below_set ?_ GE435.out | refine below_set ?_ GE436.out) | exact HB.out)); rintro e w7 ⟨rfl, hi, hb, hk⟩; refine ⟨_, rfl, ?_⟩; replace BK435 := Aside0.mk (KeepBut.blk hk (g' := gb435) (o := .cells #[.int .i64 0, .int .i64 0, .int .i64 0, .int .i64 0] 100 (0, 0)) (bk BK435) NB435_437.out (by simp)); replace BK436 := Aside0.mk (KeepBut.blk hk (g' := gb436) (o := .cells #[.int .i64 0, .bool false] 102 (0, 0)) (bk BK436) NB436_437.out (by simp)); replace HB := Aside0.mk (hb); replace HI437 := Aside0.mk (hi); (try clear hb); (try clear hk); (try clear hi)) | ((with_reducible refine gate_dst (N := 5) rfl ?_); refine bx 5 #[.int .i64 0, .int .i64 0, .int .i64 0, .int .i64 0] 100 ?_; intro gb444 hg w8 hbox hb; have BK444 := Aside0.mk (hbox); have GW444 := Aside0.mk ((by rw [hg]; exact (below_size (by repeat (first | (with_reducible first | exact HB.out | apply below_alloc | apply pw_below_drewN | apply below_drew1 | refine below_set ?_ (IsS140.ge HI437.out) | refine below_set ?_ GE435.out | refine below_set ?_ GE436.out) | exact HB.out))) : w.heap.size ≤ gb444)); have GE444 := Aside0.mk ((by rw [hg]; exact (below_size (by repeat (first | (with_reducible first | exact HB.out | apply below_alloc | apply pw_below_drewN | apply below_drew1 | refine below_set ?_ (IsS140.ge HI437.out) | refine below_set ?_ GE435.out | refine below_set ?_ GE436.out) | exact HB.out))) : w.heap.size ≤ gb444)); replace HB := Aside0.mk (below_step (by repeat (first | (with_reducible first | exact HB.out | apply below_alloc | apply pw_below_drewN | apply below_drew1 | refine below_set ?_ (IsS140.ge HI437.out) | refine below_set ?_ GE435.out | refine below_set ?_ GE436.out) | exact HB.out)) hb); have NB435_444 := nl BK435 hg; have NB444_435 := nr BK435 hg; replace BK435 := bb BK435 hb; have NB436_444 := nl BK436 hg; have NB444_436 := nr BK436 hg; replace BK436 := bb BK436 hb; have NB437_444 := Aside0.mk ((by rw [hg]; exact Nat.ne_of_lt (IsS140.lt (show IsS140 w _ gb437 l0 t442 t443 from by repeat (first | (with_reducible first | exact HI437.out | apply IsS140.alloc | apply IsS140.drewN | apply IsS140.drew | apply IsS140.set_1 | apply IsS140.set_2 | refine IsS140.far ?_ NB437_435.out _ | refine IsS140.far ?_ NB437_436.out _) | exact HI437.out))) : gb437 ≠ gb444)); have NB444_437 := Aside0.mk ((by rw [hg]; exact Nat.ne_of_gt (IsS140.lt (show IsS140 w _ gb437 l0 t442 t443 from by repeat (first | (with_reducible first | exact HI437.out | apply IsS140.alloc | apply IsS140.drewN | apply IsS140.drew | apply IsS140.set_1 | apply IsS140.set_2 | refine IsS140.far ?_ NB437_435.out _ | refine IsS140.far ?_ NB437_436.out _) | exact HI437.out))) : gb444 ≠ gb437)); replace HI437 := Aside0.mk (IsS140.below (by repeat (first | (with_reducible first | exact HI437.out | apply IsS140.alloc | apply IsS140.drewN | apply IsS140.drew | apply IsS140.set_1 | apply IsS140.set_2 | refine IsS140.far ?_ NB437_435.out _ | refine IsS140.far ?_ NB437_436.out _) | exact HI437.out)) hb); clear hb hbox hg; have hnb9 := NB444_435.out; have hnc9 := NB435_444.out; have hnb10 := NB444_436.out; have hnc10 := NB436_444.out; have hnb11 := NB444_437.out; have hnc11 := NB437_444.out; have hcz12_0 := bc0 BK444; have hcz12_1 := bc1 BK444; have hcz12_2 := bc2 BK444; have hcz12_3 := bc3 BK444; have hfz12_0 := blk_frozen BK444.out 0; have hfz12_1 := blk_frozen BK444.out 1; have hfz12_2 := blk_frozen BK444.out 2; have hfz12_3 := blk_frozen BK444.out 3))
 have n0_ : Aside0 (((((w8.setCell ⟨gb444, 0, none⟩ (.int .i64 t438)).setCell ⟨gb444, 1, none⟩ (.int .i64 t439)).setCell ⟨gb444, 2, none⟩ (.int .i64 t440)).setCell ⟨gb444, 3, none⟩ (.int .i64 t441)).heap[gb435]? = some (.cells #[.int .i64 0, .int .i64 0, .int .i64 0, .int .i64 0] 100 (0, 0))) := ⟨bk BK435⟩
 have n1_ : Aside0 (((((w8.setCell ⟨gb444, 0, none⟩ (.int .i64 t438)).setCell ⟨gb444, 1, none⟩ (.int .i64 t439)).setCell ⟨gb444, 2, none⟩ (.int .i64 t440)).setCell ⟨gb444, 3, none⟩ (.int .i64 t441)).heap[gb436]? = some (.cells #[.int .i64 0, .bool false] 102 (0, 0))) := ⟨bk BK436⟩
 have n2_ : Aside0 (((((w8.setCell ⟨gb444, 0, none⟩ (.int .i64 t438)).setCell ⟨gb444, 1, none⟩ (.int .i64 t439)).setCell ⟨gb444, 2, none⟩ (.int .i64 t440)).setCell ⟨gb444, 3, none⟩ (.int .i64 t441)).heap[gb444]? = some (.cells #[.int .i64 t438, .int .i64 t439, .int .i64 t440, .int .i64 t441] 100 (0, 0))) := ⟨by refine blk_put (cs := #[.int .i64 t438, .int .i64 t439, .int .i64 t440, .int .i64 0]) ?_ 3 _ rfl; refine blk_put (cs := #[.int .i64 t438, .int .i64 t439, .int .i64 0, .int .i64 0]) ?_ 2 _ rfl; refine blk_put (cs := #[.int .i64 t438, .int .i64 0, .int .i64 0, .int .i64 0]) ?_ 1 _ rfl; refine blk_put (cs := #[.int .i64 0, .int .i64 0, .int .i64 0, .int .i64 0]) ?_ 0 _ rfl; exact bk BK444⟩
 have n3_ : Aside0 (IsS140 w ((((w8.setCell ⟨gb444, 0, none⟩ (.int .i64 t438)).setCell ⟨gb444, 1, none⟩ (.int .i64 t439)).setCell ⟨gb444, 2, none⟩ (.int .i64 t440)).setCell ⟨gb444, 3, none⟩ (.int .i64 t441)) gb437 l0 t442 t443) := ⟨by repeat (first | (with_reducible first | exact HI437.out | apply IsS140.alloc | apply IsS140.drewN | apply IsS140.drew | apply IsS140.set_1 | apply IsS140.set_2 | refine IsS140.far ?_ NB437_435.out _ | refine IsS140.far ?_ NB437_436.out _ | refine IsS140.far ?_ NB437_444.out _) | exact HI437.out)⟩
 have n4_ : Aside0 (Below w.heap.size w ((((w8.setCell ⟨gb444, 0, none⟩ (.int .i64 t438)).setCell ⟨gb444, 1, none⟩ (.int .i64 t439)).setCell ⟨gb444, 2, none⟩ (.int .i64 t440)).setCell ⟨gb444, 3, none⟩ (.int .i64 t441))) := ⟨by repeat (first | (with_reducible first | exact HB.out | apply below_alloc | apply pw_below_drewN | apply below_drew1 | refine below_set ?_ (IsS140.ge HI437.out) | refine below_set ?_ GE435.out | refine below_set ?_ GE436.out | refine below_set ?_ GE444.out) | exact HB.out)⟩
 (try clear BK435); (try clear BK436); (try clear BK444); (try clear HI437); (try clear HB)
 generalize ((((w8.setCell ⟨gb444, 0, none⟩ (.int .i64 t438)).setCell ⟨gb444, 1, none⟩ (.int .i64 t439)).setCell ⟨gb444, 2, none⟩ (.int .i64 t440)).setCell ⟨gb444, 3, none⟩ (.int .i64 t441)) = w13 at n0_ n1_ n2_ n3_ n4_ ⊢
 have BK435 := n0_
 have BK436 := n1_
 have BK444 := n2_
 have HI437 := n3_
 have HB := n4_
 clear n0_ n1_ n2_ n3_ n4_
 replace BK435 := Aside0.mk (blk_drew BK435.out)
 replace BK436 := Aside0.mk (blk_drew BK436.out)
 replace BK444 := Aside0.mk (blk_drew BK444.out)
 replace HI437 := Aside0.mk (IsS140.drew HI437.out)
 replace HB := Aside0.mk (below_drew1 HB.out)
 refine start_ (n := 6) (S := fun w' => w'.cell? ⟨gb444, 0, none⟩ = some (.int .i64 t438) ∧ w'.cell? ⟨gb444, 1, none⟩ = some (.int .i64 t439) ∧ w'.cell? ⟨gb444, 2, none⟩ = some (.int .i64 t440) ∧ w'.cell? ⟨gb444, 3, none⟩ = some (.int .i64 t441)) (ds := []) (bl 6 0) (by kernel_rfl) rfl rfl ⟨bc0 BK444, bc1 BK444, bc2 BK444, bc3 BK444⟩ (fun hHeld => ?_)
 generalize w13.drew = w14 at BK435 BK436 BK444 HI437 HB hHeld ⊢
 refine pure_ (i := 1) (N := some 12) (v := ?_) (a' := ?_) (bl 6 2) rfl rfl (by kernel_rfl) (fun _ _ _ h => h) (Or.inl ⟨by rfl, ?_⟩) ?_ ?_
 rotate_left; (intro w'; go_simp; with_reducible rfl); rotate_left; (simp only [sqa, sqb, sqc, sqd, i64_w, i32_w]; rfl)
 refine take_ (i := 0) (N := some 11) (v := ?_) (a' := ?_) (bl 6 3) rfl rfl (by kernel_rfl) (fun _ _ _ h => h) (Or.inl ⟨by rfl, ?_⟩) hHeld ?_ ?_
 rotate_left; (rintro w' ⟨s0, s1, s2, s3⟩; go_simp; with_reducible rfl); rotate_left; (simp only [sqa, sqb, sqc, sqd, i64_w, i32_w]; rfl)
 refine take_ (i := 2) (N := some 13) (v := ?_) (a' := ?_) (bl 6 7) rfl rfl (by kernel_rfl) (fun _ _ _ h => h) (Or.inl ⟨by rfl, ?_⟩) hHeld ?_ ?_
 rotate_left; (rintro w' ⟨s0, s1, s2, s3⟩; go_simp; with_reducible rfl); rotate_left; (simp only [sqa, sqb, sqc, sqd, i64_w, i32_w]; rfl)
 refine one_ (i := 3) (N := some 14) (bl 6 15) rfl rfl (by kernel_rfl) (by decide) (fun K hK => ?_)
 refine gs Try.func205 #[.pointer (some ⟨gb437, 0, none⟩), .agg #[.int .i64 t438, .int .i64 t439, .int .i64 t440, .int .i64 t441]] ?_
 with_reducible refine (spec_l1Cur_level.calls k gb437 l0 t442 t443 t438 t439 t440 t441 t445 t446 t447 t448 w _ ?side1 ?side2 A3.out).mono ?_
 (case side1 => repeat (first | (with_reducible first | exact HI437.out | apply IsS140.alloc | apply IsS140.drewN | apply IsS140.drew | apply IsS140.set_1 | apply IsS140.set_2 | refine IsS140.far ?_ NB437_435.out _ | refine IsS140.far ?_ NB437_436.out _ | refine IsS140.far ?_ NB437_444.out _) | exact HI437.out))
 (case side2 => repeat (first | (with_reducible first | exact HB.out | apply below_alloc | apply pw_below_drewN | apply below_drew1 | refine below_set ?_ (IsS140.ge HI437.out) | refine below_set ?_ GE435.out | refine below_set ?_ GE436.out | refine below_set ?_ GE444.out) | exact HB.out))
 rintro e w15 ⟨rfl, hi, hb, hk⟩
 refine ⟨_, rfl, ?_⟩
 replace BK435 := Aside0.mk (KeepBut.blk hk (g' := gb435) (o := .cells #[.int .i64 0, .int .i64 0, .int .i64 0, .int .i64 0] 100 (0, 0)) (bk BK435) NB435_437.out (by simp))
 replace BK436 := Aside0.mk (KeepBut.blk hk (g' := gb436) (o := .cells #[.int .i64 0, .bool false] 102 (0, 0)) (bk BK436) NB436_437.out (by simp))
 replace BK444 := Aside0.mk (KeepBut.blk hk (g' := gb444) (o := .cells #[.int .i64 t438, .int .i64 t439, .int .i64 t440, .int .i64 t441] 100 (0, 0)) (bk BK444) NB444_437.out (by simp))
 replace HB := Aside0.mk (hb)
 replace HI437 := Aside0.mk (hi)
 (try clear hb); (try clear hb2); (try clear hk); (try clear hi)
 refine hK.out _ _ ⟨bc0 BK444, bc1 BK444, bc2 BK444, bc3 BK444⟩ (fun hHeld => ?_)
 clear hK K
 refine norm_ (a' := ?_) ?_ ?_; rotate_left; (show Act.put _ (some 14) _ = _; simp only [sqa, sqb, sqc, sqd, i64_w, i32_w]; rfl)
 refine one_ (i := 4) (N := none) (bl 6 31) rfl rfl (by kernel_rfl) (by decide) (fun K hK => ?_)
 have hs16 : w15.cell? ⟨gb435, 0, none⟩ = some (.int .i64 0) := bc0 BK435
 have hfs16 := blk_frozen BK435.out 0
 have hns16_1 := NB436_435.out
 have hns16_2 := NB444_435.out
 have hms16_1 := NB435_436.out
 have hms16_2 := NB435_444.out
 have hs17 : w15.cell? ⟨gb435, 1, none⟩ = some (.int .i64 0) := bc1 BK435
 have hfs17 := blk_frozen BK435.out 1
 have hns17_1 := NB436_435.out
 have hns17_2 := NB444_435.out
 have hms17_1 := NB435_436.out
 have hms17_2 := NB435_444.out
 have hs18 : w15.cell? ⟨gb435, 2, none⟩ = some (.int .i64 0) := bc2 BK435
 have hfs18 := blk_frozen BK435.out 2
 have hns18_1 := NB436_435.out
 have hns18_2 := NB444_435.out
 have hms18_1 := NB435_436.out
 have hms18_2 := NB435_444.out
 have hs19 : w15.cell? ⟨gb435, 3, none⟩ = some (.int .i64 0) := bc3 BK435
 have hfs19 := blk_frozen BK435.out 3
 have hns19_1 := NB436_435.out
 have hns19_2 := NB444_435.out
 have hms19_1 := NB435_436.out
 have hms19_2 := NB435_444.out
 refine skip_ (w1 := ?_) (by rfl) rfl ?_ ?_
 rotate_left
 ·go_simp
  rfl
 refine hK.out _ _ ⟨((cell_far (p := ⟨gb435, _, none⟩) NB444_435.out _).trans (((cell_far (p := ⟨gb435, _, none⟩) NB444_435.out _).trans (((cell_far (p := ⟨gb435, _, none⟩) NB444_435.out _).trans (((cell_far (p := ⟨gb435, _, none⟩) NB444_435.out _).trans (hHeld.1)))))))), ((cell_far (p := ⟨gb435, _, none⟩) NB444_435.out _).trans (((cell_far (p := ⟨gb435, _, none⟩) NB444_435.out _).trans (((cell_far (p := ⟨gb435, _, none⟩) NB444_435.out _).trans (((cell_far (p := ⟨gb435, _, none⟩) NB444_435.out _).trans (hHeld.2.1)))))))), ((cell_far (p := ⟨gb435, _, none⟩) NB444_435.out _).trans (((cell_far (p := ⟨gb435, _, none⟩) NB444_435.out _).trans (((cell_far (p := ⟨gb435, _, none⟩) NB444_435.out _).trans (((cell_far (p := ⟨gb435, _, none⟩) NB444_435.out _).trans (hHeld.2.2.1)))))))), ((cell_far (p := ⟨gb435, _, none⟩) NB444_435.out _).trans (((cell_far (p := ⟨gb435, _, none⟩) NB444_435.out _).trans (((cell_far (p := ⟨gb435, _, none⟩) NB444_435.out _).trans (((cell_far (p := ⟨gb435, _, none⟩) NB444_435.out _).trans (hHeld.2.2.2))))))))⟩ (fun hHeld => ?_)
 clear hK K
 refine one_ (i := 5) (N := none) (bl 6 63) rfl rfl (by kernel_rfl) (by decide) (fun K hK => ?_)
 have hs20 : w15.cell? ⟨gb436, 0, none⟩ = some (.int .i64 0) := bc0 BK436
 have hfs20 := blk_frozen BK436.out 0
 have hns20_0 := NB435_436.out
 have hns20_2 := NB444_436.out
 have hms20_0 := NB436_435.out
 have hms20_2 := NB436_444.out
 have hs21 : w15.cell? ⟨gb436, 1, none⟩ = some (.bool false) := bc1 BK436
 have hfs21 := blk_frozen BK436.out 1
 have hns21_0 := NB435_436.out
 have hns21_2 := NB444_436.out
 have hms21_0 := NB436_435.out
 have hms21_2 := NB436_444.out
 refine skip_ (w1 := ?_) (by rfl) rfl ?_ ?_
 rotate_left
 ·go_simp
  rfl
 refine hK.out _ _ ⟨((cell_far (p := ⟨gb436, _, none⟩) NB444_436.out _).trans (((cell_far (p := ⟨gb436, _, none⟩) NB444_436.out _).trans (hHeld.1)))), ((cell_far (p := ⟨gb436, _, none⟩) NB444_436.out _).trans (((cell_far (p := ⟨gb436, _, none⟩) NB444_436.out _).trans (hHeld.2.1)))), ((cell_far (p := ⟨gb436, _, none⟩) NB444_436.out _).trans (((cell_far (p := ⟨gb436, _, none⟩) NB444_436.out _).trans (hHeld.2.2.1)))), ((cell_far (p := ⟨gb436, _, none⟩) NB444_436.out _).trans (((cell_far (p := ⟨gb436, _, none⟩) NB444_436.out _).trans (hHeld.2.2.2))))⟩ (fun hHeld => ?_)
 clear hK K
 refine done_ (by kernel_rfl) ?_
 try go_wp2
 refine bodyPost_ret (results_cc rfl _ _ gb435 gb436 100 102 #[.int .i64 t438, .int .i64 t439, .int .i64 t440, .int .i64 t441] #[.int .i64 t445, .bool t446] (0, 0) (0, 0) _ _ rfl (by refine blk_far ?_ NB435_436.out _; refine blk_far ?_ NB435_436.out _; refine blk_put (cs := #[.int .i64 t438, .int .i64 t439, .int .i64 t440, .int .i64 0]) ?_ 3 _ rfl; refine blk_put (cs := #[.int .i64 t438, .int .i64 t439, .int .i64 0, .int .i64 0]) ?_ 2 _ rfl; refine blk_put (cs := #[.int .i64 t438, .int .i64 0, .int .i64 0, .int .i64 0]) ?_ 1 _ rfl; refine blk_put (cs := #[.int .i64 0, .int .i64 0, .int .i64 0, .int .i64 0]) ?_ 0 _ rfl; exact bk BK435) Try.underlying100 rfl (by kernel_rfl) rfl (by refine blk_put (cs := #[.int .i64 t445, .bool false]) ?_ 1 _ rfl; refine blk_put (cs := #[.int .i64 0, .bool false]) ?_ 0 _ rfl; exact bk BK436) Try.underlying102 rfl (by kernel_rfl)) rfl ?_
 exact ⟨by first | rfl | (simp [errW_none, errW_some] <;> rfl) | (simp [*, errW_none, errW_some] <;> rfl), by repeat (first | (with_reducible first | exact HB.out | apply below_alloc | apply pw_below_drewN | apply below_drew1 | refine below_set ?_ (IsS140.ge HI437.out) | refine below_set ?_ GE435.out | refine below_set ?_ GE436.out | refine below_set ?_ GE444.out) | exact HB.out)⟩
def spec_IsSiphonLevel.f (a0_0 : Int) (a0_1 : Int) (a0_2 : Int) (a0_3 : Int) (a1_0 : Int) (a1_1 : Bool) : Option (Bool × Bool) := (spec_siGood.f a0_0 a0_1 a0_2 a0_3).bind fun t451 => (if t451 = true then ((spec_siLevel.f a0_0 a0_1 a0_2 a0_3 a1_0 a1_1).bind fun t452 => (some (t452, true))) else (some (false, false)))
set_option maxHeartbeats 8000000 in
set_option maxRecDepth 100000 in
theorem spec_IsSiphonLevel.calls (a0_0 : Int) (a0_1 : Int) (a0_2 : Int) (a0_3 : Int) (a1_0 : Int) (a1_1 : Bool) (r1 : Bool) (r2 : Bool) (w : World) (h : spec_IsSiphonLevel.f a0_0 a0_1 a0_2 a0_3 a1_0 a1_1 = some (r1, r2)) :
  Calls Try.prog 111 #[.agg #[.int .i64 a0_0, .int .i64 a0_1, .int .i64 a0_2, .int .i64 a0_3], .agg #[.int .i64 a1_0, .bool a1_1]] w fun e w' => e = .returned (.tuple #[.bool r1, .bool r2]) ∧ Below w.heap.size w w' := by
 have hu100 := Try.underlying100
 have hu102 := Try.underlying102
 have HB := Aside0.mk (Below.refl w.heap.size w)
 have H : ((spec_siGood.f a0_0 a0_1 a0_2 a0_3).bind fun t451 => (if t451 = true then ((spec_siLevel.f a0_0 a0_1 a0_2 a0_3 a1_0 a1_1).bind fun t452 => (some (t452, true))) else (some (false, false)))) = some (r1, r2) := h
 clear h
 replace H := Option.bind_eq_some_iff.mp H
 obtain ⟨t451, A30, H⟩ := H
 (try dsimp only at H)
 have A3 := Aside0.mk A30
 clear A30
 by_cases c4 : t451 = true
 rotate_left
 ·replace c4 := Bool.eq_false_iff.mpr c4
  subst c4
  have H1 : (some (false, false)) = some (r1, r2) := by rw [if_neg (show ¬ (false = true) by decide)] at H; exact H
  clear H
  have H := H1
  clear H1
  simp only [Option.some.injEq, Prod.mk.injEq] at H
  obtain ⟨rfl, rfl⟩ := H
  go_enter Try.func111, Try.ntmps111
  go_wp2_with (first | ((with_reducible refine gate_dst (N := 2) rfl ?_); refine bx 2 #[.int .i64 a0_0, .int .i64 a0_1, .int .i64 a0_2, .int .i64 a0_3] 100 ?_; intro gb449 hg w14 hbox hb; have BK449 := Aside0.mk (hbox); have GW449 := ge HB hg; have GE449 := ge HB hg; replace HB := bs HB hb; clear hb hbox hg) | ((with_reducible refine gate_dst (N := 3) rfl ?_); refine bx 3 #[.int .i64 a1_0, .bool a1_1] 102 ?_; intro gb450 hg w15 hbox hb; have BK450 := Aside0.mk (hbox); have GW450 := ge HB hg; have GE450 := ge HB hg; replace HB := bs HB hb; have NB449_450 := nl BK449 hg; have NB450_449 := nr BK449 hg; replace BK449 := bb BK449 hb; clear hb hbox hg; have hnb16 := NB449_450.out; have hnc16 := NB450_449.out; have hcz17_0 := bc0 BK449; have hcz17_1 := bc1 BK449; have hcz17_2 := bc2 BK449; have hcz17_3 := bc3 BK449; have hfz17_0 := blk_frozen BK449.out 0; have hfz17_1 := blk_frozen BK449.out 1; have hfz17_2 := blk_frozen BK449.out 2; have hfz17_3 := blk_frozen BK449.out 3) | ((with_reducible refine gate_callee (f := 218) rfl ?_); refine gl 7 Try.func218 #[.agg #[.int .i64 a0_0, .int .i64 a0_1, .int .i64 a0_2, .int .i64 a0_3]] ?_; (with_reducible refine (spec_siGood.calls a0_0 a0_1 a0_2 a0_3 false _ A3.out).mono ?_); rintro e w18 ⟨rfl, hb⟩; refine ⟨_, rfl, ?_⟩; replace BK449 := bb BK449 hb; replace BK450 := bb BK450 hb; replace HB := bs HB hb; (try clear hb)))
  go_ret2
  exact ⟨by first | rfl | (simp [errW_none, errW_some] <;> rfl) | (simp [*, errW_none, errW_some] <;> rfl), bw HB⟩
 subst c4
 have H1 : ((spec_siLevel.f a0_0 a0_1 a0_2 a0_3 a1_0 a1_1).bind fun t452 => (some (t452, true))) = some (r1, r2) := by rw [if_pos rfl] at H; exact H
 clear H
 have H := H1
 clear H1
 replace H := Option.bind_eq_some_iff.mp H
 obtain ⟨t452, A50, H⟩ := H
 (try dsimp only at H)
 have A5 := Aside0.mk A50
 clear A50
 simp only [Option.some.injEq, Prod.mk.injEq] at H
 obtain ⟨rfl, rfl⟩ := H
 go_enter Try.func111, Try.ntmps111
 go_wp2_with (first | ((with_reducible refine gate_dst (N := 2) rfl ?_); refine bx 2 #[.int .i64 a0_0, .int .i64 a0_1, .int .i64 a0_2, .int .i64 a0_3] 100 ?_; intro gb449 hg w6 hbox hb; have BK449 := Aside0.mk (hbox); have GW449 := ge HB hg; have GE449 := ge HB hg; replace HB := bs HB hb; clear hb hbox hg) | ((with_reducible refine gate_dst (N := 3) rfl ?_); refine bx 3 #[.int .i64 a1_0, .bool a1_1] 102 ?_; intro gb450 hg w7 hbox hb; have BK450 := Aside0.mk (hbox); have GW450 := ge HB hg; have GE450 := ge HB hg; replace HB := bs HB hb; have NB449_450 := nl BK449 hg; have NB450_449 := nr BK449 hg; replace BK449 := bb BK449 hb; clear hb hbox hg; have hnb8 := NB449_450.out; have hnc8 := NB450_449.out; have hcz9_0 := bc0 BK449; have hcz9_1 := bc1 BK449; have hcz9_2 := bc2 BK449; have hcz9_3 := bc3 BK449; have hfz9_0 := blk_frozen BK449.out 0; have hfz9_1 := blk_frozen BK449.out 1; have hfz9_2 := blk_frozen BK449.out 2; have hfz9_3 := blk_frozen BK449.out 3) | ((with_reducible refine gate_callee (f := 218) rfl ?_); refine gl 7 Try.func218 #[.agg #[.int .i64 a0_0, .int .i64 a0_1, .int .i64 a0_2, .int .i64 a0_3]] ?_; (with_reducible refine (spec_siGood.calls a0_0 a0_1 a0_2 a0_3 true _ A3.out).mono ?_); rintro e w10 ⟨rfl, hb⟩; refine ⟨_, rfl, ?_⟩; replace BK449 := bb BK449 hb; replace BK450 := bb BK450 hb; replace HB := bs HB hb; (try clear hb); have hcz11_0 := bc0 BK449; have hcz11_1 := bc1 BK449; have hcz11_2 := bc2 BK449; have hcz11_3 := bc3 BK449; have hfz11_0 := blk_frozen BK449.out 0; have hfz11_1 := blk_frozen BK449.out 1; have hfz11_2 := blk_frozen BK449.out 2; have hfz11_3 := blk_frozen BK449.out 3; have hcz12_0 := bc0 BK450; have hcz12_1 := bc1 BK450; have hfz12_0 := blk_frozen BK450.out 0; have hfz12_1 := blk_frozen BK450.out 1) | ((with_reducible refine gate_callee (f := 215) rfl ?_); refine gl 11 Try.func215 #[.agg #[.int .i64 a0_0, .int .i64 a0_1, .int .i64 a0_2, .int .i64 a0_3], .agg #[.int .i64 a1_0, .bool a1_1]] ?_; (with_reducible refine (spec_siLevel.calls a0_0 a0_1 a0_2 a0_3 a1_0 a1_1 t452 _ A5.out).mono ?_); rintro e w13 ⟨rfl, hb⟩; refine ⟨_, rfl, ?_⟩; replace BK449 := bb BK449 hb; replace BK450 := bb BK450 hb; replace HB := bs HB hb; (try clear hb)))
 go_ret2
 exact ⟨by first | rfl | (simp [errW_none, errW_some] <;> rfl) | (simp [*, errW_none, errW_some] <;> rfl), bw HB⟩
def impl_CapacityOf.f (a0_0 : Int) (a0_1 : Int) (a0_2 : Int) (a0_3 : Int) : Option (Int × Bool) := (impl_IsSiphon.f a0_0 a0_1 a0_2 a0_3).bind fun t454 => (if t454 = true then (some (wrap64 (a0_2 - a0_1), true)) else (some (0, false)))
set_option maxHeartbeats 8000000 in
set_option maxRecDepth 100000 in
theorem impl_CapacityOf.calls (a0_0 : Int) (a0_1 : Int) (a0_2 : Int) (a0_3 : Int) (r1 : Int) (r2 : Bool) (w : World) (h : impl_CapacityOf.f a0_0 a0_1 a0_2 a0_3 = some (r1, r2)) :
  Calls Try.prog 112 #[.agg #[.int .i64 a0_0, .int .i64 a0_1, .int .i64 a0_2, .int .i64 a0_3]] w fun e w' => e = .returned (.tuple #[.int .i64 r1, .bool r2]) ∧ Below w.heap.size w w' := by
 have hu100 := Try.underlying100
 have HB := Aside0.mk (Below.refl w.heap.size w)
 have H : ((impl_IsSiphon.f a0_0 a0_1 a0_2 a0_3).bind fun t454 => (if t454 = true then (some (wrap64 (a0_2 - a0_1), true)) else (some (0, false)))) = some (r1, r2) := h
 clear h
 replace H := Option.bind_eq_some_iff.mp H
 obtain ⟨t454, A20, H⟩ := H
 (try dsimp only at H)
 have A2 := Aside0.mk A20
 clear A20
 by_cases c3 : t454 = true
 ·subst c3
  have H1 : (some (wrap64 (a0_2 - a0_1), true)) = some (r1, r2) := by rw [if_pos rfl] at H; exact H
  clear H
  have H := H1
  clear H1
  simp only [Option.some.injEq, Prod.mk.injEq] at H
  obtain ⟨rfl, rfl⟩ := H
  go_enter Try.func112, Try.ntmps112
  go_wp2_with (first | ((with_reducible refine gate_dst (N := 1) rfl ?_); refine bx 1 #[.int .i64 a0_0, .int .i64 a0_1, .int .i64 a0_2, .int .i64 a0_3] 100 ?_; intro gb453 hg w4 hbox hb; have BK453 := Aside0.mk (hbox); have GW453 := ge HB hg; have GE453 := ge HB hg; replace HB := bs HB hb; clear hb hbox hg; have hcz5_0 := bc0 BK453; have hcz5_1 := bc1 BK453; have hcz5_2 := bc2 BK453; have hcz5_3 := bc3 BK453; have hfz5_0 := blk_frozen BK453.out 0; have hfz5_1 := blk_frozen BK453.out 1; have hfz5_2 := blk_frozen BK453.out 2; have hfz5_3 := blk_frozen BK453.out 3) | ((with_reducible refine gate_callee (f := 114) rfl ?_); refine gl 5 Try.func114 #[.agg #[.int .i64 a0_0, .int .i64 a0_1, .int .i64 a0_2, .int .i64 a0_3]] ?_; (with_reducible refine (impl_IsSiphon.calls a0_0 a0_1 a0_2 a0_3 true _ A2.out).mono ?_); rintro e w6 ⟨rfl, hb⟩; refine ⟨_, rfl, ?_⟩; replace BK453 := bb BK453 hb; replace HB := bs HB hb; (try clear hb); have hcz7_0 := bc0 BK453; have hcz7_1 := bc1 BK453; have hcz7_2 := bc2 BK453; have hcz7_3 := bc3 BK453; have hfz7_0 := blk_frozen BK453.out 0; have hfz7_1 := blk_frozen BK453.out 1; have hfz7_2 := blk_frozen BK453.out 2; have hfz7_3 := blk_frozen BK453.out 3))
  go_ret2
  exact ⟨by first | rfl | (simp [errW_none, errW_some] <;> rfl) | (simp [*, errW_none, errW_some] <;> rfl), bw HB⟩
 replace c3 := Bool.eq_false_iff.mpr c3
 subst c3
 have H1 : (some (0, false)) = some (r1, r2) := by rw [if_neg (show ¬ (false = true) by decide)] at H; exact H
 clear H
 have H := H1
 clear H1
 simp only [Option.some.injEq, Prod.mk.injEq] at H
 obtain ⟨rfl, rfl⟩ := H
 go_enter Try.func112, Try.ntmps112
 go_wp2_with (first | ((with_reducible refine gate_dst (N := 1) rfl ?_); refine bx 1 #[.int .i64 a0_0, .int .i64 a0_1, .int .i64 a0_2, .int .i64 a0_3] 100 ?_; intro gb453 hg w8 hbox hb; have BK453 := Aside0.mk (hbox); have GW453 := ge HB hg; have GE453 := ge HB hg; replace HB := bs HB hb; clear hb hbox hg; have hcz9_0 := bc0 BK453; have hcz9_1 := bc1 BK453; have hcz9_2 := bc2 BK453; have hcz9_3 := bc3 BK453; have hfz9_0 := blk_frozen BK453.out 0; have hfz9_1 := blk_frozen BK453.out 1; have hfz9_2 := blk_frozen BK453.out 2; have hfz9_3 := blk_frozen BK453.out 3) | ((with_reducible refine gate_callee (f := 114) rfl ?_); refine gl 5 Try.func114 #[.agg #[.int .i64 a0_0, .int .i64 a0_1, .int .i64 a0_2, .int .i64 a0_3]] ?_; (with_reducible refine (impl_IsSiphon.calls a0_0 a0_1 a0_2 a0_3 false _ A2.out).mono ?_); rintro e w10 ⟨rfl, hb⟩; refine ⟨_, rfl, ?_⟩; replace BK453 := bb BK453 hb; replace HB := bs HB hb; (try clear hb)))
 go_ret2
 exact ⟨by first | rfl | (simp [errW_none, errW_some] <;> rfl) | (simp [*, errW_none, errW_some] <;> rfl), bw HB⟩
def spec_CapacityOf.f (a0_0 : Int) (a0_1 : Int) (a0_2 : Int) (a0_3 : Int) : Option (Int × Bool) := (spec_siGood.f a0_0 a0_1 a0_2 a0_3).bind fun t456 => (if t456 = true then (some (wrap64 (a0_2 - a0_1), true)) else (some (0, false)))
set_option maxHeartbeats 8000000 in
set_option maxRecDepth 100000 in
theorem spec_CapacityOf.calls (a0_0 : Int) (a0_1 : Int) (a0_2 : Int) (a0_3 : Int) (r1 : Int) (r2 : Bool) (w : World) (h : spec_CapacityOf.f a0_0 a0_1 a0_2 a0_3 = some (r1, r2)) :
  Calls Try.prog 113 #[.agg #[.int .i64 a0_0, .int .i64 a0_1, .int .i64 a0_2, .int .i64 a0_3]] w fun e w' => e = .returned (.tuple #[.int .i64 r1, .bool r2]) ∧ Below w.heap.size w w' := by
 have hu100 := Try.underlying100
 have HB := Aside0.mk (Below.refl w.heap.size w)
 have H : ((spec_siGood.f a0_0 a0_1 a0_2 a0_3).bind fun t456 => (if t456 = true then (some (wrap64 (a0_2 - a0_1), true)) else (some (0, false)))) = some (r1, r2) := h
 clear h
 replace H := Option.bind_eq_some_iff.mp H
 obtain ⟨t456, A20, H⟩ := H
 (try dsimp only at H)
 have A2 := Aside0.mk A20
 clear A20
 by_cases c3 : t456 = true
 ·subst c3
  have H1 : (some (wrap64 (a0_2 - a0_1), true)) = some (r1, r2) := by rw [if_pos rfl] at H; exact H
  clear H
  have H := H1
  clear H1
  simp only [Option.some.injEq, Prod.mk.injEq] at H
  obtain ⟨rfl, rfl⟩ := H
  go_enter Try.func113, Try.ntmps113
  go_wp2_with (first | ((with_reducible refine gate_dst (N := 1) rfl ?_); refine bx 1 #[.int .i64 a0_0, .int .i64 a0_1, .int .i64 a0_2, .int .i64 a0_3] 100 ?_; intro gb455 hg w4 hbox hb; have BK455 := Aside0.mk (hbox); have GW455 := ge HB hg; have GE455 := ge HB hg; replace HB := bs HB hb; clear hb hbox hg; have hcz5_0 := bc0 BK455; have hcz5_1 := bc1 BK455; have hcz5_2 := bc2 BK455; have hcz5_3 := bc3 BK455; have hfz5_0 := blk_frozen BK455.out 0; have hfz5_1 := blk_frozen BK455.out 1; have hfz5_2 := blk_frozen BK455.out 2; have hfz5_3 := blk_frozen BK455.out 3) | ((with_reducible refine gate_callee (f := 218) rfl ?_); refine gl 5 Try.func218 #[.agg #[.int .i64 a0_0, .int .i64 a0_1, .int .i64 a0_2, .int .i64 a0_3]] ?_; (with_reducible refine (spec_siGood.calls a0_0 a0_1 a0_2 a0_3 true _ A2.out).mono ?_); rintro e w6 ⟨rfl, hb⟩; refine ⟨_, rfl, ?_⟩; replace BK455 := bb BK455 hb; replace HB := bs HB hb; (try clear hb); have hcz7_0 := bc0 BK455; have hcz7_1 := bc1 BK455; have hcz7_2 := bc2 BK455; have hcz7_3 := bc3 BK455; have hfz7_0 := blk_frozen BK455.out 0; have hfz7_1 := blk_frozen BK455.out 1; have hfz7_2 := blk_frozen BK455.out 2; have hfz7_3 := blk_frozen BK455.out 3))
  go_ret2
  exact ⟨by first | rfl | (simp [errW_none, errW_some] <;> rfl) | (simp [*, errW_none, errW_some] <;> rfl), bw HB⟩
 replace c3 := Bool.eq_false_iff.mpr c3
 subst c3
 have H1 : (some (0, false)) = some (r1, r2) := by rw [if_neg (show ¬ (false = true) by decide)] at H; exact H
 clear H
 have H := H1
 clear H1
 simp only [Option.some.injEq, Prod.mk.injEq] at H
 obtain ⟨rfl, rfl⟩ := H
 go_enter Try.func113, Try.ntmps113
 go_wp2_with (first | ((with_reducible refine gate_dst (N := 1) rfl ?_); refine bx 1 #[.int .i64 a0_0, .int .i64 a0_1, .int .i64 a0_2, .int .i64 a0_3] 100 ?_; intro gb455 hg w8 hbox hb; have BK455 := Aside0.mk (hbox); have GW455 := ge HB hg; have GE455 := ge HB hg; replace HB := bs HB hb; clear hb hbox hg; have hcz9_0 := bc0 BK455; have hcz9_1 := bc1 BK455; have hcz9_2 := bc2 BK455; have hcz9_3 := bc3 BK455; have hfz9_0 := blk_frozen BK455.out 0; have hfz9_1 := blk_frozen BK455.out 1; have hfz9_2 := blk_frozen BK455.out 2; have hfz9_3 := blk_frozen BK455.out 3) | ((with_reducible refine gate_callee (f := 218) rfl ?_); refine gl 5 Try.func218 #[.agg #[.int .i64 a0_0, .int .i64 a0_1, .int .i64 a0_2, .int .i64 a0_3]] ?_; (with_reducible refine (spec_siGood.calls a0_0 a0_1 a0_2 a0_3 false _ A2.out).mono ?_); rintro e w10 ⟨rfl, hb⟩; refine ⟨_, rfl, ?_⟩; replace BK455 := bb BK455 hb; replace HB := bs HB hb; (try clear hb)))
 go_ret2
 exact ⟨by first | rfl | (simp [errW_none, errW_some] <;> rfl) | (simp [*, errW_none, errW_some] <;> rfl), bw HB⟩
def spec_IsSiphon.f (a0_0 : Int) (a0_1 : Int) (a0_2 : Int) (a0_3 : Int) : Option (Bool) := (spec_siGood.f a0_0 a0_1 a0_2 a0_3).bind fun t458 => (some t458)
set_option maxHeartbeats 8000000 in
set_option maxRecDepth 100000 in
theorem spec_IsSiphon.calls (a0_0 : Int) (a0_1 : Int) (a0_2 : Int) (a0_3 : Int) (r : Bool) (w : World) (h : spec_IsSiphon.f a0_0 a0_1 a0_2 a0_3 = some r) :
  Calls Try.prog 115 #[.agg #[.int .i64 a0_0, .int .i64 a0_1, .int .i64 a0_2, .int .i64 a0_3]] w fun e w' => e = .returned (.bool r) ∧ Below w.heap.size w w' := by
 have hu100 := Try.underlying100
 have HB := Aside0.mk (Below.refl w.heap.size w)
 have H : ((spec_siGood.f a0_0 a0_1 a0_2 a0_3).bind fun t458 => (some t458)) = some r := h
 clear h
 replace H := Option.bind_eq_some_iff.mp H
 obtain ⟨t458, A20, H⟩ := H
 (try dsimp only at H)
 have A2 := Aside0.mk A20
 clear A20
 obtain rfl := Option.some.inj H
 go_enter Try.func115, Try.ntmps115
 go_wp2_with (first | ((with_reducible refine gate_dst (N := 1) rfl ?_); refine bx 1 #[.int .i64 a0_0, .int .i64 a0_1, .int .i64 a0_2, .int .i64 a0_3] 100 ?_; intro gb457 hg w3 hbox hb; have BK457 := Aside0.mk (hbox); have GW457 := ge HB hg; have GE457 := ge HB hg; replace HB := bs HB hb; clear hb hbox hg; have hcz4_0 := bc0 BK457; have hcz4_1 := bc1 BK457; have hcz4_2 := bc2 BK457; have hcz4_3 := bc3 BK457; have hfz4_0 := blk_frozen BK457.out 0; have hfz4_1 := blk_frozen BK457.out 1; have hfz4_2 := blk_frozen BK457.out 2; have hfz4_3 := blk_frozen BK457.out 3) | ((with_reducible refine gate_callee (f := 218) rfl ?_); refine gl 4 Try.func218 #[.agg #[.int .i64 a0_0, .int .i64 a0_1, .int .i64 a0_2, .int .i64 a0_3]] ?_; (with_reducible refine (spec_siGood.calls a0_0 a0_1 a0_2 a0_3 t458 _ A2.out).mono ?_); rintro e w5 ⟨rfl, hb⟩; refine ⟨_, rfl, ?_⟩; replace BK457 := bb BK457 hb; replace HB := bs HB hb; (try clear hb)))
 go_ret
 exact ⟨by first | rfl | (simp [errW_none, errW_some] <;> rfl) | (simp [*, errW_none, errW_some] <;> rfl), bw HB⟩
end Go.Proofs.Ytmlkdkeocbhajaa.K
