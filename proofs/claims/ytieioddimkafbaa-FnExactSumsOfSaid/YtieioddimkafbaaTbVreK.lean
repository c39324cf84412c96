/- impl.keyOf: that the calls come to the key. -/
import Derived.Test.YtieioddimkafbaaTbGvKey
import Derived.Test.YtieioddimkafbaaTbVx
namespace Go.Proofs.Ytieioddimkafbaa.V
open Go.RowKit Go.Proofs.YtieioddimkafbaaW.PrintWords Go.Proofs.YtieioddimkafbaaW.PrintLast Go.Proofs.YtieioddimkafbaaW.PrintMore Go.Proofs.Ytieioddimkafbaa.Sq Go.Proofs.Ytieioddimkafbaa.Sep
attribute [local go_sem] max2_int min2_int max_two min_two max_three min_three max_four min_four
set_option linter.unusedVariables false
set_option linter.unusedSimpArgs false
def impl_keyOf.T2 : Bool × List (List Nat × List Nat) := (true, [([], []), ([], []), ([1], [1]), ([0, 2], [0, 2])])
def impl_keyOf.B2 : List Nat := [0, 0, 2, 7]
theorem impl_keyOf.tab2 : rtab .any (opsOf Try.f61 2) = impl_keyOf.T2 := by kernel_rfl
theorem impl_keyOf.bits2 : waitsOk impl_keyOf.T2.2 impl_keyOf.B2 = true := by kernel_rfl
theorem keyCells (l1 : List Int) : (l1.take 5).map (Value.int .i64) ++ [Value.int .i64 0, Value.int .i64 0, Value.int .i64 0, Value.int .i64 0, Value.int .i64 0].drop (min 5 l1.length) = [Value.int .i64 (l1.getD 0 0), Value.int .i64 (l1.getD 1 0), Value.int .i64 (l1.getD 2 0), Value.int .i64 (l1.getD 3 0), Value.int .i64 (l1.getD 4 0)] := by
 rcases l1 with _ | ⟨a, _ | ⟨b, _ | ⟨c, _ | ⟨d, _ | ⟨e, r⟩⟩⟩⟩⟩ <;> simp
set_option maxHeartbeats 8000000 in
set_option maxRecDepth 100000 in
theorem impl_keyOf.calls (A0 : Option Addr) (c0 : Nat) (l0 : List Int) (A1 : Option Addr) (c1 : Nat) (l1 : List Int) (w : World) (h1 : Kd.C (Kd.int .i64) w A1 l1.length l1) :
  Calls Try.prog 61 #[.agg #[.slice A0 l0.length c0, .slice A1 l1.length c1]] w fun e w' => e = .returned (Gv.ev5 (Gv.key5 l1)) ∧ Below w.heap.size w w' := by
 have hu29 := Try.underlying35
 have hu92 := Try.underlying90
 have HS := SB.start w (fun _ => True) (fun w => Kd.C (Kd.int .i64) w A1 l1.length l1) _ (Kd.C_F (Kd.heap_int .i64) h1) (fun _ _ => trivial) (fun _ _ => trivial)
 clear h1
 obtain ⟨q0, hq0⟩ : ∃ y_ : Int, y_ = l1.getD 0 0 := ⟨_, rfl⟩
 obtain ⟨q1, hq1⟩ : ∃ y_ : Int, y_ = l1.getD 1 0 := ⟨_, rfl⟩
 obtain ⟨q2, hq2⟩ : ∃ y_ : Int, y_ = l1.getD 2 0 := ⟨_, rfl⟩
 obtain ⟨q3, hq3⟩ : ∃ y_ : Int, y_ = l1.getD 3 0 := ⟨_, rfl⟩
 obtain ⟨q4, hq4⟩ : ∃ y_ : Int, y_ = l1.getD 4 0 := ⟨_, rfl⟩
 have Nq0 := Aside0.mk hq0
 have Nq1 := Aside0.mk hq1
 have Nq2 := Aside0.mk hq2
 have Nq3 := Aside0.mk hq3
 have Nq4 := Aside0.mk hq4
 clear hq0 hq1 hq2 hq3 hq4
 go_enter Try.func61, Try.ntmps61
 go_wp2_with (first | ((with_reducible refine gate_dst (N := 1) rfl ?_); refine SB.bx HS 1 #[.slice A0 l0.length c0, .slice A1 l1.length c1] 35 ?_; clear HS; intro g1 w1 HS G1) | ((with_reducible refine gate_dst (N := 2) rfl ?_); refine SB.bx HS 2 #[.int .i64 0, .int .i64 0, .int .i64 0, .int .i64 0, .int .i64 0] 90 ?_; clear HS; intro g2 w2 HS G2) | ((with_reducible refine gate_dst (N := 3) rfl ?_); refine SB.bx HS 3 #[.int .i64 0, .int .i64 0, .int .i64 0, .int .i64 0, .int .i64 0] 90 ?_; clear HS; intro g3 w3 HS G3; have hk3 := SB.cells (g := g3) (cells := #[.int .i64 0, .int .i64 0, .int .i64 0, .int .i64 0, .int .i64 0]) (t := 90) HS 3; have hcz3_0 := bc0 hk3; have hcz3_1 := bc1 hk3; have hcz3_2 := bc2 hk3; have hcz3_3 := bc3 hk3; have hcz3_4 := bc4 hk3; have hfz3_0 := blk_frozen hk3.out 0; have hfz3_1 := blk_frozen hk3.out 1; have hfz3_2 := blk_frozen hk3.out 2; have hfz3_3 := blk_frozen hk3.out 3; have hfz3_4 := blk_frozen hk3.out 4))
 replace HS := (SB.set (SB.set (SB.set (SB.set (SB.set HS 3 0 (.int .i64 0) #[.int .i64 0, .int .i64 0, .int .i64 0, .int .i64 0, .int .i64 0] G3.out) 3 1 (.int .i64 0) #[.int .i64 0, .int .i64 0, .int .i64 0, .int .i64 0, .int .i64 0] G3.out) 3 2 (.int .i64 0) #[.int .i64 0, .int .i64 0, .int .i64 0, .int .i64 0, .int .i64 0] G3.out) 3 3 (.int .i64 0) #[.int .i64 0, .int .i64 0, .int .i64 0, .int .i64 0, .int .i64 0] G3.out) 3 4 (.int .i64 0) #[.int .i64 0, .int .i64 0, .int .i64 0, .int .i64 0, .int .i64 0] G3.out)
 (try clear hk3 hcz3_0 hcz3_1 hcz3_2 hcz3_3 hcz3_4 hfz3_0 hfz3_1 hfz3_2 hfz3_3 hfz3_4)
 revert HS
 generalize (((((w3.setCell ⟨g3, 0, none⟩ (.int .i64 0)).setCell ⟨g3, 1, none⟩ (.int .i64 0)).setCell ⟨g3, 2, none⟩ (.int .i64 0)).setCell ⟨g3, 3, none⟩ (.int .i64 0)).setCell ⟨g3, 4, none⟩ (.int .i64 0)) = w4
 intro HS
 replace HS := SB.up (W := w4.drew) HS
 have HS : SB (fun _ => True) w w4.drew [rd (fun w => Kd.C (Kd.int .i64) w A1 l1.length l1), blk g1 #[.slice A0 l0.length c0, .slice A1 l1.length c1] 35, blk g2 #[.int .i64 0, .int .i64 0, .int .i64 0, .int .i64 0, .int .i64 0] 90, blk g3 #[.int .i64 0, .int .i64 0, .int .i64 0, .int .i64 0, .int .i64 0] 90] := HS
 have hk5 := SB.cells (g := g1) (cells := #[.slice A0 l0.length c0, .slice A1 l1.length c1]) (t := 35) HS 1
 refine start_ (n := 4) (S := fun w' => w'.cell? ⟨g1, 1, none⟩ = some (.slice A1 l1.length c1)) (ds := []) (bl 4 0) (by kernel_rfl) rfl rfl (bc1 hk5) (fun hHeld => ?_)
 refine with_tabW impl_keyOf.tab2 impl_keyOf.bits2 (fun HT_ HW_ => ?_)
 clear hk5
 generalize w4.drew = w5 at HS hHeld ⊢
 refine pu 0 5 (bl 4 1) HT_.out (v := ?_) (a' := ?_) ?_ ?_ ?_
 rotate_left; (intro w'; go_simp; with_reducible rfl); rotate_left; (simp only [sqa, sqb, sqc, sqd, i64_w, i32_w]; rfl)
 refine pu 1 6 (bl 4 3) HT_.out (v := ?_) (a' := ?_) ?_ ?_ ?_
 rotate_left; (intro w'; go_simp; with_reducible rfl); rotate_left; (simp only [sqa, sqb, sqc, sqd, i64_w, i32_w]; rfl)
 refine tk 2 7 (bl 4 7) HT_.out HW_.out hHeld (v := ?_) (a' := ?_) ?_ ?_ ?_
 rotate_left; (intro w' s0; go_simp; with_reducible rfl); rotate_left; (simp only [sqa, sqb, sqc, sqd, i64_w, i32_w]; rfl)
 refine on 3 8 (bl 4 15) HT_.out (fun K hK => ?_)
 refine SB.copyB_step HS 3 (.tmp 5) (.tmp 7) 30 30 3 g3 5 [.int .i64 0, .int .i64 0, .int .i64 0, .int .i64 0, .int .i64 0] 90 l1 A1 c1 Try.underlying30 (by kernel_rfl) rfl rfl (SB.foot (Q := fun w => Kd.C (Kd.int .i64) w A1 l1.length l1) HS 0).now rfl ?_ G3.out
 clear HS
 intro w6 q HS
 rw [keyCells, ← Nq0.out, ← Nq1.out, ← Nq2.out, ← Nq3.out, ← Nq4.out] at HS
 have hk6 := SB.cells (g := g1) (cells := #[.slice A0 l0.length c0, .slice A1 l1.length c1]) (t := 35) HS 1
 refine hK.out _ _ (bc1 hk6) (fun hHeld => ?_)
 clear hK K hk6
 refine norm_ (a' := ?_) ?_ ?_; rotate_left; (show Act.put _ (some 8) _ = _; simp only [sqa, sqb, sqc, sqd, i64_w, i32_w]; rfl)
 refine done_ (done_of HT_.out (by kernel_rfl)) ?_
 clear HT_ HW_ hHeld
 have HS : SB (fun _ => True) w w6 [rd (fun w => Kd.C (Kd.int .i64) w A1 l1.length l1), blk g1 #[.slice A0 l0.length c0, .slice A1 l1.length c1] 35, blk g2 #[.int .i64 0, .int .i64 0, .int .i64 0, .int .i64 0, .int .i64 0] 90, blk g3 #[.int .i64 q0, .int .i64 q1, .int .i64 q2, .int .i64 q3, .int .i64 q4] 90] := HS
 have hk7 := SB.cells (g := g3) (cells := #[.int .i64 q0, .int .i64 q1, .int .i64 q2, .int .i64 q3, .int .i64 q4]) (t := 90) HS 3
 have hcz7_0 := bc0 hk7
 have hcz7_1 := bc1 hk7
 have hcz7_2 := bc2 hk7
 have hcz7_3 := bc3 hk7
 have hcz7_4 := bc4 hk7
 have hfz7_0 := blk_frozen hk7.out 0
 have hfz7_1 := blk_frozen hk7.out 1
 have hfz7_2 := blk_frozen hk7.out 2
 have hfz7_3 := blk_frozen hk7.out 3
 have hfz7_4 := blk_frozen hk7.out 4
 have hk8 := SB.cells (g := g2) (cells := #[.int .i64 0, .int .i64 0, .int .i64 0, .int .i64 0, .int .i64 0]) (t := 90) HS 2
 have hcz8_0 := bc0 hk8
 have hcz8_1 := bc1 hk8
 have hcz8_2 := bc2 hk8
 have hcz8_3 := bc3 hk8
 have hcz8_4 := bc4 hk8
 have hfz8_0 := blk_frozen hk8.out 0
 have hfz8_1 := blk_frozen hk8.out 1
 have hfz8_2 := blk_frozen hk8.out 2
 have hfz8_3 := blk_frozen hk8.out 3
 have hfz8_4 := blk_frozen hk8.out 4
 have ne23 : g2 ≠ g3 := fun e => SB.ne HS 2 3 (g := g2) (c := blk g2 #[.int .i64 0, .int .i64 0, .int .i64 0, .int .i64 0, .int .i64 0] 90) (d := blk g3 #[.int .i64 q0, .int .i64 q1, .int .i64 q2, .int .i64 q3, .int .i64 q4] 90) (by decide) (fun ok h => h.2) (by rw [e]; rfl)
 have ne32 := ne23.symm
 try go_wp2
 replace HS := (SB.set (SB.set (SB.set (SB.set (SB.set HS 2 0 (.int .i64 q0) #[.int .i64 q0, .int .i64 0, .int .i64 0, .int .i64 0, .int .i64 0] G2.out) 2 1 (.int .i64 q1) #[.int .i64 q0, .int .i64 q1, .int .i64 0, .int .i64 0, .int .i64 0] G2.out) 2 2 (.int .i64 q2) #[.int .i64 q0, .int .i64 q1, .int .i64 q2, .int .i64 0, .int .i64 0] G2.out) 2 3 (.int .i64 q3) #[.int .i64 q0, .int .i64 q1, .int .i64 q2, .int .i64 q3, .int .i64 0] G2.out) 2 4 (.int .i64 q4) #[.int .i64 q0, .int .i64 q1, .int .i64 q2, .int .i64 q3, .int .i64 q4] G2.out)
 (try clear hk7 hcz7_0 hcz7_1 hcz7_2 hcz7_3 hcz7_4 hfz7_0 hfz7_1 hfz7_2 hfz7_3 hfz7_4)
 (try clear hk8 hcz8_0 hcz8_1 hcz8_2 hcz8_3 hcz8_4 hfz8_0 hfz8_1 hfz8_2 hfz8_3 hfz8_4)
 revert HS
 generalize (((((w6.setCell ⟨g2, 0, none⟩ (.int .i64 q0)).setCell ⟨g2, 1, none⟩ (.int .i64 q1)).setCell ⟨g2, 2, none⟩ (.int .i64 q2)).setCell ⟨g2, 3, none⟩ (.int .i64 q3)).setCell ⟨g2, 4, none⟩ (.int .i64 q4)) = w9
 intro HS
 have hk9 := SB.cells (g := g2) (cells := #[.int .i64 q0, .int .i64 q1, .int .i64 q2, .int .i64 q3, .int .i64 q4]) (t := 90) HS 2
 have hcz9_0 := bc0 hk9
 have hcz9_1 := bc1 hk9
 have hcz9_2 := bc2 hk9
 have hcz9_3 := bc3 hk9
 have hcz9_4 := bc4 hk9
 (try simp only [Exit.inBlock, Exit.then])
 refine bodyPost_ret (results_cell_row rfl _ _ g2 90 #[.int .i64 q0, .int .i64 q1, .int .i64 q2, .int .i64 q3, .int .i64 q4] (0, 0) _ rfl hk9.out Try.underlying90 rfl (by kernel_rfl)) rfl ?_
 rw [Nq0.out, Nq1.out, Nq2.out, Nq3.out, Nq4.out]
 exact ⟨rfl, HS.b⟩
end Go.Proofs.Ytieioddimkafbaa.V
