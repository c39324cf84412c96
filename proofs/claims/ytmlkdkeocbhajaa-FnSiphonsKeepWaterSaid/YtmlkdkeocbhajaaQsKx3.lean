-- Functions of the program as plain functions, and that the calls come to them. Written by a program (ownprint.py); nothing here is trusted: Lean checks it.
import Derived.Test.YtmlkdkeocbhajaaQsKx0
import Derived.Test.YtmlkdkeocbhajaaQsGvCell
import Derived.Test.YtmlkdkeocbhajaaQsKx2
namespace Go.Proofs.Ytmlkdkeocbhajaa.K
open Go.RowKit Go.Proofs.YtmlkdkeocbhajaaW.PrintWords Go.Proofs.YtmlkdkeocbhajaaW.PrintLast Go.Proofs.YtmlkdkeocbhajaaW.PrintMore Go.Proofs.Ytmlkdkeocbhajaa.Sq
attribute [local go_sem] max2_int min2_int max_two min_two max_three min_three max_four min_four   -- for this text's walks alone
set_option linter.unusedVariables false
set_option linter.unusedSimpArgs false
def impl_Siphon_tick.f (a0_0 : Int) (a0_1 : Int) (a0_2 : Int) (a0_3 : Int) (a1_0 : Int) (a1_1 : Bool) (a2 : Int) : Option (Int × Bool × Int × Int) := if a1_1 = true then (some (wrap64 ((wrap64 ((wrap64 (a1_0 + a2)) - (mx 0 (wrap64 ((wrap64 (a1_0 + a2)) - a0_0))))) - (mn a0_3 (mx 0 (wrap64 ((wrap64 ((wrap64 (a1_0 + a2)) - (mx 0 (wrap64 ((wrap64 (a1_0 + a2)) - a0_0))))) - a0_1))))), decide ((wrap64 ((wrap64 ((wrap64 (a1_0 + a2)) - (mx 0 (wrap64 ((wrap64 (a1_0 + a2)) - a0_0))))) - (mn a0_3 (mx 0 (wrap64 ((wrap64 ((wrap64 (a1_0 + a2)) - (mx 0 (wrap64 ((wrap64 (a1_0 + a2)) - a0_0))))) - a0_1)))))) > a0_1), mn a0_3 (mx 0 (wrap64 ((wrap64 ((wrap64 (a1_0 + a2)) - (mx 0 (wrap64 ((wrap64 (a1_0 + a2)) - a0_0))))) - a0_1))), mx 0 (wrap64 ((wrap64 (a1_0 + a2)) - a0_0)))) else (if (wrap64 ((wrap64 (a1_0 + a2)) - (mx 0 (wrap64 ((wrap64 (a1_0 + a2)) - a0_0))))) ≥ a0_2 then (some (wrap64 ((wrap64 ((wrap64 (a1_0 + a2)) - (mx 0 (wrap64 ((wrap64 (a1_0 + a2)) - a0_0))))) - (mn a0_3 (mx 0 (wrap64 ((wrap64 ((wrap64 (a1_0 + a2)) - (mx 0 (wrap64 ((wrap64 (a1_0 + a2)) - a0_0))))) - a0_1))))), decide ((wrap64 ((wrap64 ((wrap64 (a1_0 + a2)) - (mx 0 (wrap64 ((wrap64 (a1_0 + a2)) - a0_0))))) - (mn a0_3 (mx 0 (wrap64 ((wrap64 ((wrap64 (a1_0 + a2)) - (mx 0 (wrap64 ((wrap64 (a1_0 + a2)) - a0_0))))) - a0_1)))))) > a0_1), mn a0_3 (mx 0 (wrap64 ((wrap64 ((wrap64 (a1_0 + a2)) - (mx 0 (wrap64 ((wrap64 (a1_0 + a2)) - a0_0))))) - a0_1))), mx 0 (wrap64 ((wrap64 (a1_0 + a2)) - a0_0)))) else (some (wrap64 ((wrap64 (a1_0 + a2)) - (mx 0 (wrap64 ((wrap64 (a1_0 + a2)) - a0_0)))), decide ((wrap64 ((wrap64 (a1_0 + a2)) - (mx 0 (wrap64 ((wrap64 (a1_0 + a2)) - a0_0))))) ≥ a0_2), 0, mx 0 (wrap64 ((wrap64 (a1_0 + a2)) - a0_0)))))
set_option maxHeartbeats 8000000 in
set_option maxRecDepth 100000 in
theorem impl_Siphon_tick.calls (a0_0 : Int) (a0_1 : Int) (a0_2 : Int) (a0_3 : Int) (a1_0 : Int) (a1_1 : Bool) (a2 : Int) (r1 : Int) (r2 : Bool) (r3 : Int) (r4 : Int) (w : World) (h : impl_Siphon_tick.f a0_0 a0_1 a0_2 a0_3 a1_0 a1_1 a2 = some (r1, r2, r3, r4)) :
  Calls Try.prog 213 #[.agg #[.int .i64 a0_0, .int .i64 a0_1, .int .i64 a0_2, .int .i64 a0_3], .agg #[.int .i64 a1_0, .bool a1_1], .int .i64 a2] w fun e w' => e = .returned (.tuple #[.agg #[.int .i64 r1, .bool r2], .int .i64 r3, .int .i64 r4]) ∧ Below w.heap.size w w' := by
 have hu100 := Try.underlying100
 have hu102 := Try.underlying102
 have HB := Aside0.mk (Below.refl w.heap.size w)
 have H : (if a1_1 = true then (some (wrap64 ((wrap64 ((wrap64 (a1_0 + a2)) - (mx 0 (wrap64 ((wrap64 (a1_0 + a2)) - a0_0))))) - (mn a0_3 (mx 0 (wrap64 ((wrap64 ((wrap64 (a1_0 + a2)) - (mx 0 (wrap64 ((wrap64 (a1_0 + a2)) - a0_0))))) - a0_1))))), decide ((wrap64 ((wrap64 ((wrap64 (a1_0 + a2)) - (mx 0 (wrap64 ((wrap64 (a1_0 + a2)) - a0_0))))) - (mn a0_3 (mx 0 (wrap64 ((wrap64 ((wrap64 (a1_0 + a2)) - (mx 0 (wrap64 ((wrap64 (a1_0 + a2)) - a0_0))))) - a0_1)))))) > a0_1), mn a0_3 (mx 0 (wrap64 ((wrap64 ((wrap64 (a1_0 + a2)) - (mx 0 (wrap64 ((wrap64 (a1_0 + a2)) - a0_0))))) - a0_1))), mx 0 (wrap64 ((wrap64 (a1_0 + a2)) - a0_0)))) else (if (wrap64 ((wrap64 (a1_0 + a2)) - (mx 0 (wrap64 ((wrap64 (a1_0 + a2)) - a0_0))))) ≥ a0_2 then (some (wrap64 ((wrap64 ((wrap64 (a1_0 + a2)) - (mx 0 (wrap64 ((wrap64 (a1_0 + a2)) - a0_0))))) - (mn a0_3 (mx 0 (wrap64 ((wrap64 ((wrap64 (a1_0 + a2)) - (mx 0 (wrap64 ((wrap64 (a1_0 + a2)) - a0_0))))) - a0_1))))), decide ((wrap64 ((wrap64 ((wrap64 (a1_0 + a2)) - (mx 0 (wrap64 ((wrap64 (a1_0 + a2)) - a0_0))))) - (mn a0_3 (mx 0 (wrap64 ((wrap64 ((wrap64 (a1_0 + a2)) - (mx 0 (wrap64 ((wrap64 (a1_0 + a2)) - a0_0))))) - a0_1)))))) > a0_1), mn a0_3 (mx 0 (wrap64 ((wrap64 ((wrap64 (a1_0 + a2)) - (mx 0 (wrap64 ((wrap64 (a1_0 + a2)) - a0_0))))) - a0_1))), mx 0 (wrap64 ((wrap64 (a1_0 + a2)) - a0_0)))) else (some (wrap64 ((wrap64 (a1_0 + a2)) - (mx 0 (wrap64 ((wrap64 (a1_0 + a2)) - a0_0)))), decide ((wrap64 ((wrap64 (a1_0 + a2)) - (mx 0 (wrap64 ((wrap64 (a1_0 + a2)) - a0_0))))) ≥ a0_2), 0, mx 0 (wrap64 ((wrap64 (a1_0 + a2)) - a0_0)))))) = some (r1, r2, r3, r4) := h
 clear h
 obtain ⟨ji4, hji4⟩ : ∃ j_ : Int, (mx 0 (wrap64 ((wrap64 (a1_0 + a2)) - a0_0))) = j_ := ⟨_, rfl⟩
 replace H : (if a1_1 = true then (some (wrap64 ((wrap64 ((wrap64 (a1_0 + a2)) - (ji4))) - (mn a0_3 (mx 0 (wrap64 ((wrap64 ((wrap64 (a1_0 + a2)) - (ji4))) - a0_1))))), decide ((wrap64 ((wrap64 ((wrap64 (a1_0 + a2)) - (ji4))) - (mn a0_3 (mx 0 (wrap64 ((wrap64 ((wrap64 (a1_0 + a2)) - (ji4))) - a0_1)))))) > a0_1), mn a0_3 (mx 0 (wrap64 ((wrap64 ((wrap64 (a1_0 + a2)) - (ji4))) - a0_1))), ji4)) else (if (wrap64 ((wrap64 (a1_0 + a2)) - (ji4))) ≥ a0_2 then (some (wrap64 ((wrap64 ((wrap64 (a1_0 + a2)) - (ji4))) - (mn a0_3 (mx 0 (wrap64 ((wrap64 ((wrap64 (a1_0 + a2)) - (ji4))) - a0_1))))), decide ((wrap64 ((wrap64 ((wrap64 (a1_0 + a2)) - (ji4))) - (mn a0_3 (mx 0 (wrap64 ((wrap64 ((wrap64 (a1_0 + a2)) - (ji4))) - a0_1)))))) > a0_1), mn a0_3 (mx 0 (wrap64 ((wrap64 ((wrap64 (a1_0 + a2)) - (ji4))) - a0_1))), ji4)) else (some (wrap64 ((wrap64 (a1_0 + a2)) - (ji4)), decide ((wrap64 ((wrap64 (a1_0 + a2)) - (ji4))) ≥ a0_2), 0, ji4)))) = some (r1, r2, r3, r4) := by first | (rw [hji4] at H; exact H) | (simp only [hji4] at H ⊢; exact H)
 (try (have hji4l : 0 ≤ ji4 := by (rw [← hji4]; unfold mx; (repeat' split) <;> omega)))
 (try (have hji4m : 0 ≤ ji4 := by omega))
 have hji4_ : (if 0 < (wrap64 ((wrap64 (a1_0 + a2)) - a0_0)) then (wrap64 ((wrap64 (a1_0 + a2)) - a0_0)) else 0) = ji4 := hji4
 by_cases c5 : a1_1 = true
 ·subst c5
  have H1 : (some (wrap64 ((wrap64 ((wrap64 (a1_0 + a2)) - (ji4))) - (mn a0_3 (mx 0 (wrap64 ((wrap64 ((wrap64 (a1_0 + a2)) - (ji4))) - a0_1))))), decide ((wrap64 ((wrap64 ((wrap64 (a1_0 + a2)) - (ji4))) - (mn a0_3 (mx 0 (wrap64 ((wrap64 ((wrap64 (a1_0 + a2)) - (ji4))) - a0_1)))))) > a0_1), mn a0_3 (mx 0 (wrap64 ((wrap64 ((wrap64 (a1_0 + a2)) - (ji4))) - a0_1))), ji4)) = some (r1, r2, r3, r4) := by rw [if_pos rfl] at H; exact H
  clear H
  have H := H1
  clear H1
  obtain ⟨ji6, hji6⟩ : ∃ j_ : Int, (mx 0 (wrap64 ((wrap64 ((wrap64 (a1_0 + a2)) - (ji4))) - a0_1))) = j_ := ⟨_, rfl⟩
  replace H : (some (wrap64 ((wrap64 ((wrap64 (a1_0 + a2)) - (ji4))) - (mn a0_3 (ji6))), decide ((wrap64 ((wrap64 ((wrap64 (a1_0 + a2)) - (ji4))) - (mn a0_3 (ji6)))) > a0_1), mn a0_3 (ji6), ji4)) = some (r1, r2, r3, r4) := by first | (rw [hji6] at H; exact H) | (simp only [hji6] at H ⊢; exact H)
  have hji6_ : (if 0 < (wrap64 ((wrap64 ((wrap64 (a1_0 + a2)) - (ji4))) - a0_1)) then (wrap64 ((wrap64 ((wrap64 (a1_0 + a2)) - (ji4))) - a0_1)) else 0) = ji6 := hji6
  obtain ⟨ji7, hji7⟩ : ∃ j_ : Int, (mn a0_3 (ji6)) = j_ := ⟨_, rfl⟩
  replace H : (some (wrap64 ((wrap64 ((wrap64 (a1_0 + a2)) - (ji4))) - (ji7)), decide ((wrap64 ((wrap64 ((wrap64 (a1_0 + a2)) - (ji4))) - (ji7))) > a0_1), ji7, ji4)) = some (r1, r2, r3, r4) := by first | (rw [hji7] at H; exact H) | (simp only [hji7] at H ⊢; exact H)
  have hji7_ : (if (ji6) < a0_3 then (ji6) else a0_3) = ji7 := hji7
  simp only [Option.some.injEq, Prod.mk.injEq] at H
  obtain ⟨rfl, rfl, rfl, rfl⟩ := H
  go_enter Try.func213, Try.ntmps213
  go_wp2_with (first | ((with_reducible refine gate_dst (N := 3) rfl ?_); refine bx 3 #[.int .i64 a0_0, .int .i64 a0_1, .int .i64 a0_2, .int .i64 a0_3] 100 ?_; intro gb252 hg w8 hbox hb; have BK252 := Aside0.mk (hbox); have GW252 := ge HB hg; have GE252 := ge HB hg; replace HB := bs HB hb; clear hb hbox hg) | ((with_reducible refine gate_dst (N := 4) rfl ?_); refine bx 4 #[.int .i64 a1_0, .bool true] 102 ?_; intro gb253 hg w9 hbox hb; have BK253 := Aside0.mk (hbox); have GW253 := ge HB hg; have GE253 := ge HB hg; replace HB := bs HB hb; have NB252_253 := nl BK252 hg; have NB253_252 := nr BK252 hg; replace BK252 := bb BK252 hb; clear hb hbox hg) | ((with_reducible refine gate_dst (N := 6) rfl ?_); refine bx 6 #[.int .i64 0, .bool false] 102 ?_; intro gb254 hg w10 hbox hb; have BK254 := Aside0.mk (hbox); have GW254 := ge HB hg; have GE254 := ge HB hg; replace HB := bs HB hb; have NB252_254 := nl BK252 hg; have NB254_252 := nr BK252 hg; replace BK252 := bb BK252 hb; have NB253_254 := nl BK253 hg; have NB254_253 := nr BK253 hg; replace BK253 := bb BK253 hb; clear hb hbox hg; have hnb11 := NB253_252.out; have hnc11 := NB252_253.out; have hnb12 := NB253_254.out; have hnc12 := NB254_253.out; have hcz13_0 := bc0 BK253; have hcz13_1 := bc1 BK253; have hfz13_0 := blk_frozen BK253.out 0; have hfz13_1 := blk_frozen BK253.out 1; have hnb14 := NB252_254.out; have hnc14 := NB254_252.out; have hcz15_0 := bc0 BK252; have hcz15_1 := bc1 BK252; have hcz15_2 := bc2 BK252; have hcz15_3 := bc3 BK252; have hfz15_0 := blk_frozen BK252.out 0; have hfz15_1 := blk_frozen BK252.out 1; have hfz15_2 := blk_frozen BK252.out 2; have hfz15_3 := blk_frozen BK252.out 3; have hcz16_0 := bc0 BK254; have hcz16_1 := bc1 BK254; have hfz16_0 := blk_frozen BK254.out 0; have hfz16_1 := blk_frozen BK254.out 1))
  refine bodyPost_ret (results_ctt rfl _ _ gb254 102 #[.int .i64 (wrap64 ((wrap64 ((wrap64 (a1_0 + a2)) - (ji4))) - (ji7))), .bool (decide ((wrap64 ((wrap64 ((wrap64 (a1_0 + a2)) - (ji4))) - (ji7))) > a0_1))] (0, 0) _ rfl (by refine blk_put (cs := #[.int .i64 (wrap64 ((wrap64 ((wrap64 (a1_0 + a2)) - (ji4))) - (ji7))), .bool false]) ?_ 1 _ rfl; refine blk_put (cs := #[.int .i64 0, .bool false]) ?_ 0 _ rfl; exact bk BK254) Try.underlying102 rfl (by kernel_rfl)) rfl ?_
  exact ⟨by first | rfl | (simp [errW_none, errW_some] <;> rfl) | (simp only [← hji4, ← hji6, ← hji7]; first | rfl | (simp [errW_none, errW_some] <;> rfl)) | (simp [*, errW_none, errW_some] <;> rfl), bw HB⟩
 replace c5 := Bool.eq_false_iff.mpr c5
 subst c5
 have H1 : (if (wrap64 ((wrap64 (a1_0 + a2)) - (ji4))) ≥ a0_2 then (some (wrap64 ((wrap64 ((wrap64 (a1_0 + a2)) - (ji4))) - (mn a0_3 (mx 0 (wrap64 ((wrap64 ((wrap64 (a1_0 + a2)) - (ji4))) - a0_1))))), decide ((wrap64 ((wrap64 ((wrap64 (a1_0 + a2)) - (ji4))) - (mn a0_3 (mx 0 (wrap64 ((wrap64 ((wrap64 (a1_0 + a2)) - (ji4))) - a0_1)))))) > a0_1), mn a0_3 (mx 0 (wrap64 ((wrap64 ((wrap64 (a1_0 + a2)) - (ji4))) - a0_1))), ji4)) else (some (wrap64 ((wrap64 (a1_0 + a2)) - (ji4)), decide ((wrap64 ((wrap64 (a1_0 + a2)) - (ji4))) ≥ a0_2), 0, ji4))) = some (r1, r2, r3, r4) := by rw [if_neg (show ¬ (false = true) by decide)] at H; exact H
 clear H
 have H := H1
 clear H1
 by_cases c17 : (wrap64 ((wrap64 (a1_0 + a2)) - (ji4))) ≥ a0_2
 rotate_left
 ·rw [if_neg c17] at H
  have c17b0 : decide (a0_2 ≤ (wrap64 ((wrap64 (a1_0 + a2)) - (ji4)))) = false := decide_eq_false c17
  clear c17
  simp only [Option.some.injEq, Prod.mk.injEq] at H
  obtain ⟨rfl, rfl, rfl, rfl⟩ := H
  go_enter Try.func213, Try.ntmps213
  go_wp2_with (first | ((with_reducible refine gate_dst (N := 3) rfl ?_); refine bx 3 #[.int .i64 a0_0, .int .i64 a0_1, .int .i64 a0_2, .int .i64 a0_3] 100 ?_; intro gb252 hg w29 hbox hb; have BK252 := Aside0.mk (hbox); have GW252 := ge HB hg; have GE252 := ge HB hg; replace HB := bs HB hb; clear hb hbox hg) | ((with_reducible refine gate_dst (N := 4) rfl ?_); refine bx 4 #[.int .i64 a1_0, .bool false] 102 ?_; intro gb253 hg w30 hbox hb; have BK253 := Aside0.mk (hbox); have GW253 := ge HB hg; have GE253 := ge HB hg; replace HB := bs HB hb; have NB252_253 := nl BK252 hg; have NB253_252 := nr BK252 hg; replace BK252 := bb BK252 hb; clear hb hbox hg) | ((with_reducible refine gate_dst (N := 6) rfl ?_); refine bx 6 #[.int .i64 0, .bool false] 102 ?_; intro gb254 hg w31 hbox hb; have BK254 := Aside0.mk (hbox); have GW254 := ge HB hg; have GE254 := ge HB hg; replace HB := bs HB hb; have NB252_254 := nl BK252 hg; have NB254_252 := nr BK252 hg; replace BK252 := bb BK252 hb; have NB253_254 := nl BK253 hg; have NB254_253 := nr BK253 hg; replace BK253 := bb BK253 hb; clear hb hbox hg; have hnb32 := NB253_252.out; have hnc32 := NB252_253.out; have hnb33 := NB253_254.out; have hnc33 := NB254_253.out; have hcz34_0 := bc0 BK253; have hcz34_1 := bc1 BK253; have hfz34_0 := blk_frozen BK253.out 0; have hfz34_1 := blk_frozen BK253.out 1; have hnb35 := NB252_254.out; have hnc35 := NB254_252.out; have hcz36_0 := bc0 BK252; have hcz36_1 := bc1 BK252; have hcz36_2 := bc2 BK252; have hcz36_3 := bc3 BK252; have hfz36_0 := blk_frozen BK252.out 0; have hfz36_1 := blk_frozen BK252.out 1; have hfz36_2 := blk_frozen BK252.out 2; have hfz36_3 := blk_frozen BK252.out 3; have hcz37_0 := bc0 BK254; have hcz37_1 := bc1 BK254; have hfz37_0 := blk_frozen BK254.out 0; have hfz37_1 := blk_frozen BK254.out 1))
  refine bodyPost_ret (results_ctt rfl _ _ gb254 102 #[.int .i64 (wrap64 ((wrap64 (a1_0 + a2)) - (ji4))), .bool false] (0, 0) _ rfl (by refine blk_put (cs := #[.int .i64 (wrap64 ((wrap64 (a1_0 + a2)) - (ji4))), .bool false]) ?_ 1 _ rfl; refine blk_put (cs := #[.int .i64 0, .bool false]) ?_ 0 _ rfl; exact bk BK254) Try.underlying102 rfl (by kernel_rfl)) rfl ?_
  exact ⟨by first | rfl | (simp [errW_none, errW_some] <;> rfl) | (simp only [← hji4]; first | rfl | (simp [errW_none, errW_some] <;> rfl)) | (simp [*, errW_none, errW_some] <;> rfl), bw HB⟩
 rw [if_pos c17] at H
 have c17b0 : decide (a0_2 ≤ (wrap64 ((wrap64 (a1_0 + a2)) - (ji4)))) = true := decide_eq_true c17
 clear c17
 obtain ⟨ji18, hji18⟩ : ∃ j_ : Int, (mx 0 (wrap64 ((wrap64 ((wrap64 (a1_0 + a2)) - (ji4))) - a0_1))) = j_ := ⟨_, rfl⟩
 replace H : (some (wrap64 ((wrap64 ((wrap64 (a1_0 + a2)) - (ji4))) - (mn a0_3 (ji18))), decide ((wrap64 ((wrap64 ((wrap64 (a1_0 + a2)) - (ji4))) - (mn a0_3 (ji18)))) > a0_1), mn a0_3 (ji18), ji4)) = some (r1, r2, r3, r4) := by first | (rw [hji18] at H; exact H) | (simp only [hji18] at H ⊢; exact H)
 have hji18_ : (if 0 < (wrap64 ((wrap64 ((wrap64 (a1_0 + a2)) - (ji4))) - a0_1)) then (wrap64 ((wrap64 ((wrap64 (a1_0 + a2)) - (ji4))) - a0_1)) else 0) = ji18 := hji18
 obtain ⟨ji19, hji19⟩ : ∃ j_ : Int, (mn a0_3 (ji18)) = j_ := ⟨_, rfl⟩
 replace H : (some (wrap64 ((wrap64 ((wrap64 (a1_0 + a2)) - (ji4))) - (ji19)), decide ((wrap64 ((wrap64 ((wrap64 (a1_0 + a2)) - (ji4))) - (ji19))) > a0_1), ji19, ji4)) = some (r1, r2, r3, r4) := by first | (rw [hji19] at H; exact H) | (simp only [hji19] at H ⊢; exact H)
 have hji19_ : (if (ji18) < a0_3 then (ji18) else a0_3) = ji19 := hji19
 simp only [Option.some.injEq, Prod.mk.injEq] at H
 obtain ⟨rfl, rfl, rfl, rfl⟩ := H
 go_enter Try.func213, Try.ntmps213
 go_wp2_with (first | ((with_reducible refine gate_dst (N := 3) rfl ?_); refine bx 3 #[.int .i64 a0_0, .int .i64 a0_1, .int .i64 a0_2, .int .i64 a0_3] 100 ?_; intro gb252 hg w20 hbox hb; have BK252 := Aside0.mk (hbox); have GW252 := ge HB hg; have GE252 := ge HB hg; replace HB := bs HB hb; clear hb hbox hg) | ((with_reducible refine gate_dst (N := 4) rfl ?_); refine bx 4 #[.int .i64 a1_0, .bool false] 102 ?_; intro gb253 hg w21 hbox hb; have BK253 := Aside0.mk (hbox); have GW253 := ge HB hg; have GE253 := ge HB hg; replace HB := bs HB hb; have NB252_253 := nl BK252 hg; have NB253_252 := nr BK252 hg; replace BK252 := bb BK252 hb; clear hb hbox hg) | ((with_reducible refine gate_dst (N := 6) rfl ?_); refine bx 6 #[.int .i64 0, .bool false] 102 ?_; intro gb254 hg w22 hbox hb; have BK254 := Aside0.mk (hbox); have GW254 := ge HB hg; have GE254 := ge HB hg; replace HB := bs HB hb; have NB252_254 := nl BK252 hg; have NB254_252 := nr BK252 hg; replace BK252 := bb BK252 hb; have NB253_254 := nl BK253 hg; have NB254_253 := nr BK253 hg; replace BK253 := bb BK253 hb; clear hb hbox hg; have hnb23 := NB253_252.out; have hnc23 := NB252_253.out; have hnb24 := NB253_254.out; have hnc24 := NB254_253.out; have hcz25_0 := bc0 BK253; have hcz25_1 := bc1 BK253; have hfz25_0 := blk_frozen BK253.out 0; have hfz25_1 := blk_frozen BK253.out 1; have hnb26 := NB252_254.out; have hnc26 := NB254_252.out; have hcz27_0 := bc0 BK252; have hcz27_1 := bc1 BK252; have hcz27_2 := bc2 BK252; have hcz27_3 := bc3 BK252; have hfz27_0 := blk_frozen BK252.out 0; have hfz27_1 := blk_frozen BK252.out 1; have hfz27_2 := blk_frozen BK252.out 2; have hfz27_3 := blk_frozen BK252.out 3; have hcz28_0 := bc0 BK254; have hcz28_1 := bc1 BK254; have hfz28_0 := blk_frozen BK254.out 0; have hfz28_1 := blk_frozen BK254.out 1))
 refine bodyPost_ret (results_ctt rfl _ _ gb254 102 #[.int .i64 (wrap64 ((wrap64 ((wrap64 (a1_0 + a2)) - (ji4))) - (ji19))), .bool (decide ((wrap64 ((wrap64 ((wrap64 (a1_0 + a2)) - (ji4))) - (ji19))) > a0_1))] (0, 0) _ rfl (by refine blk_put (cs := #[.int .i64 (wrap64 ((wrap64 ((wrap64 (a1_0 + a2)) - (ji4))) - (ji19))), .bool false]) ?_ 1 _ rfl; refine blk_put (cs := #[.int .i64 0, .bool false]) ?_ 0 _ rfl; exact bk BK254) Try.underlying102 rfl (by kernel_rfl)) rfl ?_
 exact ⟨by first | rfl | (simp [errW_none, errW_some] <;> rfl) | (simp only [← hji4, ← hji18, ← hji19]; first | rfl | (simp [errW_none, errW_some] <;> rfl)) | (simp [*, errW_none, errW_some] <;> rfl), bw HB⟩
def impl_Siphon_run.l0 : Nat → List Int → Int → Int → Int → Int → Int → Int → Int → Bool → List (S102) → List Int → List Int → Option ((List (S102)) × List Int × List Int)
 | 0, _, _, _, _, _, _, _, _, _, _, _, _ => none
 | k + 1, x16, x17, x18, x256000, x256001, x256002, x256003, x257000, x257001, x262000, x262001, x262002 => if x18 < x17 then (if 0 ≤ x18 then (if x18 < (x16.length : Int) then ((impl_Siphon_tick.f x256000 x256001 x256002 x256003 x257000 x257001 (rd x16 x18)).bind fun bt263 => ((some (([(⟨bt263.1, bt263.2.1⟩ : S102)] : List (S102)) : List (S102))).bind fun y268 => (if x262000.length + y268.length < 8796093022208 then ((some (([bt263.2.2.1] : List Int) : List Int)).bind fun y274 => (if x262001.length + y274.length < 17592186044416 then ((some (([bt263.2.2.2] : List Int) : List Int)).bind fun y280 => (if x262002.length + y280.length < 17592186044416 then (impl_Siphon_run.l0 k x16 x17 (wrap64 (x18 + 1)) x256000 x256001 x256002 x256003 bt263.1 bt263.2.1 (x262000 ++ y268) (x262001 ++ y274) (x262002 ++ y280)) else (none))) else (none))) else (none)))) else (none)) else (none)) else (some (x262000, x262001, x262002))
def impl_Siphon_run.f (k : Nat) (a0_0 : Int) (a0_1 : Int) (a0_2 : Int) (a0_3 : Int) (a1_0 : Int) (a1_1 : Bool) (l2 : List Int) : Option ((List (S102)) × List Int × List Int) := impl_Siphon_run.l0 k l2 (l2.length : Int) 0 a0_0 a0_1 a0_2 a0_3 a1_0 a1_1 (([(⟨a1_0, a1_1⟩ : S102)] : List (S102))) ([] : List Int) ([] : List Int)
def impl_Siphon_run.T6 : Bool × List (List Nat × List Nat) := (true, [([], []), ([0], [0]), ([], []), ([2], [2]), ([1, 3], [1, 3]), ([], []), ([5], [5]), ([], []), ([7], [7]), ([6, 8, 4], [6, 8]), ([], []), ([10], [10]), ([], []), ([12], [12]), ([11, 13, 9], [11, 13]), ([0, 1, 2, 3, 4, 5, 6, 10, 11], []), ([15, 4, 14, 0, 1, 2, 3, 4, 5, 6, 10, 11], [4, 15]), ([0, 1, 2, 3, 4, 5, 6, 7, 8, 9, 10, 11, 15, 16], []), ([17, 9, 16, 0, 1, 2, 3, 4, 5, 6, 7, 8, 9, 10, 11, 15, 16], [9, 17]), ([0, 1, 2, 3, 4, 5, 6, 7, 8, 9, 10, 11, 12, 13, 14, 15, 16, 17, 18], []), ([19, 14, 18, 0, 1, 2, 3, 4, 5, 6, 7, 8, 9, 10, 11, 12, 13, 14, 15, 16, 17, 18], [14, 19])])
def impl_Siphon_run.B6 : List Nat := [0, 1, 0, 4, 15, 0, 32, 0, 128, 511, 0, 1024, 0, 4096, 16383, 3199, 65535, 131071, 262143, 524287, 1048575]
theorem impl_Siphon_run.tab6 : rtab .any (opsOf Try.f209 6) = impl_Siphon_run.T6 := by kernel_rfl
theorem impl_Siphon_run.bits6 : waitsOk impl_Siphon_run.T6.2 impl_Siphon_run.B6 = true := by kernel_rfl
set_option maxHeartbeats 8000000 in
set_option maxRecDepth 100000 in
theorem impl_Siphon_run.calls (k : Nat) (a0_0 : Int) (a0_1 : Int) (a0_2 : Int) (a0_3 : Int) (a1_0 : Int) (a1_1 : Bool) (A2 : Option Addr) (c2 : Nat) (l2 : List Int) (r1 : List (S102)) (r2 : List Int) (r3 : List Int) (w : World) (hr2 : Kd.C (Kd.int .i64) w A2 l2.length l2) (hc2 : l2.length ≤ c2) (h : impl_Siphon_run.f k a0_0 a0_1 a0_2 a0_3 a1_0 a1_1 l2 = some (r1, r2, r3)) :
  Calls Try.prog 209 #[.agg #[.int .i64 a0_0, .int .i64 a0_1, .int .i64 a0_2, .int .i64 a0_3], .agg #[.int .i64 a1_0, .bool a1_1], .slice A2 l2.length c2] w fun e w' => ∃ v0_ v1_ v2_ : Value, e = .returned (.agg #[v0_, v1_, v2_]) ∧ Kd.R k102 102 w' w.heap.size (fun _ => True) v0_ r1 ∧ Kd.R (Kd.int .i64) 3 w' w.heap.size (fun k_ => some k_ ≠ (v2_ : Value).ownBlock) v1_ r2 ∧ Kd.R (Kd.int .i64) 3 w' w.heap.size (fun k_ => some k_ ≠ (v1_ : Value).ownBlock) v2_ r3 ∧ Below w.heap.size w w' := by
 have hu100 := Try.underlying100
 have hu102 := Try.underlying102
 have hu192 := Try.underlying192
 have HR2 := Aside0.mk hr2
 have HC2 := Aside0.mk hc2
 clear hr2 hc2
 have HB := Aside0.mk (Below.refl w.heap.size w)
 have H : (impl_Siphon_run.l0 k l2 (l2.length : Int) 0 a0_0 a0_1 a0_2 a0_3 a1_0 a1_1 (([(⟨a1_0, a1_1⟩ : S102)] : List (S102))) ([] : List Int) ([] : List Int)) = some (r1, r2, r3) := h
 clear h
 obtain ⟨y258, hy258⟩ : ∃ y_ : List (S102), y_ = (([(⟨a1_0, a1_1⟩ : S102)] : List (S102))) := ⟨_, rfl⟩
 replace H : (impl_Siphon_run.l0 k l2 (l2.length : Int) 0 a0_0 a0_1 a0_2 a0_3 a1_0 a1_1 y258 ([] : List Int) ([] : List Int)) = some (r1, r2, r3) := by first | (rw [hy258]; with_reducible exact H) | (have H2_ := (Option.bind_some _ _).symm.trans H; rw [hy258]; with_reducible exact H2_) | (have H2_ := (Option.bind_some _ _).symm.trans H; with_reducible exact H2_) | with_reducible exact H | (rw [hy258]; exact H) | exact H
 have Ny258 := Aside0.mk hy258
 clear hy258
 have H' := Aside0.mk H
 clear H
 go_enter Try.func209, Try.ntmps209
 go_wp2_with (first | ((with_reducible refine gate_dst (N := 3) rfl ?_); refine bx 3 #[.int .i64 a0_0, .int .i64 a0_1, .int .i64 a0_2, .int .i64 a0_3] 100 ?_; intro gb255 hg w4 hbox hb; have BK255 := Aside0.mk (hbox); have GW255 := ge HB hg; have GE255 := ge HB hg; replace HB := bs HB hb; clear hb hbox hg) | ((with_reducible refine gate_dst (N := 4) rfl ?_); refine bx 4 #[.int .i64 a1_0, .bool a1_1] 102 ?_; intro gb256 hg w5 hbox hb; have BK256 := Aside0.mk (hbox); have GW256 := ge HB hg; have GE256 := ge HB hg; replace HB := bs HB hb; have NB255_256 := nl BK255 hg; have NB256_255 := nr BK255 hg; replace BK255 := bb BK255 hb; clear hb hbox hg) | ((with_reducible refine gate_dst (N := 6) rfl ?_); refine bx 6 #[.slice none 0 0, .slice none 0 0, .slice none 0 0] 192 ?_; intro gb257 hg w6 hbox hb; have BK257 := Aside0.mk (hbox); have GW257 := ge HB hg; have GE257 := ge HB hg; replace HB := bs HB hb; have NB255_257 := nl BK255 hg; have NB257_255 := nr BK255 hg; replace BK255 := bb BK255 hb; have NB256_257 := nl BK256 hg; have NB257_256 := nr BK256 hg; replace BK256 := bb BK256 hb; clear hb hbox hg; have hnb7 := NB256_255.out; have hnc7 := NB255_256.out; have hnb8 := NB256_257.out; have hnc8 := NB257_256.out; have hcz9_0 := bc0 BK256; have hcz9_1 := bc1 BK256; have hfz9_0 := blk_frozen BK256.out 0; have hfz9_1 := blk_frozen BK256.out 1) | ((with_reducible refine gate_dst (N := 14) rfl ?_); refine Kd.R_lit k102 _ 102 ?hg (N := 14) ?hd (xs := ([(⟨a1_0, a1_1⟩ : S102)] : List (S102))) (inner := [.int .i64 a1_0, .bool a1_1]) (ok := fun _ => True) (okp := fun _ => True) ?hr ?hp (fun _ hk => hk) trivial (Below.refl _ _) (Nat.le_refl _) (by simp) ?_; (case hd => rfl); (case hg => rfl); (case hr => first | (go_simp; done) | (go_simp; rfl)); (case hp => exact (Reps.c2 (show Kd.M k102 _ _ _ (⟨a1_0, a1_1⟩ : S102) [.int .i64 a1_0, .bool a1_1] from (k102_mkM _ _ _ (⟨a1_0, a1_1⟩ : S102) )) (Reps.none _ _))); intro v259 w10 ho11 hb hg_ hnew_; clear hg_ hnew_; (first | rw [← Ny258.out] at ho11 | (simp only [Int.reduceToNat] at ho11; rw [← Ny258.out] at ho11)); have HO260 := Aside0.mk (Kd.R_lower (Kd.R_newB ho11 (g := gb256) (o := .cells #[.int .i64 a1_0, .bool a1_1] 102 (0, 0)) (bk BK256)) (below_size (bw HB))); replace BK255 := bb BK255 hb; replace BK256 := bb BK256 hb; replace BK257 := bb BK257 hb; replace HB := bs HB hb; clear hb ho11; obtain ⟨Ao12, co12, eo12⟩ := Kd.R_slice HO260.out; subst eo12) | ((with_reducible refine gate_dst (N := 7) rfl ?_); refine bx 7 #[.slice none 0 0, .slice none 0 0, .slice none 0 0] 192 ?_; intro gb261 hg w13 hbox hb; replace HO260 := rb HO260 hb; have BK261 := Aside0.mk (hbox); have GW261 := ge HB hg; have GE261 := ge HB hg; replace HB := bs HB hb; have NB255_261 := nl BK255 hg; have NB261_255 := nr BK255 hg; replace BK255 := bb BK255 hb; have NB256_261 := nl BK256 hg; have NB261_256 := nr BK256 hg; replace BK256 := bb BK256 hb; have NB257_261 := nl BK257 hg; have NB261_257 := nr BK257 hg; replace BK257 := bb BK257 hb; clear hb hbox hg; have hnb14 := NB261_255.out; have hnc14 := NB255_261.out; have hnb15 := NB261_256.out; have hnc15 := NB256_261.out; have hnb16 := NB261_257.out; have hnc16 := NB257_261.out; have hcz17_0 := bc0 BK261; have hcz17_1 := bc1 BK261; have hcz17_2 := bc2 BK261; have hfz17_0 := blk_frozen BK261.out 0; have hfz17_1 := blk_frozen BK261.out 1; have hfz17_2 := blk_frozen BK261.out 2))
 try simp only [Act.put, List.setIfInBounds_toArray, List.set_cons_zero, List.set_cons_succ]
 go_loopg [18] k (fun kq v18 w' => ∃ (x18_1 : Int) (x257000_1 : Int) (x257001_1 : Bool) (x262000_1 : List (S102)) (x262001_1 : List Int) (x262002_1 : List Int) (u262000 : Value) (u262001 : Value) (u262002 : Value), v18 = .int .i64 x18_1 ∧ Aside0 (impl_Siphon_run.l0 kq l2 (l2.length : Int) x18_1 a0_0 a0_1 a0_2 a0_3 x257000_1 x257001_1 x262000_1 x262001_1 x262002_1 = some (r1, r2, r3)) ∧ Aside0 (kq ≤ k) ∧ Aside0 (Kd.R k102 102 w' w.heap.size (fun k_ => k_ ≠ gb256) u262000 x262000_1) ∧ Aside0 (Kd.R (Kd.int .i64) 3 w' w.heap.size (fun k_ => some k_ ≠ (u262002 : Value).ownBlock) u262001 x262001_1) ∧ Aside0 (Kd.R (Kd.int .i64) 3 w' w.heap.size (fun k_ => some k_ ≠ (u262001 : Value).ownBlock) u262002 x262002_1) ∧ Aside0 (w'.heap[gb255]? = some (.cells #[.int .i64 a0_0, .int .i64 a0_1, .int .i64 a0_2, .int .i64 a0_3] 100 (0, 0))) ∧ Aside0 (w'.heap[gb256]? = some (.cells #[.int .i64 x257000_1, .bool x257001_1] 102 (0, 0))) ∧ Aside0 (w'.heap[gb257]? = some (.cells #[(.slice none 0 0), (.slice none 0 0), (.slice none 0 0)] 192 (0, 0))) ∧ Aside0 (w'.heap[gb261]? = some (.cells #[u262000, u262001, u262002] 192 (0, 0))) ∧ Aside0 (Below w.heap.size w w'))
 case atStart => exact ⟨(0), (a1_0), (a1_1), (y258), (([] : List Int)), (([] : List Int)), (.slice Ao12 y258.length co12), (.slice none 0 0), (.slice none 0 0), (by first | rfl | (simp; done) | (simp [*]; done)), H', ⟨Nat.le_refl _⟩, ⟨by exact Kd.R_mono (Kd.R_far (p := ⟨gb261, 2, none⟩) (Kd.R_far (p := ⟨gb261, 1, none⟩) (Kd.R_far (p := ⟨gb261, 0, none⟩) (Kd.R_types HO260.out BK261.out (by decide)) (fun _ hk => hk.2) (.slice Ao12 y258.length co12)) (fun _ hk => hk.2) (.slice none 0 0)) (fun _ hk => hk.2) (.slice none 0 0)) (fun _ hk => hk.1.2)⟩, ⟨by first | exact Kd.R_nil _ _ _ _ _ | exact Kd.N_nil _ _ _ _ _ | exact Kd.V_nil _ _ _ _ _ | exact Kd.Q_nil _ _ _ _ _ | exact Kd.S_nil _ _ _ _ _⟩, ⟨by first | exact Kd.R_nil _ _ _ _ _ | exact Kd.N_nil _ _ _ _ _ | exact Kd.V_nil _ _ _ _ _ | exact Kd.Q_nil _ _ _ _ _ | exact Kd.S_nil _ _ _ _ _⟩, ⟨bk BK255⟩, ⟨bk BK256⟩, ⟨bk BK257⟩, ⟨by refine blk_put (cs := #[.slice Ao12 y258.length co12, .slice none 0 0, .slice none 0 0]) ?_ 2 _ rfl; refine blk_put (cs := #[.slice Ao12 y258.length co12, .slice none 0 0, .slice none 0 0]) ?_ 1 _ rfl; refine blk_put (cs := #[.slice none 0 0, .slice none 0 0, .slice none 0 0]) ?_ 0 _ rfl; exact bk BK261⟩, ⟨bw HB⟩⟩
 case round =>
  clear H'
  (try clear c1); (try clear c2); (try clear p2); (try clear c7); (try clear c8); (try clear c14); (try clear c15); (try clear c16); (try clear hcz17_0); (try clear hcz17_1); (try clear hcz17_2); (try clear hcz9_0); (try clear hcz9_1); (try clear hfz17_0); (try clear hfz17_1); (try clear hfz17_2); (try clear hfz9_0); (try clear hfz9_1)
  obtain ⟨x18_1, x257000_1, x257001_1, x262000_1, x262001_1, x262002_1, u262000, u262001, u262002, rfl, HA, HK1, HO_262000, HO_262001, HO_262002, BK255, BK256, BK257, BK261, HB⟩ := hrel
  cases gk with
  | zero => exact absurd HA.out (by simp [impl_Siphon_run.l0])
  | succ k1 =>
   have H := HA.out
   clear HA
   simp only [impl_Siphon_run.l0] at H
   by_cases c18 : x18_1 < (l2.length : Int)
   rotate_left
   ·rw [if_neg c18] at H
    have c18b0 : decide (x18_1 < (l2.length : Int)) = false := decide_eq_false c18
    clear c18
    simp only [Option.some.injEq, Prod.mk.injEq] at H
    obtain ⟨rfl, rfl, rfl⟩ := H
    have hnb65 := NB261_255.out
    have hnc65 := NB255_261.out
    have hnb66 := NB261_256.out
    have hnc66 := NB256_261.out
    have hnb67 := NB261_257.out
    have hnc67 := NB257_261.out
    have hcz68_0 := bc0 BK261
    have hcz68_1 := bc1 BK261
    have hcz68_2 := bc2 BK261
    have hfz68_0 := blk_frozen BK261.out 0
    have hfz68_1 := blk_frozen BK261.out 1
    have hfz68_2 := blk_frozen BK261.out 2
    obtain ⟨Ao69, co69, eo69⟩ := Kd.R_slice HO_262000.out
    subst eo69
    have hnb70 := NB257_255.out
    have hnc70 := NB255_257.out
    have hnb71 := NB257_256.out
    have hnc71 := NB256_257.out
    have hcz72_0 := bc0 BK257
    have hcz72_1 := bc1 BK257
    have hcz72_2 := bc2 BK257
    have hfz72_0 := blk_frozen BK257.out 0
    have hfz72_1 := blk_frozen BK257.out 1
    have hfz72_2 := blk_frozen BK257.out 2
    obtain ⟨Ao73, co73, eo73⟩ := Kd.R_slice HO_262001.out
    subst eo73
    obtain ⟨Ao74, co74, eo74⟩ := Kd.R_slice HO_262002.out
    subst eo74
    go_wp2
    refine bodyPost_ret (results_cell_row rfl _ _ gb257 192 #[.slice Ao69 x262000_1.length co69, .slice Ao73 x262001_1.length co73, .slice Ao74 x262002_1.length co74] (0, 0) _ rfl (by refine blk_put (cs := #[.slice Ao69 x262000_1.length co69, .slice Ao73 x262001_1.length co73, .slice none 0 0]) ?_ 2 _ rfl; refine blk_put (cs := #[.slice Ao69 x262000_1.length co69, .slice none 0 0, .slice none 0 0]) ?_ 1 _ rfl; refine blk_put (cs := #[.slice none 0 0, .slice none 0 0, .slice none 0 0]) ?_ 0 _ rfl; exact bk BK257) Try.underlying192 rfl (by kernel_rfl)) rfl ?_
    exact ⟨_, _, _, by first | rfl | (simp [errW_none, errW_some] <;> rfl) | (simp [*, errW_none, errW_some] <;> rfl), by exact Kd.R_mono (Kd.R_far (p := ⟨gb257, 2, none⟩) (Kd.R_far (p := ⟨gb257, 1, none⟩) (Kd.R_far (p := ⟨gb257, 0, none⟩) (Kd.R_types HO_262000.out BK257.out (by decide)) (fun _ hk => hk.2) (.slice Ao69 x262000_1.length co69)) (fun _ hk => hk.2) (.slice Ao73 x262001_1.length co73)) (fun _ hk => hk.2) (.slice Ao74 x262002_1.length co74)) (fun _ hk => trivial), by exact Kd.R_mono (Kd.R_far (p := ⟨gb257, 2, none⟩) (Kd.R_far (p := ⟨gb257, 1, none⟩) (Kd.R_far (p := ⟨gb257, 0, none⟩) (Kd.R_types HO_262001.out BK257.out (by decide)) (fun _ hk => hk.2) (.slice Ao69 x262000_1.length co69)) (fun _ hk => hk.2) (.slice Ao73 x262001_1.length co73)) (fun _ hk => hk.2) (.slice Ao74 x262002_1.length co74)) (fun _ hk => hk.1), by exact Kd.R_mono (Kd.R_far (p := ⟨gb257, 2, none⟩) (Kd.R_far (p := ⟨gb257, 1, none⟩) (Kd.R_far (p := ⟨gb257, 0, none⟩) (Kd.R_types HO_262002.out BK257.out (by decide)) (fun _ hk => hk.2) (.slice Ao69 x262000_1.length co69)) (fun _ hk => hk.2) (.slice Ao73 x262001_1.length co73)) (fun _ hk => hk.2) (.slice Ao74 x262002_1.length co74)) (fun _ hk => hk.1), bw HB⟩
   rw [if_pos c18] at H
   have c18b0 : decide (x18_1 < (l2.length : Int)) = true := decide_eq_true c18
   clear c18
   by_cases c19 : 0 ≤ x18_1
   rotate_left
   ·rw [if_neg c19] at H
    exact absurd H (by simp)
   rw [if_pos c19] at H
   have c19b0 : decide (0 ≤ x18_1) = true := decide_eq_true c19
   clear c19
   by_cases c20 : x18_1 < (l2.length : Int)
   rotate_left
   ·rw [if_neg c20] at H
    exact absurd H (by simp)
   rw [if_pos c20] at H
   have c20b0 : decide (x18_1 < (l2.length : Int)) = true := decide_eq_true c20
   clear c20
   replace H := Option.bind_eq_some_iff.mp H
   obtain ⟨⟨t263, t264, t265, t266⟩, A210, H⟩ := H
   (try dsimp only at H)
   have A21 := Aside0.mk A210
   clear A210
   obtain ⟨y268, hy268⟩ : ∃ y_ : List (S102), y_ = (([(⟨t263, t264⟩ : S102)] : List (S102))) := ⟨_, rfl⟩
   replace H : (if x262000_1.length + y268.length < 8796093022208 then ((some (([t265] : List Int) : List Int)).bind fun y274 => (if x262001_1.length + y274.length < 17592186044416 then ((some (([t266] : List Int) : List Int)).bind fun y280 => (if x262002_1.length + y280.length < 17592186044416 then (impl_Siphon_run.l0 k1 l2 (l2.length : Int) (wrap64 (x18_1 + 1)) a0_0 a0_1 a0_2 a0_3 t263 t264 (x262000_1 ++ y268) (x262001_1 ++ y274) (x262002_1 ++ y280)) else (none))) else (none))) else (none)) = some (r1, r2, r3) := by first | (rw [hy268]; with_reducible exact H) | (have H2_ := (Option.bind_some _ _).symm.trans H; rw [hy268]; with_reducible exact H2_) | (have H2_ := (Option.bind_some _ _).symm.trans H; with_reducible exact H2_) | with_reducible exact H | (rw [hy268]; exact H) | exact H
   have Ny268 := Aside0.mk hy268
   clear hy268
   by_cases c22 : x262000_1.length + y268.length < 8796093022208
   rotate_left
   ·rw [if_neg c22] at H
    exact absurd H (by simp)
   rw [if_pos c22] at H
   have LMc22 := Aside0.mk c22
   clear c22
   obtain ⟨y271, hy271⟩ : ∃ y_ : List (S102), y_ = (x262000_1 ++ y268) := ⟨_, rfl⟩
   replace H : ((some (([t265] : List Int) : List Int)).bind fun y274 => (if x262001_1.length + y274.length < 17592186044416 then ((some (([t266] : List Int) : List Int)).bind fun y280 => (if x262002_1.length + y280.length < 17592186044416 then (impl_Siphon_run.l0 k1 l2 (l2.length : Int) (wrap64 (x18_1 + 1)) a0_0 a0_1 a0_2 a0_3 t263 t264 y271 (x262001_1 ++ y274) (x262002_1 ++ y280)) else (none))) else (none))) = some (r1, r2, r3) := by first | (rw [hy271]; with_reducible exact H) | (have H2_ := (Option.bind_some _ _).symm.trans H; rw [hy271]; with_reducible exact H2_) | (have H2_ := (Option.bind_some _ _).symm.trans H; with_reducible exact H2_) | with_reducible exact H | (rw [hy271]; exact H) | exact H
   have Ny271 := Aside0.mk hy271
   clear hy271
   obtain ⟨y274, hy274⟩ : ∃ y_ : List Int, y_ = (([t265] : List Int)) := ⟨_, rfl⟩
   replace H : (if x262001_1.length + y274.length < 17592186044416 then ((some (([t266] : List Int) : List Int)).bind fun y280 => (if x262002_1.length + y280.length < 17592186044416 then (impl_Siphon_run.l0 k1 l2 (l2.length : Int) (wrap64 (x18_1 + 1)) a0_0 a0_1 a0_2 a0_3 t263 t264 y271 (x262001_1 ++ y274) (x262002_1 ++ y280)) else (none))) else (none)) = some (r1, r2, r3) := by first | (rw [hy274]; with_reducible exact H) | (have H2_ := (Option.bind_some _ _).symm.trans H; rw [hy274]; with_reducible exact H2_) | (have H2_ := (Option.bind_some _ _).symm.trans H; with_reducible exact H2_) | with_reducible exact H | (rw [hy274]; exact H) | exact H
   have Ny274 := Aside0.mk hy274
   clear hy274
   by_cases c23 : x262001_1.length + y274.length < 17592186044416
   rotate_left
   ·rw [if_neg c23] at H
    exact absurd H (by simp)
   rw [if_pos c23] at H
   have LMc23 := Aside0.mk c23
   clear c23
   obtain ⟨y277, hy277⟩ : ∃ y_ : List Int, y_ = (x262001_1 ++ y274) := ⟨_, rfl⟩
   replace H : ((some (([t266] : List Int) : List Int)).bind fun y280 => (if x262002_1.length + y280.length < 17592186044416 then (impl_Siphon_run.l0 k1 l2 (l2.length : Int) (wrap64 (x18_1 + 1)) a0_0 a0_1 a0_2 a0_3 t263 t264 y271 y277 (x262002_1 ++ y280)) else (none))) = some (r1, r2, r3) := by first | (rw [hy277]; with_reducible exact H) | (have H2_ := (Option.bind_some _ _).symm.trans H; rw [hy277]; with_reducible exact H2_) | (have H2_ := (Option.bind_some _ _).symm.trans H; with_reducible exact H2_) | with_reducible exact H | (rw [hy277]; exact H) | exact H
   have Ny277 := Aside0.mk hy277
   clear hy277
   obtain ⟨y280, hy280⟩ : ∃ y_ : List Int, y_ = (([t266] : List Int)) := ⟨_, rfl⟩
   replace H : (if x262002_1.length + y280.length < 17592186044416 then (impl_Siphon_run.l0 k1 l2 (l2.length : Int) (wrap64 (x18_1 + 1)) a0_0 a0_1 a0_2 a0_3 t263 t264 y271 y277 (x262002_1 ++ y280)) else (none)) = some (r1, r2, r3) := by first | (rw [hy280]; with_reducible exact H) | (have H2_ := (Option.bind_some _ _).symm.trans H; rw [hy280]; with_reducible exact H2_) | (have H2_ := (Option.bind_some _ _).symm.trans H; with_reducible exact H2_) | with_reducible exact H | (rw [hy280]; exact H) | exact H
   have Ny280 := Aside0.mk hy280
   clear hy280
   by_cases c24 : x262002_1.length + y280.length < 17592186044416
   rotate_left
   ·rw [if_neg c24] at H
    exact absurd H (by simp)
   rw [if_pos c24] at H
   have LMc24 := Aside0.mk c24
   clear c24
   obtain ⟨y283, hy283⟩ : ∃ y_ : List Int, y_ = (x262002_1 ++ y280) := ⟨_, rfl⟩
   replace H : (impl_Siphon_run.l0 k1 l2 (l2.length : Int) (wrap64 (x18_1 + 1)) a0_0 a0_1 a0_2 a0_3 t263 t264 y271 y277 y283) = some (r1, r2, r3) := by first | (rw [hy283]; with_reducible exact H) | (have H2_ := (Option.bind_some _ _).symm.trans H; rw [hy283]; with_reducible exact H2_) | (have H2_ := (Option.bind_some _ _).symm.trans H; with_reducible exact H2_) | with_reducible exact H | (rw [hy283]; exact H) | exact H
   have Ny283 := Aside0.mk hy283
   clear hy283
   have H' := Aside0.mk H
   clear H
   have p262 : 0 ≤ (x18_1 : Int) := of_decide_eq_true ‹_›
   have q262 : x18_1 < (l2.length : Int) := of_decide_eq_true ‹_›
   obtain ⟨ad262, e262, hx262_0⟩ := Kd.at_int HR2.out x18_1 p262 q262
   cases e262
   replace hx262_0 := (HB.out.cell (World.block_lt_of_cell? w _ hx262_0)).trans hx262_0
   replace p262 := eq_true p262
   replace q262 := eq_true q262
   have hnb25 := NB255_256.out
   have hnc25 := NB256_255.out
   have hnb26 := NB255_257.out
   have hnc26 := NB257_255.out
   have hnb27 := NB255_261.out
   have hnc27 := NB261_255.out
   have hcz28_0 := bc0 BK255
   have hcz28_1 := bc1 BK255
   have hcz28_2 := bc2 BK255
   have hcz28_3 := bc3 BK255
   have hfz28_0 := blk_frozen BK255.out 0
   have hfz28_1 := blk_frozen BK255.out 1
   have hfz28_2 := blk_frozen BK255.out 2
   have hfz28_3 := blk_frozen BK255.out 3
   have hnb29 := NB256_257.out
   have hnc29 := NB257_256.out
   have hnb30 := NB256_261.out
   have hnc30 := NB261_256.out
   have hcz31_0 := bc0 BK256
   have hcz31_1 := bc1 BK256
   have hfz31_0 := blk_frozen BK256.out 0
   have hfz31_1 := blk_frozen BK256.out 1
   try go_wp2_with (first | ((with_reducible refine gate_callee (f := 213) rfl ?_); refine gl 26 Try.func213 #[.agg #[.int .i64 a0_0, .int .i64 a0_1, .int .i64 a0_2, .int .i64 a0_3], .agg #[.int .i64 x257000_1, .bool x257001_1], .int .i64 (rd l2 x18_1)] ?_; (with_reducible refine (impl_Siphon_tick.calls a0_0 a0_1 a0_2 a0_3 x257000_1 x257001_1 (rd l2 x18_1) t263 t264 t265 t266 _ A21.out).mono ?_); rintro e w32 ⟨rfl, hb⟩; refine ⟨_, rfl, ?_⟩; replace HO_262000 := rb HO_262000 hb; replace HO_262001 := rb HO_262001 hb; replace HO_262002 := rb HO_262002 hb; replace BK255 := bb BK255 hb; replace BK256 := bb BK256 hb; replace BK257 := bb BK257 hb; replace BK261 := bb BK261 hb; replace HB := bs HB hb; (try clear hb)) | ((with_reducible refine gate_dst (N := 10) rfl ?_); refine bx 10 #[.int .i64 0, .bool false] 102 ?_; intro gb267 hg w33 hbox hb; replace HO_262000 := Aside0.mk (Kd.R_below (Kd.R_elderB (rk HO_262000) gb267 (Nat.le_of_eq hg.symm)) hb); replace HO_262001 := rb HO_262001 hb; replace HO_262002 := rb HO_262002 hb; have BK267 := Aside0.mk (hbox); have GW267 := ge HB hg; have GE267 := ge HB hg; replace HB := bs HB hb; have NB255_267 := nl BK255 hg; have NB267_255 := nr BK255 hg; replace BK255 := bb BK255 hb; have NB256_267 := nl BK256 hg; have NB267_256 := nr BK256 hg; replace BK256 := bb BK256 hb; have NB257_267 := nl BK257 hg; have NB267_257 := nr BK257 hg; replace BK257 := bb BK257 hb; have NB261_267 := nl BK261 hg; have NB267_261 := nr BK261 hg; replace BK261 := bb BK261 hb; clear hb hbox hg; have hnb34 := NB267_255.out; have hnc34 := NB255_267.out; have hnb35 := NB267_256.out; have hnc35 := NB256_267.out; have hnb36 := NB267_257.out; have hnc36 := NB257_267.out; have hnb37 := NB267_261.out; have hnc37 := NB261_267.out; have hcz38_0 := bc0 BK267; have hcz38_1 := bc1 BK267; have hfz38_0 := blk_frozen BK267.out 0; have hfz38_1 := blk_frozen BK267.out 1; obtain ⟨Ao39, co39, eo39⟩ := Kd.R_slice HO_262000.out; subst eo39; obtain ⟨Ao40, co40, eo40⟩ := Kd.R_slice HO_262001.out; subst eo40; obtain ⟨Ao41, co41, eo41⟩ := Kd.R_slice HO_262002.out; subst eo41))
   have n0_ : Aside0 (Kd.R k102 102 ((w33.setCell ⟨gb267, 0, none⟩ (.int .i64 t263)).setCell ⟨gb267, 1, none⟩ (.bool t264)) w.heap.size (fun k_ => k_ ≠ gb256 ∧ k_ ≠ gb267) (.slice Ao39 x262000_1.length co39) x262000_1) := ⟨by exact Kd.R_mono (Kd.R_far (p := ⟨gb267, 1, none⟩) (Kd.R_far (p := ⟨gb267, 0, none⟩) (Kd.R_mono HO_262000.out (fun k_ hk => (⟨hk, hk.2⟩ : _ ∧ k_ ≠ gb267))) (fun _ hk => hk.2) (.int .i64 t263)) (fun _ hk => hk.2) (.bool t264)) (fun _ hk => ⟨hk.1.1, hk.1.2⟩)⟩
   have n1_ : Aside0 (Kd.R (Kd.int .i64) 3 ((w33.setCell ⟨gb267, 0, none⟩ (.int .i64 t263)).setCell ⟨gb267, 1, none⟩ (.bool t264)) w.heap.size (fun k_ => some k_ ≠ (.slice Ao41 x262002_1.length co41 : Value).ownBlock) (.slice Ao40 x262001_1.length co40) x262001_1) := ⟨by exact Kd.R_mono (Kd.R_far (p := ⟨gb267, 1, none⟩) (Kd.R_far (p := ⟨gb267, 0, none⟩) (Kd.R_types HO_262001.out BK267.out (by decide)) (fun _ hk => hk.2) (.int .i64 t263)) (fun _ hk => hk.2) (.bool t264)) (fun _ hk => hk.1)⟩
   have n2_ : Aside0 (Kd.R (Kd.int .i64) 3 ((w33.setCell ⟨gb267, 0, none⟩ (.int .i64 t263)).setCell ⟨gb267, 1, none⟩ (.bool t264)) w.heap.size (fun k_ => some k_ ≠ (.slice Ao40 x262001_1.length co40 : Value).ownBlock) (.slice Ao41 x262002_1.length co41) x262002_1) := ⟨by exact Kd.R_mono (Kd.R_far (p := ⟨gb267, 1, none⟩) (Kd.R_far (p := ⟨gb267, 0, none⟩) (Kd.R_types HO_262002.out BK267.out (by decide)) (fun _ hk => hk.2) (.int .i64 t263)) (fun _ hk => hk.2) (.bool t264)) (fun _ hk => hk.1)⟩
   have n3_ : Aside0 (((w33.setCell ⟨gb267, 0, none⟩ (.int .i64 t263)).setCell ⟨gb267, 1, none⟩ (.bool t264)).heap[gb255]? = some (.cells #[.int .i64 a0_0, .int .i64 a0_1, .int .i64 a0_2, .int .i64 a0_3] 100 (0, 0))) := ⟨bk BK255⟩
   have n4_ : Aside0 (((w33.setCell ⟨gb267, 0, none⟩ (.int .i64 t263)).setCell ⟨gb267, 1, none⟩ (.bool t264)).heap[gb256]? = some (.cells #[.int .i64 x257000_1, .bool x257001_1] 102 (0, 0))) := ⟨bk BK256⟩
   have n5_ : Aside0 (((w33.setCell ⟨gb267, 0, none⟩ (.int .i64 t263)).setCell ⟨gb267, 1, none⟩ (.bool t264)).heap[gb257]? = some (.cells #[.slice none 0 0, .slice none 0 0, .slice none 0 0] 192 (0, 0))) := ⟨bk BK257⟩
   have n6_ : Aside0 (((w33.setCell ⟨gb267, 0, none⟩ (.int .i64 t263)).setCell ⟨gb267, 1, none⟩ (.bool t264)).heap[gb261]? = some (.cells #[.slice Ao39 x262000_1.length co39, .slice Ao40 x262001_1.length co40, .slice Ao41 x262002_1.length co41] 192 (0, 0))) := ⟨bk BK261⟩
   have n7_ : Aside0 (((w33.setCell ⟨gb267, 0, none⟩ (.int .i64 t263)).setCell ⟨gb267, 1, none⟩ (.bool t264)).heap[gb267]? = some (.cells #[.int .i64 t263, .bool t264] 102 (0, 0))) := ⟨by refine blk_put (cs := #[.int .i64 t263, .bool false]) ?_ 1 _ rfl; refine blk_put (cs := #[.int .i64 0, .bool false]) ?_ 0 _ rfl; exact bk BK267⟩
   have n8_ : Aside0 (Below w.heap.size w ((w33.setCell ⟨gb267, 0, none⟩ (.int .i64 t263)).setCell ⟨gb267, 1, none⟩ (.bool t264))) := ⟨bw HB⟩
   (try clear HO_262000); (try clear HO_262001); (try clear HO_262002); (try clear BK255); (try clear BK256); (try clear BK257); (try clear BK261); (try clear BK267); (try clear HB)
   generalize ((w33.setCell ⟨gb267, 0, none⟩ (.int .i64 t263)).setCell ⟨gb267, 1, none⟩ (.bool t264)) = w42 at n0_ n1_ n2_ n3_ n4_ n5_ n6_ n7_ n8_ ⊢
   have HO_262000 := n0_
   have HO_262001 := n1_
   have HO_262002 := n2_
   have BK255 := n3_
   have BK256 := n4_
   have BK257 := n5_
   have BK261 := n6_
   have BK267 := n7_
   have HB := n8_
   clear n0_ n1_ n2_ n3_ n4_ n5_ n6_ n7_ n8_
   replace HO_262000 := Aside0.mk (Kd.R_drew HO_262000.out)
   replace HO_262001 := Aside0.mk (Kd.R_drew HO_262001.out)
   replace HO_262002 := Aside0.mk (Kd.R_drew HO_262002.out)
   replace BK255 := Aside0.mk (blk_drew BK255.out)
   replace BK256 := Aside0.mk (blk_drew BK256.out)
   replace BK257 := Aside0.mk (blk_drew BK257.out)
   replace BK261 := Aside0.mk (blk_drew BK261.out)
   replace BK267 := Aside0.mk (blk_drew BK267.out)
   replace HB := Aside0.mk (below_drew1 HB.out)
   refine start_ (n := 21) (S := fun w' => w'.cell? ⟨gb261, 0, none⟩ = some (.slice Ao39 x262000_1.length co39) ∧ w'.cell? ⟨gb261, 1, none⟩ = some (.slice Ao40 x262001_1.length co40) ∧ w'.cell? ⟨gb261, 2, none⟩ = some (.slice Ao41 x262002_1.length co41) ∧ w'.cell? ⟨gb267, 0, none⟩ = some (.int .i64 t263) ∧ w'.cell? ⟨gb267, 1, none⟩ = some (.bool t264)) (ds := [16, 18, 20]) (bl 21 0) (by kernel_rfl) rfl rfl ⟨bc0 BK261, bc1 BK261, bc2 BK261, bc0 BK267, bc1 BK267⟩ (fun hHeld => ?_); refine with_tabW impl_Siphon_run.tab6 impl_Siphon_run.bits6 (fun HT_ HW_ => ?_)
   generalize w42.drew = w43 at HO_262000 HO_262001 HO_262002 BK255 BK256 BK257 BK261 BK267 HB hHeld ⊢
   refine pu 0 30 (bl 21 1) HT_.out (v := ?_) (a' := ?_) ?_ ?_ ?_
   rotate_left; (intro w'; go_simp; with_reducible rfl); rotate_left; (simp only [sqa, sqb, sqc, sqd, i64_w, i32_w]; rfl)
   refine pu 5 35 (bl 21 33) HT_.out (v := ?_) (a' := ?_) ?_ ?_ ?_
   rotate_left; (intro w'; go_simp; with_reducible rfl); rotate_left; (simp only [sqa, sqb, sqc, sqd, i64_w, i32_w]; rfl)
   refine pu 7 37 (bl 21 161) HT_.out (v := ?_) (a' := ?_) ?_ ?_ ?_
   rotate_left; (intro w'; go_simp; with_reducible rfl); rotate_left; (simp only [sqa, sqb, sqc, sqd, i64_w, i32_w]; rfl)
   refine pu 10 40 (bl 21 1185) HT_.out (v := ?_) (a' := ?_) ?_ ?_ ?_
   rotate_left; (intro w'; go_simp; with_reducible rfl); rotate_left; (simp only [sqa, sqb, sqc, sqd, i64_w, i32_w]; rfl)
   refine pu 12 42 (bl 21 5281) HT_.out (v := ?_) (a' := ?_) ?_ ?_ ?_
   rotate_left; (intro w'; go_simp; with_reducible rfl); rotate_left; (simp only [sqa, sqb, sqc, sqd, i64_w, i32_w]; rfl)
   refine tk 1 31 (bl 21 5283) HT_.out HW_.out hHeld (v := ?_) (a' := ?_) ?_ ?_ ?_
   rotate_left; (rintro w' ⟨s0, s1, s2, s3, s4⟩; go_simp; with_reducible rfl); rotate_left; (simp only [sqa, sqb, sqc, sqd, i64_w, i32_w]; rfl)
   refine tk 2 32 (bl 21 5287) HT_.out HW_.out hHeld (v := ?_) (a' := ?_) ?_ ?_ ?_
   rotate_left; (rintro w' ⟨s0, s1, s2, s3, s4⟩; go_simp; with_reducible rfl); rotate_left; (simp only [sqa, sqb, sqc, sqd, i64_w, i32_w]; rfl)
   refine tk 6 36 (bl 21 5351) HT_.out HW_.out hHeld (v := ?_) (a' := ?_) ?_ ?_ ?_
   rotate_left; (rintro w' ⟨s0, s1, s2, s3, s4⟩; go_simp; with_reducible rfl); rotate_left; (simp only [sqa, sqb, sqc, sqd, i64_w, i32_w]; rfl)
   refine tk 11 41 (bl 21 7399) HT_.out HW_.out hHeld (v := ?_) (a' := ?_) ?_ ?_ ?_
   rotate_left; (rintro w' ⟨s0, s1, s2, s3, s4⟩; go_simp; with_reducible rfl); rotate_left; (simp only [sqa, sqb, sqc, sqd, i64_w, i32_w]; rfl)
   refine join_ (σ := Value × Value × Value × Value × Value) 6 (bl 21 49151) (fun s_ => [(33, s_.1), (34, s_.2.1), (38, s_.2.2.1), (39, s_.2.2.2.1), (43, s_.2.2.2.2), (45, .pointer (some ⟨gb261, 0, none⟩))]) (fun s_ w' => (w'.cell? ⟨gb261, 0, none⟩ = some (.slice Ao39 x262000_1.length co39) ∧ w'.cell? ⟨gb261, 1, none⟩ = some (.slice Ao40 x262001_1.length co40) ∧ w'.cell? ⟨gb261, 2, none⟩ = some (.slice Ao41 x262002_1.length co41) ∧ w'.cell? ⟨gb267, 0, none⟩ = some (.int .i64 t263) ∧ w'.cell? ⟨gb267, 1, none⟩ = some (.bool t264)) ∧ (Kd.R k102 102 w' w.heap.size (fun k_ => some k_ ≠ (s_.2.1 : Value).ownBlock ∧ k_ ≠ gb256 ∧ k_ ≠ gb267) s_.1 y268) ∧ (Kd.R k102 102 w' w.heap.size (fun k_ => some k_ ≠ (s_.1 : Value).ownBlock ∧ k_ ≠ gb256 ∧ k_ ≠ gb267) s_.2.1 y271) ∧ (Kd.R (Kd.int .i64) 3 w' w.heap.size (fun k_ => some k_ ≠ (s_.2.2.2.1 : Value).ownBlock ∧ some k_ ≠ (s_.2.2.2.2 : Value).ownBlock ∧ some k_ ≠ (.slice Ao41 x262002_1.length co41 : Value).ownBlock) s_.2.2.1 y274) ∧ (Kd.R (Kd.int .i64) 3 w' w.heap.size (fun k_ => some k_ ≠ (s_.2.2.1 : Value).ownBlock ∧ some k_ ≠ (s_.2.2.2.2 : Value).ownBlock ∧ some k_ ≠ (.slice Ao41 x262002_1.length co41 : Value).ownBlock) s_.2.2.2.1 y277) ∧ (Kd.R (Kd.int .i64) 3 w' w.heap.size (fun k_ => some k_ ≠ (s_.2.2.1 : Value).ownBlock ∧ some k_ ≠ (s_.2.2.2.1 : Value).ownBlock ∧ some k_ ≠ (.slice Ao41 x262002_1.length co41 : Value).ownBlock) s_.2.2.2.2 y280) ∧ (Kd.R (Kd.int .i64) 3 w' w.heap.size (fun k_ => some k_ ≠ (s_.2.2.1 : Value).ownBlock ∧ some k_ ≠ (s_.2.2.2.1 : Value).ownBlock ∧ some k_ ≠ (s_.2.2.2.2 : Value).ownBlock) (.slice Ao41 x262002_1.length co41) x262002_1) ∧ (w'.heap[gb255]? = some (.cells #[.int .i64 a0_0, .int .i64 a0_1, .int .i64 a0_2, .int .i64 a0_3] 100 (0, 0))) ∧ (w'.heap[gb256]? = some (.cells #[.int .i64 x257000_1, .bool x257001_1] 102 (0, 0))) ∧ (w'.heap[gb257]? = some (.cells #[.slice none 0 0, .slice none 0 0, .slice none 0 0] 192 (0, 0))) ∧ (w'.heap[gb261]? = some (.cells #[.slice Ao39 x262000_1.length co39, .slice Ao40 x262001_1.length co40, .slice Ao41 x262002_1.length co41] 192 (0, 0))) ∧ (w'.heap[gb267]? = some (.cells #[.int .i64 t263, .bool t264] 102 (0, 0))) ∧ (Below w.heap.size w w')) ?_ ?_
   rotate_left
   ·intro hJ3_4_8_9_13
    refine join_ (σ := Value × Value × Value × Value) 7 (bl 21 40959) (fun s_ => [(33, s_.1), (34, s_.2.1), (38, s_.2.2.1), (39, s_.2.2.2), (45, .pointer (some ⟨gb261, 0, none⟩))]) (fun s_ w' => (w'.cell? ⟨gb261, 0, none⟩ = some (.slice Ao39 x262000_1.length co39) ∧ w'.cell? ⟨gb261, 1, none⟩ = some (.slice Ao40 x262001_1.length co40) ∧ w'.cell? ⟨gb261, 2, none⟩ = some (.slice Ao41 x262002_1.length co41) ∧ w'.cell? ⟨gb267, 0, none⟩ = some (.int .i64 t263) ∧ w'.cell? ⟨gb267, 1, none⟩ = some (.bool t264)) ∧ (Kd.R k102 102 w' w.heap.size (fun k_ => some k_ ≠ (s_.2.1 : Value).ownBlock ∧ k_ ≠ gb256 ∧ k_ ≠ gb267) s_.1 y268) ∧ (Kd.R k102 102 w' w.heap.size (fun k_ => some k_ ≠ (s_.1 : Value).ownBlock ∧ k_ ≠ gb256 ∧ k_ ≠ gb267) s_.2.1 y271) ∧ (Kd.R (Kd.int .i64) 3 w' w.heap.size (fun k_ => some k_ ≠ (s_.2.2.2 : Value).ownBlock ∧ some k_ ≠ (.slice Ao41 x262002_1.length co41 : Value).ownBlock) s_.2.2.1 y274) ∧ (Kd.R (Kd.int .i64) 3 w' w.heap.size (fun k_ => some k_ ≠ (s_.2.2.1 : Value).ownBlock ∧ some k_ ≠ (.slice Ao41 x262002_1.length co41 : Value).ownBlock) s_.2.2.2 y277) ∧ (Kd.R (Kd.int .i64) 3 w' w.heap.size (fun k_ => some k_ ≠ (s_.2.2.1 : Value).ownBlock ∧ some k_ ≠ (s_.2.2.2 : Value).ownBlock) (.slice Ao41 x262002_1.length co41) x262002_1) ∧ (w'.heap[gb255]? = some (.cells #[.int .i64 a0_0, .int .i64 a0_1, .int .i64 a0_2, .int .i64 a0_3] 100 (0, 0))) ∧ (w'.heap[gb256]? = some (.cells #[.int .i64 x257000_1, .bool x257001_1] 102 (0, 0))) ∧ (w'.heap[gb257]? = some (.cells #[.slice none 0 0, .slice none 0 0, .slice none 0 0] 192 (0, 0))) ∧ (w'.heap[gb261]? = some (.cells #[.slice Ao39 x262000_1.length co39, .slice Ao40 x262001_1.length co40, .slice Ao41 x262002_1.length co41] 192 (0, 0))) ∧ (w'.heap[gb267]? = some (.cells #[.int .i64 t263, .bool t264] 102 (0, 0))) ∧ (Below w.heap.size w w')) ?_ ?_
    rotate_left
    ·intro hJ3_4_8_9
     refine join_ (σ := Value × Value × Value × Value) 7 (bl 21 48639) (fun s_ => [(33, s_.1), (34, s_.2.1), (38, s_.2.2.1), (43, s_.2.2.2), (45, .pointer (some ⟨gb261, 0, none⟩))]) (fun s_ w' => (w'.cell? ⟨gb261, 0, none⟩ = some (.slice Ao39 x262000_1.length co39) ∧ w'.cell? ⟨gb261, 1, none⟩ = some (.slice Ao40 x262001_1.length co40) ∧ w'.cell? ⟨gb261, 2, none⟩ = some (.slice Ao41 x262002_1.length co41) ∧ w'.cell? ⟨gb267, 0, none⟩ = some (.int .i64 t263) ∧ w'.cell? ⟨gb267, 1, none⟩ = some (.bool t264)) ∧ (Kd.R k102 102 w' w.heap.size (fun k_ => some k_ ≠ (s_.2.1 : Value).ownBlock ∧ k_ ≠ gb256 ∧ k_ ≠ gb267) s_.1 y268) ∧ (Kd.R k102 102 w' w.heap.size (fun k_ => some k_ ≠ (s_.1 : Value).ownBlock ∧ k_ ≠ gb256 ∧ k_ ≠ gb267) s_.2.1 y271) ∧ (Kd.R (Kd.int .i64) 3 w' w.heap.size (fun k_ => some k_ ≠ (s_.2.2.2 : Value).ownBlock ∧ some k_ ≠ (.slice Ao40 x262001_1.length co40 : Value).ownBlock ∧ some k_ ≠ (.slice Ao41 x262002_1.length co41 : Value).ownBlock) s_.2.2.1 y274) ∧ (Kd.R (Kd.int .i64) 3 w' w.heap.size (fun k_ => some k_ ≠ (s_.2.2.1 : Value).ownBlock ∧ some k_ ≠ (.slice Ao40 x262001_1.length co40 : Value).ownBlock ∧ some k_ ≠ (.slice Ao41 x262002_1.length co41 : Value).ownBlock) s_.2.2.2 y280) ∧ (Kd.R (Kd.int .i64) 3 w' w.heap.size (fun k_ => some k_ ≠ (s_.2.2.1 : Value).ownBlock ∧ some k_ ≠ (s_.2.2.2 : Value).ownBlock ∧ some k_ ≠ (.slice Ao41 x262002_1.length co41 : Value).ownBlock) (.slice Ao40 x262001_1.length co40) x262001_1) ∧ (Kd.R (Kd.int .i64) 3 w' w.heap.size (fun k_ => some k_ ≠ (s_.2.2.1 : Value).ownBlock ∧ some k_ ≠ (s_.2.2.2 : Value).ownBlock ∧ some k_ ≠ (.slice Ao40 x262001_1.length co40 : Value).ownBlock) (.slice Ao41 x262002_1.length co41) x262002_1) ∧ (w'.heap[gb255]? = some (.cells #[.int .i64 a0_0, .int .i64 a0_1, .int .i64 a0_2, .int .i64 a0_3] 100 (0, 0))) ∧ (w'.heap[gb256]? = some (.cells #[.int .i64 x257000_1, .bool x257001_1] 102 (0, 0))) ∧ (w'.heap[gb257]? = some (.cells #[.slice none 0 0, .slice none 0 0, .slice none 0 0] 192 (0, 0))) ∧ (w'.heap[gb261]? = some (.cells #[.slice Ao39 x262000_1.length co39, .slice Ao40 x262001_1.length co40, .slice Ao41 x262002_1.length co41] 192 (0, 0))) ∧ (w'.heap[gb267]? = some (.cells #[.int .i64 t263, .bool t264] 102 (0, 0))) ∧ (Below w.heap.size w w')) ?_ ?_
     rotate_left
     ·intro hJ3_4_8_13
      refine join_ (σ := Value × Value × Value) 8 (bl 21 40447) (fun s_ => [(33, s_.1), (34, s_.2.1), (38, s_.2.2), (45, .pointer (some ⟨gb261, 0, none⟩))]) (fun s_ w' => (w'.cell? ⟨gb261, 0, none⟩ = some (.slice Ao39 x262000_1.length co39) ∧ w'.cell? ⟨gb261, 1, none⟩ = some (.slice Ao40 x262001_1.length co40) ∧ w'.cell? ⟨gb261, 2, none⟩ = some (.slice Ao41 x262002_1.length co41) ∧ w'.cell? ⟨gb267, 0, none⟩ = some (.int .i64 t263) ∧ w'.cell? ⟨gb267, 1, none⟩ = some (.bool t264)) ∧ (Kd.R k102 102 w' w.heap.size (fun k_ => some k_ ≠ (s_.2.1 : Value).ownBlock ∧ k_ ≠ gb256 ∧ k_ ≠ gb267) s_.1 y268) ∧ (Kd.R k102 102 w' w.heap.size (fun k_ => some k_ ≠ (s_.1 : Value).ownBlock ∧ k_ ≠ gb256 ∧ k_ ≠ gb267) s_.2.1 y271) ∧ (Kd.R (Kd.int .i64) 3 w' w.heap.size (fun k_ => some k_ ≠ (.slice Ao40 x262001_1.length co40 : Value).ownBlock ∧ some k_ ≠ (.slice Ao41 x262002_1.length co41 : Value).ownBlock) s_.2.2 y274) ∧ (Kd.R (Kd.int .i64) 3 w' w.heap.size (fun k_ => some k_ ≠ (s_.2.2 : Value).ownBlock ∧ some k_ ≠ (.slice Ao41 x262002_1.length co41 : Value).ownBlock) (.slice Ao40 x262001_1.length co40) x262001_1) ∧ (Kd.R (Kd.int .i64) 3 w' w.heap.size (fun k_ => some k_ ≠ (s_.2.2 : Value).ownBlock ∧ some k_ ≠ (.slice Ao40 x262001_1.length co40 : Value).ownBlock) (.slice Ao41 x262002_1.length co41) x262002_1) ∧ (w'.heap[gb255]? = some (.cells #[.int .i64 a0_0, .int .i64 a0_1, .int .i64 a0_2, .int .i64 a0_3] 100 (0, 0))) ∧ (w'.heap[gb256]? = some (.cells #[.int .i64 x257000_1, .bool x257001_1] 102 (0, 0))) ∧ (w'.heap[gb257]? = some (.cells #[.slice none 0 0, .slice none 0 0, .slice none 0 0] 192 (0, 0))) ∧ (w'.heap[gb261]? = some (.cells #[.slice Ao39 x262000_1.length co39, .slice Ao40 x262001_1.length co40, .slice Ao41 x262002_1.length co41] 192 (0, 0))) ∧ (w'.heap[gb267]? = some (.cells #[.int .i64 t263, .bool t264] 102 (0, 0))) ∧ (Below w.heap.size w w')) ?_ ?_
      rotate_left
      ·intro hJ3_4_8
       refine join_ (σ := Value × Value × Value) 8 (bl 21 48383) (fun s_ => [(33, s_.1), (34, s_.2.1), (43, s_.2.2), (45, .pointer (some ⟨gb261, 0, none⟩))]) (fun s_ w' => (w'.cell? ⟨gb261, 0, none⟩ = some (.slice Ao39 x262000_1.length co39) ∧ w'.cell? ⟨gb261, 1, none⟩ = some (.slice Ao40 x262001_1.length co40) ∧ w'.cell? ⟨gb261, 2, none⟩ = some (.slice Ao41 x262002_1.length co41) ∧ w'.cell? ⟨gb267, 0, none⟩ = some (.int .i64 t263) ∧ w'.cell? ⟨gb267, 1, none⟩ = some (.bool t264)) ∧ (Kd.R k102 102 w' w.heap.size (fun k_ => some k_ ≠ (s_.2.1 : Value).ownBlock ∧ k_ ≠ gb256 ∧ k_ ≠ gb267) s_.1 y268) ∧ (Kd.R k102 102 w' w.heap.size (fun k_ => some k_ ≠ (s_.1 : Value).ownBlock ∧ k_ ≠ gb256 ∧ k_ ≠ gb267) s_.2.1 y271) ∧ (Kd.R (Kd.int .i64) 3 w' w.heap.size (fun k_ => some k_ ≠ (.slice Ao40 x262001_1.length co40 : Value).ownBlock ∧ some k_ ≠ (.slice Ao41 x262002_1.length co41 : Value).ownBlock) s_.2.2 y280) ∧ (Kd.R (Kd.int .i64) 3 w' w.heap.size (fun k_ => some k_ ≠ (s_.2.2 : Value).ownBlock ∧ some k_ ≠ (.slice Ao41 x262002_1.length co41 : Value).ownBlock) (.slice Ao40 x262001_1.length co40) x262001_1) ∧ (Kd.R (Kd.int .i64) 3 w' w.heap.size (fun k_ => some k_ ≠ (s_.2.2 : Value).ownBlock ∧ some k_ ≠ (.slice Ao40 x262001_1.length co40 : Value).ownBlock) (.slice Ao41 x262002_1.length co41) x262002_1) ∧ (w'.heap[gb255]? = some (.cells #[.int .i64 a0_0, .int .i64 a0_1, .int .i64 a0_2, .int .i64 a0_3] 100 (0, 0))) ∧ (w'.heap[gb256]? = some (.cells #[.int .i64 x257000_1, .bool x257001_1] 102 (0, 0))) ∧ (w'.heap[gb257]? = some (.cells #[.slice none 0 0, .slice none 0 0, .slice none 0 0] 192 (0, 0))) ∧ (w'.heap[gb261]? = some (.cells #[.slice Ao39 x262000_1.length co39, .slice Ao40 x262001_1.length co40, .slice Ao41 x262002_1.length co41] 192 (0, 0))) ∧ (w'.heap[gb267]? = some (.cells #[.int .i64 t263, .bool t264] 102 (0, 0))) ∧ (Below w.heap.size w w')) ?_ ?_
       rotate_left
       ·intro hJ3_4_13
        refine join_ (σ := Value × Value × Value) 9 (bl 21 15855) (fun s_ => [(33, s_.1), (38, s_.2.1), (43, s_.2.2)]) (fun s_ w' => (w'.cell? ⟨gb261, 0, none⟩ = some (.slice Ao39 x262000_1.length co39) ∧ w'.cell? ⟨gb261, 1, none⟩ = some (.slice Ao40 x262001_1.length co40) ∧ w'.cell? ⟨gb261, 2, none⟩ = some (.slice Ao41 x262002_1.length co41) ∧ w'.cell? ⟨gb267, 0, none⟩ = some (.int .i64 t263) ∧ w'.cell? ⟨gb267, 1, none⟩ = some (.bool t264)) ∧ (Kd.R k102 102 w' w.heap.size (fun k_ => some k_ ≠ (.slice Ao39 x262000_1.length co39 : Value).ownBlock ∧ k_ ≠ gb256 ∧ k_ ≠ gb267) s_.1 y268) ∧ (Kd.R (Kd.int .i64) 3 w' w.heap.size (fun k_ => some k_ ≠ (s_.2.2 : Value).ownBlock ∧ some k_ ≠ (.slice Ao40 x262001_1.length co40 : Value).ownBlock ∧ some k_ ≠ (.slice Ao41 x262002_1.length co41 : Value).ownBlock) s_.2.1 y274) ∧ (Kd.R (Kd.int .i64) 3 w' w.heap.size (fun k_ => some k_ ≠ (s_.2.1 : Value).ownBlock ∧ some k_ ≠ (.slice Ao40 x262001_1.length co40 : Value).ownBlock ∧ some k_ ≠ (.slice Ao41 x262002_1.length co41 : Value).ownBlock) s_.2.2 y280) ∧ (Kd.R k102 102 w' w.heap.size (fun k_ => some k_ ≠ (s_.1 : Value).ownBlock ∧ k_ ≠ gb256 ∧ k_ ≠ gb267) (.slice Ao39 x262000_1.length co39) x262000_1) ∧ (Kd.R (Kd.int .i64) 3 w' w.heap.size (fun k_ => some k_ ≠ (s_.2.1 : Value).ownBlock ∧ some k_ ≠ (s_.2.2 : Value).ownBlock ∧ some k_ ≠ (.slice Ao41 x262002_1.length co41 : Value).ownBlock) (.slice Ao40 x262001_1.length co40) x262001_1) ∧ (Kd.R (Kd.int .i64) 3 w' w.heap.size (fun k_ => some k_ ≠ (s_.2.1 : Value).ownBlock ∧ some k_ ≠ (s_.2.2 : Value).ownBlock ∧ some k_ ≠ (.slice Ao40 x262001_1.length co40 : Value).ownBlock) (.slice Ao41 x262002_1.length co41) x262002_1) ∧ (w'.heap[gb255]? = some (.cells #[.int .i64 a0_0, .int .i64 a0_1, .int .i64 a0_2, .int .i64 a0_3] 100 (0, 0))) ∧ (w'.heap[gb256]? = some (.cells #[.int .i64 x257000_1, .bool x257001_1] 102 (0, 0))) ∧ (w'.heap[gb257]? = some (.cells #[.slice none 0 0, .slice none 0 0, .slice none 0 0] 192 (0, 0))) ∧ (w'.heap[gb261]? = some (.cells #[.slice Ao39 x262000_1.length co39, .slice Ao40 x262001_1.length co40, .slice Ao41 x262002_1.length co41] 192 (0, 0))) ∧ (w'.heap[gb267]? = some (.cells #[.int .i64 t263, .bool t264] 102 (0, 0))) ∧ (Below w.heap.size w w')) ?_ ?_
        rotate_left
        ·intro hJ3_8_13
         refine join_ (σ := Value × Value) 9 (bl 21 40191) (fun s_ => [(33, s_.1), (34, s_.2), (45, .pointer (some ⟨gb261, 0, none⟩))]) (fun s_ w' => (w'.cell? ⟨gb261, 0, none⟩ = some (.slice Ao39 x262000_1.length co39) ∧ w'.cell? ⟨gb261, 1, none⟩ = some (.slice Ao40 x262001_1.length co40) ∧ w'.cell? ⟨gb261, 2, none⟩ = some (.slice Ao41 x262002_1.length co41) ∧ w'.cell? ⟨gb267, 0, none⟩ = some (.int .i64 t263) ∧ w'.cell? ⟨gb267, 1, none⟩ = some (.bool t264)) ∧ (Kd.R k102 102 w' w.heap.size (fun k_ => some k_ ≠ (s_.2 : Value).ownBlock ∧ k_ ≠ gb256 ∧ k_ ≠ gb267) s_.1 y268) ∧ (Kd.R k102 102 w' w.heap.size (fun k_ => some k_ ≠ (s_.1 : Value).ownBlock ∧ k_ ≠ gb256 ∧ k_ ≠ gb267) s_.2 y271) ∧ (Kd.R (Kd.int .i64) 3 w' w.heap.size (fun k_ => some k_ ≠ (.slice Ao41 x262002_1.length co41 : Value).ownBlock) (.slice Ao40 x262001_1.length co40) x262001_1) ∧ (Kd.R (Kd.int .i64) 3 w' w.heap.size (fun k_ => some k_ ≠ (.slice Ao40 x262001_1.length co40 : Value).ownBlock) (.slice Ao41 x262002_1.length co41) x262002_1) ∧ (w'.heap[gb255]? = some (.cells #[.int .i64 a0_0, .int .i64 a0_1, .int .i64 a0_2, .int .i64 a0_3] 100 (0, 0))) ∧ (w'.heap[gb256]? = some (.cells #[.int .i64 x257000_1, .bool x257001_1] 102 (0, 0))) ∧ (w'.heap[gb257]? = some (.cells #[.slice none 0 0, .slice none 0 0, .slice none 0 0] 192 (0, 0))) ∧ (w'.heap[gb261]? = some (.cells #[.slice Ao39 x262000_1.length co39, .slice Ao40 x262001_1.length co40, .slice Ao41 x262002_1.length co41] 192 (0, 0))) ∧ (w'.heap[gb267]? = some (.cells #[.int .i64 t263, .bool t264] 102 (0, 0))) ∧ (Below w.heap.size w w')) ?_ ?_
         rotate_left
         ·intro hJ3_4
          refine join_ (σ := Value × Value) 10 (bl 21 7663) (fun s_ => [(33, s_.1), (38, s_.2)]) (fun s_ w' => (w'.cell? ⟨gb261, 0, none⟩ = some (.slice Ao39 x262000_1.length co39) ∧ w'.cell? ⟨gb261, 1, none⟩ = some (.slice Ao40 x262001_1.length co40) ∧ w'.cell? ⟨gb261, 2, none⟩ = some (.slice Ao41 x262002_1.length co41) ∧ w'.cell? ⟨gb267, 0, none⟩ = some (.int .i64 t263) ∧ w'.cell? ⟨gb267, 1, none⟩ = some (.bool t264)) ∧ (Kd.R k102 102 w' w.heap.size (fun k_ => some k_ ≠ (.slice Ao39 x262000_1.length co39 : Value).ownBlock ∧ k_ ≠ gb256 ∧ k_ ≠ gb267) s_.1 y268) ∧ (Kd.R (Kd.int .i64) 3 w' w.heap.size (fun k_ => some k_ ≠ (.slice Ao40 x262001_1.length co40 : Value).ownBlock ∧ some k_ ≠ (.slice Ao41 x262002_1.length co41 : Value).ownBlock) s_.2 y274) ∧ (Kd.R k102 102 w' w.heap.size (fun k_ => some k_ ≠ (s_.1 : Value).ownBlock ∧ k_ ≠ gb256 ∧ k_ ≠ gb267) (.slice Ao39 x262000_1.length co39) x262000_1) ∧ (Kd.R (Kd.int .i64) 3 w' w.heap.size (fun k_ => some k_ ≠ (s_.2 : Value).ownBlock ∧ some k_ ≠ (.slice Ao41 x262002_1.length co41 : Value).ownBlock) (.slice Ao40 x262001_1.length co40) x262001_1) ∧ (Kd.R (Kd.int .i64) 3 w' w.heap.size (fun k_ => some k_ ≠ (s_.2 : Value).ownBlock ∧ some k_ ≠ (.slice Ao40 x262001_1.length co40 : Value).ownBlock) (.slice Ao41 x262002_1.length co41) x262002_1) ∧ (w'.heap[gb255]? = some (.cells #[.int .i64 a0_0, .int .i64 a0_1, .int .i64 a0_2, .int .i64 a0_3] 100 (0, 0))) ∧ (w'.heap[gb256]? = some (.cells #[.int .i64 x257000_1, .bool x257001_1] 102 (0, 0))) ∧ (w'.heap[gb257]? = some (.cells #[.slice none 0 0, .slice none 0 0, .slice none 0 0] 192 (0, 0))) ∧ (w'.heap[gb261]? = some (.cells #[.slice Ao39 x262000_1.length co39, .slice Ao40 x262001_1.length co40, .slice Ao41 x262002_1.length co41] 192 (0, 0))) ∧ (w'.heap[gb267]? = some (.cells #[.int .i64 t263, .bool t264] 102 (0, 0))) ∧ (Below w.heap.size w w')) ?_ ?_
          rotate_left
          ·intro hJ3_8
           refine join_ (σ := Value × Value) 10 (bl 21 15599) (fun s_ => [(33, s_.1), (43, s_.2)]) (fun s_ w' => (w'.cell? ⟨gb261, 0, none⟩ = some (.slice Ao39 x262000_1.length co39) ∧ w'.cell? ⟨gb261, 1, none⟩ = some (.slice Ao40 x262001_1.length co40) ∧ w'.cell? ⟨gb261, 2, none⟩ = some (.slice Ao41 x262002_1.length co41) ∧ w'.cell? ⟨gb267, 0, none⟩ = some (.int .i64 t263) ∧ w'.cell? ⟨gb267, 1, none⟩ = some (.bool t264)) ∧ (Kd.R k102 102 w' w.heap.size (fun k_ => some k_ ≠ (.slice Ao39 x262000_1.length co39 : Value).ownBlock ∧ k_ ≠ gb256 ∧ k_ ≠ gb267) s_.1 y268) ∧ (Kd.R (Kd.int .i64) 3 w' w.heap.size (fun k_ => some k_ ≠ (.slice Ao40 x262001_1.length co40 : Value).ownBlock ∧ some k_ ≠ (.slice Ao41 x262002_1.length co41 : Value).ownBlock) s_.2 y280) ∧ (Kd.R k102 102 w' w.heap.size (fun k_ => some k_ ≠ (s_.1 : Value).ownBlock ∧ k_ ≠ gb256 ∧ k_ ≠ gb267) (.slice Ao39 x262000_1.length co39) x262000_1) ∧ (Kd.R (Kd.int .i64) 3 w' w.heap.size (fun k_ => some k_ ≠ (s_.2 : Value).ownBlock ∧ some k_ ≠ (.slice Ao41 x262002_1.length co41 : Value).ownBlock) (.slice Ao40 x262001_1.length co40) x262001_1) ∧ (Kd.R (Kd.int .i64) 3 w' w.heap.size (fun k_ => some k_ ≠ (s_.2 : Value).ownBlock ∧ some k_ ≠ (.slice Ao40 x262001_1.length co40 : Value).ownBlock) (.slice Ao41 x262002_1.length co41) x262002_1) ∧ (w'.heap[gb255]? = some (.cells #[.int .i64 a0_0, .int .i64 a0_1, .int .i64 a0_2, .int .i64 a0_3] 100 (0, 0))) ∧ (w'.heap[gb256]? = some (.cells #[.int .i64 x257000_1, .bool x257001_1] 102 (0, 0))) ∧ (w'.heap[gb257]? = some (.cells #[.slice none 0 0, .slice none 0 0, .slice none 0 0] 192 (0, 0))) ∧ (w'.heap[gb261]? = some (.cells #[.slice Ao39 x262000_1.length co39, .slice Ao40 x262001_1.length co40, .slice Ao41 x262002_1.length co41] 192 (0, 0))) ∧ (w'.heap[gb267]? = some (.cells #[.int .i64 t263, .bool t264] 102 (0, 0))) ∧ (Below w.heap.size w w')) ?_ ?_
           rotate_left
           ·intro hJ3_13
            refine join_ (σ := Value × Value) 10 (bl 21 15847) (fun s_ => [(38, s_.1), (43, s_.2)]) (fun s_ w' => (w'.cell? ⟨gb261, 0, none⟩ = some (.slice Ao39 x262000_1.length co39) ∧ w'.cell? ⟨gb261, 1, none⟩ = some (.slice Ao40 x262001_1.length co40) ∧ w'.cell? ⟨gb261, 2, none⟩ = some (.slice Ao41 x262002_1.length co41) ∧ w'.cell? ⟨gb267, 0, none⟩ = some (.int .i64 t263) ∧ w'.cell? ⟨gb267, 1, none⟩ = some (.bool t264)) ∧ (Kd.R (Kd.int .i64) 3 w' w.heap.size (fun k_ => some k_ ≠ (s_.2 : Value).ownBlock ∧ some k_ ≠ (.slice Ao40 x262001_1.length co40 : Value).ownBlock ∧ some k_ ≠ (.slice Ao41 x262002_1.length co41 : Value).ownBlock) s_.1 y274) ∧ (Kd.R (Kd.int .i64) 3 w' w.heap.size (fun k_ => some k_ ≠ (s_.1 : Value).ownBlock ∧ some k_ ≠ (.slice Ao40 x262001_1.length co40 : Value).ownBlock ∧ some k_ ≠ (.slice Ao41 x262002_1.length co41 : Value).ownBlock) s_.2 y280) ∧ (Kd.R k102 102 w' w.heap.size (fun k_ => k_ ≠ gb256 ∧ k_ ≠ gb267) (.slice Ao39 x262000_1.length co39) x262000_1) ∧ (Kd.R (Kd.int .i64) 3 w' w.heap.size (fun k_ => some k_ ≠ (s_.1 : Value).ownBlock ∧ some k_ ≠ (s_.2 : Value).ownBlock ∧ some k_ ≠ (.slice Ao41 x262002_1.length co41 : Value).ownBlock) (.slice Ao40 x262001_1.length co40) x262001_1) ∧ (Kd.R (Kd.int .i64) 3 w' w.heap.size (fun k_ => some k_ ≠ (s_.1 : Value).ownBlock ∧ some k_ ≠ (s_.2 : Value).ownBlock ∧ some k_ ≠ (.slice Ao40 x262001_1.length co40 : Value).ownBlock) (.slice Ao41 x262002_1.length co41) x262002_1) ∧ (w'.heap[gb255]? = some (.cells #[.int .i64 a0_0, .int .i64 a0_1, .int .i64 a0_2, .int .i64 a0_3] 100 (0, 0))) ∧ (w'.heap[gb256]? = some (.cells #[.int .i64 x257000_1, .bool x257001_1] 102 (0, 0))) ∧ (w'.heap[gb257]? = some (.cells #[.slice none 0 0, .slice none 0 0, .slice none 0 0] 192 (0, 0))) ∧ (w'.heap[gb261]? = some (.cells #[.slice Ao39 x262000_1.length co39, .slice Ao40 x262001_1.length co40, .slice Ao41 x262002_1.length co41] 192 (0, 0))) ∧ (w'.heap[gb267]? = some (.cells #[.int .i64 t263, .bool t264] 102 (0, 0))) ∧ (Below w.heap.size w w')) ?_ ?_
            rotate_left
            ·intro hJ8_13
             refine join_ (σ := Value) 11 (bl 21 7407) (fun s_ => [(33, s_)]) (fun s_ w' => (w'.cell? ⟨gb261, 0, none⟩ = some (.slice Ao39 x262000_1.length co39) ∧ w'.cell? ⟨gb261, 1, none⟩ = some (.slice Ao40 x262001_1.length co40) ∧ w'.cell? ⟨gb261, 2, none⟩ = some (.slice Ao41 x262002_1.length co41) ∧ w'.cell? ⟨gb267, 0, none⟩ = some (.int .i64 t263) ∧ w'.cell? ⟨gb267, 1, none⟩ = some (.bool t264)) ∧ (Kd.R k102 102 w' w.heap.size (fun k_ => some k_ ≠ (.slice Ao39 x262000_1.length co39 : Value).ownBlock ∧ k_ ≠ gb256 ∧ k_ ≠ gb267) s_ y268) ∧ (Kd.R k102 102 w' w.heap.size (fun k_ => some k_ ≠ (s_ : Value).ownBlock ∧ k_ ≠ gb256 ∧ k_ ≠ gb267) (.slice Ao39 x262000_1.length co39) x262000_1) ∧ (Kd.R (Kd.int .i64) 3 w' w.heap.size (fun k_ => some k_ ≠ (.slice Ao41 x262002_1.length co41 : Value).ownBlock) (.slice Ao40 x262001_1.length co40) x262001_1) ∧ (Kd.R (Kd.int .i64) 3 w' w.heap.size (fun k_ => some k_ ≠ (.slice Ao40 x262001_1.length co40 : Value).ownBlock) (.slice Ao41 x262002_1.length co41) x262002_1) ∧ (w'.heap[gb255]? = some (.cells #[.int .i64 a0_0, .int .i64 a0_1, .int .i64 a0_2, .int .i64 a0_3] 100 (0, 0))) ∧ (w'.heap[gb256]? = some (.cells #[.int .i64 x257000_1, .bool x257001_1] 102 (0, 0))) ∧ (w'.heap[gb257]? = some (.cells #[.slice none 0 0, .slice none 0 0, .slice none 0 0] 192 (0, 0))) ∧ (w'.heap[gb261]? = some (.cells #[.slice Ao39 x262000_1.length co39, .slice Ao40 x262001_1.length co40, .slice Ao41 x262002_1.length co41] 192 (0, 0))) ∧ (w'.heap[gb267]? = some (.cells #[.int .i64 t263, .bool t264] 102 (0, 0))) ∧ (Below w.heap.size w w')) ?_ ?_
             rotate_left
             ·intro hJ3
              refine join_ (σ := Value) 11 (bl 21 7655) (fun s_ => [(38, s_)]) (fun s_ w' => (w'.cell? ⟨gb261, 0, none⟩ = some (.slice Ao39 x262000_1.length co39) ∧ w'.cell? ⟨gb261, 1, none⟩ = some (.slice Ao40 x262001_1.length co40) ∧ w'.cell? ⟨gb261, 2, none⟩ = some (.slice Ao41 x262002_1.length co41) ∧ w'.cell? ⟨gb267, 0, none⟩ = some (.int .i64 t263) ∧ w'.cell? ⟨gb267, 1, none⟩ = some (.bool t264)) ∧ (Kd.R (Kd.int .i64) 3 w' w.heap.size (fun k_ => some k_ ≠ (.slice Ao40 x262001_1.length co40 : Value).ownBlock ∧ some k_ ≠ (.slice Ao41 x262002_1.length co41 : Value).ownBlock) s_ y274) ∧ (Kd.R k102 102 w' w.heap.size (fun k_ => k_ ≠ gb256 ∧ k_ ≠ gb267) (.slice Ao39 x262000_1.length co39) x262000_1) ∧ (Kd.R (Kd.int .i64) 3 w' w.heap.size (fun k_ => some k_ ≠ (s_ : Value).ownBlock ∧ some k_ ≠ (.slice Ao41 x262002_1.length co41 : Value).ownBlock) (.slice Ao40 x262001_1.length co40) x262001_1) ∧ (Kd.R (Kd.int .i64) 3 w' w.heap.size (fun k_ => some k_ ≠ (s_ : Value).ownBlock ∧ some k_ ≠ (.slice Ao40 x262001_1.length co40 : Value).ownBlock) (.slice Ao41 x262002_1.length co41) x262002_1) ∧ (w'.heap[gb255]? = some (.cells #[.int .i64 a0_0, .int .i64 a0_1, .int .i64 a0_2, .int .i64 a0_3] 100 (0, 0))) ∧ (w'.heap[gb256]? = some (.cells #[.int .i64 x257000_1, .bool x257001_1] 102 (0, 0))) ∧ (w'.heap[gb257]? = some (.cells #[.slice none 0 0, .slice none 0 0, .slice none 0 0] 192 (0, 0))) ∧ (w'.heap[gb261]? = some (.cells #[.slice Ao39 x262000_1.length co39, .slice Ao40 x262001_1.length co40, .slice Ao41 x262002_1.length co41] 192 (0, 0))) ∧ (w'.heap[gb267]? = some (.cells #[.int .i64 t263, .bool t264] 102 (0, 0))) ∧ (Below w.heap.size w w')) ?_ ?_
              rotate_left
              ·intro hJ8
               refine join_ (σ := Value) 11 (bl 21 15591) (fun s_ => [(43, s_)]) (fun s_ w' => (w'.cell? ⟨gb261, 0, none⟩ = some (.slice Ao39 x262000_1.length co39) ∧ w'.cell? ⟨gb261, 1, none⟩ = some (.slice Ao40 x262001_1.length co40) ∧ w'.cell? ⟨gb261, 2, none⟩ = some (.slice Ao41 x262002_1.length co41) ∧ w'.cell? ⟨gb267, 0, none⟩ = some (.int .i64 t263) ∧ w'.cell? ⟨gb267, 1, none⟩ = some (.bool t264)) ∧ (Kd.R (Kd.int .i64) 3 w' w.heap.size (fun k_ => some k_ ≠ (.slice Ao40 x262001_1.length co40 : Value).ownBlock ∧ some k_ ≠ (.slice Ao41 x262002_1.length co41 : Value).ownBlock) s_ y280) ∧ (Kd.R k102 102 w' w.heap.size (fun k_ => k_ ≠ gb256 ∧ k_ ≠ gb267) (.slice Ao39 x262000_1.length co39) x262000_1) ∧ (Kd.R (Kd.int .i64) 3 w' w.heap.size (fun k_ => some k_ ≠ (s_ : Value).ownBlock ∧ some k_ ≠ (.slice Ao41 x262002_1.length co41 : Value).ownBlock) (.slice Ao40 x262001_1.length co40) x262001_1) ∧ (Kd.R (Kd.int .i64) 3 w' w.heap.size (fun k_ => some k_ ≠ (s_ : Value).ownBlock ∧ some k_ ≠ (.slice Ao40 x262001_1.length co40 : Value).ownBlock) (.slice Ao41 x262002_1.length co41) x262002_1) ∧ (w'.heap[gb255]? = some (.cells #[.int .i64 a0_0, .int .i64 a0_1, .int .i64 a0_2, .int .i64 a0_3] 100 (0, 0))) ∧ (w'.heap[gb256]? = some (.cells #[.int .i64 x257000_1, .bool x257001_1] 102 (0, 0))) ∧ (w'.heap[gb257]? = some (.cells #[.slice none 0 0, .slice none 0 0, .slice none 0 0] 192 (0, 0))) ∧ (w'.heap[gb261]? = some (.cells #[.slice Ao39 x262000_1.length co39, .slice Ao40 x262001_1.length co40, .slice Ao41 x262002_1.length co41] 192 (0, 0))) ∧ (w'.heap[gb267]? = some (.cells #[.int .i64 t263, .bool t264] 102 (0, 0))) ∧ (Below w.heap.size w w')) ?_ ?_
               rotate_left
               ·intro hJ13
                refine three_ (i := 3) (j := 8) (k := 13) (Ni := some 33) (Nj := some 38) (Nk := some 43) (bl 21 7407) (bl 21 7655) (bl 21 15591) rfl rfl rfl rfl rfl rfl (three_of HT_.out (by kernel_rfl)) (by decide) (by decide) (by decide) (fun K hK => ?_) (fun K hK => ?_) (fun K hK => ?_)
                ·skip
                 refine Kd.R_lit_step k102 _ 102 ?hg (N := 33) ?hd (xs := ([(⟨t263, t264⟩ : S102)] : List (S102))) (inner := [.int .i64 t263, .bool t264]) (ok := fun _ => True) (okp := fun _ => True) ?hr ?hp (fun _ hk => hk) trivial (Below.refl _ _) (Nat.le_refl _) (by simp) ?_; (case hd => rfl); (case hg => rfl); (case hr => first | (go_simp; done) | (go_simp; rfl)); (case hp => exact (Reps.c2 (show Kd.M k102 _ _ _ (⟨t263, t264⟩ : S102) [.int .i64 t263, .bool t264] from (k102_mkM _ _ _ (⟨t263, t264⟩ : S102) )) (Reps.none _ _)))
                 intro v269 w44 ho45 hb hg_ hnew_
                 clear hg_ hnew_
                 (first | rw [← Ny268.out] at ho45 | (simp only [Int.reduceToNat] at ho45; rw [← Ny268.out] at ho45))
                 replace HO_262001 := rb HO_262001 hb
                 replace HO_262002 := rb HO_262002 hb
                 have HO270 := Aside0.mk (Kd.R_lower (Kd.R_newB (Kd.R_newB (Kd.R_new' ho45 (Kd.R_lt (rk HO_262000))) (g := gb256) (o := .cells #[.int .i64 x257000_1, .bool x257001_1] 102 (0, 0)) (bk BK256)) (g := gb267) (o := .cells #[.int .i64 t263, .bool t264] 102 (0, 0)) (bk BK267)) (below_size (bw HB)))
                 replace HO_262000 := Aside0.mk (Kd.R_elder' (rk HO_262000) (Kd.R_base ho45) hb)
                 replace BK255 := bb BK255 hb
                 replace BK256 := bb BK256 hb
                 replace BK257 := bb BK257 hb
                 replace BK261 := bb BK261 hb
                 replace BK267 := bb BK267 hb
                 replace HB := bs HB hb
                 clear hb ho45
                 refine hK.out _ _ ⟨bc0 BK261, bc1 BK261, bc2 BK261, bc0 BK267, bc1 BK267⟩ (fun hHeld => ?_)
                 clear hK K
                 refine norm_ (a' := ?_) ?_ ?_; rotate_left; (show Act.put _ (some 33) _ = _; simp only [sqa, sqb, sqc, sqd, i64_w, i32_w]; rfl)
                 exact norm_ (by first | (simp only [putAll, Act.put, List.setIfInBounds_toArray, List.set_cons_zero, List.set_cons_succ]; done) | (simp only [putAll, Act.put, List.setIfInBounds_toArray, List.set_cons_zero, List.set_cons_succ]; rfl)) (hJ3 (v269) _ ⟨hHeld, (by exact Kd.R_mono HO270.out (fun _ hk => ⟨hk.1.1.2, ⟨hk.1.2, hk.2⟩⟩)), (by exact Kd.R_mono HO_262000.out (fun _ hk => ⟨hk.2, ⟨hk.1.1, hk.1.2⟩⟩)), (rk HO_262001), (rk HO_262002), (bk BK255), (bk BK256), (bk BK257), (bk BK261), (bk BK267), (bw HB)⟩)
                ·skip
                 refine Kd.R_lit_step (Kd.int .i64) _ 3 ?hg (N := 38) ?hd (xs := ([t265] : List Int)) (inner := [.int .i64 t265]) (ok := fun _ => True) (okp := fun _ => True) ?hr ?hp (fun _ hk => hk) trivial (Below.refl _ _) (Nat.le_refl _) (by simp) ?_; (case hd => rfl); (case hg => rfl); (case hr => first | (go_simp; done) | (go_simp; rfl)); (case hp => exact (Reps.one (show Kd.M (Kd.int .i64) _ _ _ t265 [.int .i64 t265] from rfl) (Reps.none _ _)))
                 intro v275 w44 ho45 hb hg_ hnew_
                 clear hg_ hnew_
                 (first | rw [← Ny274.out] at ho45 | (simp only [Int.reduceToNat] at ho45; rw [← Ny274.out] at ho45))
                 replace HO_262000 := rb HO_262000 hb
                 have HO276 := Aside0.mk (Kd.R_lower (Kd.R_new' (Kd.R_new' ho45 (Kd.R_lt (rk HO_262001))) (Kd.R_lt (rk HO_262002))) (below_size (bw HB)))
                 replace HO_262001 := Aside0.mk (Kd.R_elder' (rk HO_262001) (Kd.R_base ho45) hb)
                 replace HO_262002 := Aside0.mk (Kd.R_elder' (rk HO_262002) (Kd.R_base ho45) hb)
                 replace BK255 := bb BK255 hb
                 replace BK256 := bb BK256 hb
                 replace BK257 := bb BK257 hb
                 replace BK261 := bb BK261 hb
                 replace BK267 := bb BK267 hb
                 replace HB := bs HB hb
                 clear hb ho45
                 refine hK.out _ _ ⟨bc0 BK261, bc1 BK261, bc2 BK261, bc0 BK267, bc1 BK267⟩ (fun hHeld => ?_)
                 clear hK K
                 refine norm_ (a' := ?_) ?_ ?_; rotate_left; (show Act.put _ (some 38) _ = _; simp only [sqa, sqb, sqc, sqd, i64_w, i32_w]; rfl)
                 exact norm_ (by first | (simp only [putAll, Act.put, List.setIfInBounds_toArray, List.set_cons_zero, List.set_cons_succ]; done) | (simp only [putAll, Act.put, List.setIfInBounds_toArray, List.set_cons_zero, List.set_cons_succ]; rfl)) (hJ8 (v275) _ ⟨hHeld, (by exact Kd.R_mono HO276.out (fun _ hk => ⟨hk.1.2, hk.2⟩)), (rk HO_262000), (by exact Kd.R_mono HO_262001.out (fun _ hk => ⟨hk.2, hk.1⟩)), (by exact Kd.R_mono HO_262002.out (fun _ hk => ⟨hk.2, hk.1⟩)), (bk BK255), (bk BK256), (bk BK257), (bk BK261), (bk BK267), (bw HB)⟩)
                ·skip
                 refine Kd.R_lit_step (Kd.int .i64) _ 3 ?hg (N := 43) ?hd (xs := ([t266] : List Int)) (inner := [.int .i64 t266]) (ok := fun _ => True) (okp := fun _ => True) ?hr ?hp (fun _ hk => hk) trivial (Below.refl _ _) (Nat.le_refl _) (by simp) ?_; (case hd => rfl); (case hg => rfl); (case hr => first | (go_simp; done) | (go_simp; rfl)); (case hp => exact (Reps.one (show Kd.M (Kd.int .i64) _ _ _ t266 [.int .i64 t266] from rfl) (Reps.none _ _)))
                 intro v281 w44 ho45 hb hg_ hnew_
                 clear hg_ hnew_
                 (first | rw [← Ny280.out] at ho45 | (simp only [Int.reduceToNat] at ho45; rw [← Ny280.out] at ho45))
                 replace HO_262000 := rb HO_262000 hb
                 have HO282 := Aside0.mk (Kd.R_lower (Kd.R_new' (Kd.R_new' ho45 (Kd.R_lt (rk HO_262001))) (Kd.R_lt (rk HO_262002))) (below_size (bw HB)))
                 replace HO_262001 := Aside0.mk (Kd.R_elder' (rk HO_262001) (Kd.R_base ho45) hb)
                 replace HO_262002 := Aside0.mk (Kd.R_elder' (rk HO_262002) (Kd.R_base ho45) hb)
                 replace BK255 := bb BK255 hb
                 replace BK256 := bb BK256 hb
                 replace BK257 := bb BK257 hb
                 replace BK261 := bb BK261 hb
                 replace BK267 := bb BK267 hb
                 replace HB := bs HB hb
                 clear hb ho45
                 refine hK.out _ _ ⟨bc0 BK261, bc1 BK261, bc2 BK261, bc0 BK267, bc1 BK267⟩ (fun hHeld => ?_)
                 clear hK K
                 refine norm_ (a' := ?_) ?_ ?_; rotate_left; (show Act.put _ (some 43) _ = _; simp only [sqa, sqb, sqc, sqd, i64_w, i32_w]; rfl)
                 exact norm_ (by first | (simp only [putAll, Act.put, List.setIfInBounds_toArray, List.set_cons_zero, List.set_cons_succ]; done) | (simp only [putAll, Act.put, List.setIfInBounds_toArray, List.set_cons_zero, List.set_cons_succ]; rfl)) (hJ13 (v281) _ ⟨hHeld, (by exact Kd.R_mono HO282.out (fun _ hk => ⟨hk.1.2, hk.2⟩)), (rk HO_262000), (by exact Kd.R_mono HO_262001.out (fun _ hk => ⟨hk.2, hk.1⟩)), (by exact Kd.R_mono HO_262002.out (fun _ hk => ⟨hk.2, hk.1⟩)), (bk BK255), (bk BK256), (bk BK257), (bk BK261), (bk BK267), (bw HB)⟩)
               ·skip
                rintro v281 w46 ⟨hS_, h0_, h1_, h2_, h3_, h4_, h5_, h6_, h7_, h8_, h9_⟩
                have HO282 := Aside0.mk h0_
                replace HO_262000 := Aside0.mk h1_
                replace HO_262001 := Aside0.mk h2_
                replace HO_262002 := Aside0.mk h3_
                replace BK255 := Aside0.mk h4_
                replace BK256 := Aside0.mk h5_
                replace BK257 := Aside0.mk h6_
                replace BK261 := Aside0.mk h7_
                replace BK267 := Aside0.mk h8_
                replace HB := Aside0.mk h9_
                clear h0_ h1_ h2_ h3_ h4_ h5_ h6_ h7_ h8_ h9_
                have hHeld : w46.cell? ⟨gb261, 0, none⟩ = some (.slice Ao39 x262000_1.length co39) ∧ w46.cell? ⟨gb261, 1, none⟩ = some (.slice Ao40 x262001_1.length co40) ∧ w46.cell? ⟨gb261, 2, none⟩ = some (.slice Ao41 x262002_1.length co41) ∧ w46.cell? ⟨gb267, 0, none⟩ = some (.int .i64 t263) ∧ w46.cell? ⟨gb267, 1, none⟩ = some (.bool t264) := hS_
                refine norm_ (a' := ?_) ?_ ?_
                rotate_left
                ·simp only [putAll, Act.put, List.setIfInBounds_toArray, List.set_cons_zero, List.set_cons_succ]
                 rfl
                refine two_ (i := 3) (j := 8) (Ni := some 33) (Nj := some 38) (bl 21 15599) (bl 21 15847) rfl rfl rfl rfl (two_of HT_.out (by kernel_rfl)) (by decide) (by decide) (fun K hK => ?_) (fun K hK => ?_)
                ·skip
                 refine Kd.R_lit_step k102 _ 102 ?hg (N := 33) ?hd (xs := ([(⟨t263, t264⟩ : S102)] : List (S102))) (inner := [.int .i64 t263, .bool t264]) (ok := fun _ => True) (okp := fun _ => True) ?hr ?hp (fun _ hk => hk) trivial (Below.refl _ _) (Nat.le_refl _) (by simp) ?_; (case hd => rfl); (case hg => rfl); (case hr => first | (go_simp; done) | (go_simp; rfl)); (case hp => exact (Reps.c2 (show Kd.M k102 _ _ _ (⟨t263, t264⟩ : S102) [.int .i64 t263, .bool t264] from (k102_mkM _ _ _ (⟨t263, t264⟩ : S102) )) (Reps.none _ _)))
                 intro v269 w47 ho48 hb hg_ hnew_
                 clear hg_ hnew_
                 (first | rw [← Ny268.out] at ho48 | (simp only [Int.reduceToNat] at ho48; rw [← Ny268.out] at ho48))
                 replace HO_262001 := rb HO_262001 hb
                 replace HO_262002 := rb HO_262002 hb
                 replace HO282 := rb HO282 hb
                 have HO270 := Aside0.mk (Kd.R_lower (Kd.R_newB (Kd.R_newB (Kd.R_new' ho48 (Kd.R_lt (rk HO_262000))) (g := gb256) (o := .cells #[.int .i64 x257000_1, .bool x257001_1] 102 (0, 0)) (bk BK256)) (g := gb267) (o := .cells #[.int .i64 t263, .bool t264] 102 (0, 0)) (bk BK267)) (below_size (bw HB)))
                 replace HO_262000 := Aside0.mk (Kd.R_elder' (rk HO_262000) (Kd.R_base ho48) hb)
                 replace BK255 := bb BK255 hb
                 replace BK256 := bb BK256 hb
                 replace BK257 := bb BK257 hb
                 replace BK261 := bb BK261 hb
                 replace BK267 := bb BK267 hb
                 replace HB := bs HB hb
                 clear hb ho48
                 refine hK.out _ _ ⟨bc0 BK261, bc1 BK261, bc2 BK261, bc0 BK267, bc1 BK267⟩ (fun hHeld => ?_)
                 clear hK K
                 refine norm_ (a' := ?_) ?_ ?_; rotate_left; (show Act.put _ (some 33) _ = _; simp only [sqa, sqb, sqc, sqd, i64_w, i32_w]; rfl)
                 exact norm_ (by first | (simp only [putAll, Act.put, List.setIfInBounds_toArray, List.set_cons_zero, List.set_cons_succ]; done) | (simp only [putAll, Act.put, List.setIfInBounds_toArray, List.set_cons_zero, List.set_cons_succ]; rfl)) (hJ3_13 (v269, v281) _ ⟨hHeld, (by exact Kd.R_mono HO270.out (fun _ hk => ⟨hk.1.1.2, ⟨hk.1.2, hk.2⟩⟩)), (rk HO282), (by exact Kd.R_mono HO_262000.out (fun _ hk => ⟨hk.2, ⟨hk.1.1, hk.1.2⟩⟩)), (rk HO_262001), (rk HO_262002), (bk BK255), (bk BK256), (bk BK257), (bk BK261), (bk BK267), (bw HB)⟩)
                ·skip
                 refine Kd.R_lit_step (Kd.int .i64) _ 3 ?hg (N := 38) ?hd (xs := ([t265] : List Int)) (inner := [.int .i64 t265]) (ok := fun _ => True) (okp := fun _ => True) ?hr ?hp (fun _ hk => hk) trivial (Below.refl _ _) (Nat.le_refl _) (by simp) ?_; (case hd => rfl); (case hg => rfl); (case hr => first | (go_simp; done) | (go_simp; rfl)); (case hp => exact (Reps.one (show Kd.M (Kd.int .i64) _ _ _ t265 [.int .i64 t265] from rfl) (Reps.none _ _)))
                 intro v275 w47 ho48 hb hg_ hnew_
                 clear hg_ hnew_
                 (first | rw [← Ny274.out] at ho48 | (simp only [Int.reduceToNat] at ho48; rw [← Ny274.out] at ho48))
                 replace HO_262000 := rb HO_262000 hb
                 have HO276 := Aside0.mk (Kd.R_lower (Kd.R_new' (Kd.R_new' (Kd.R_new' ho48 (Kd.R_lt (rk HO_262001))) (Kd.R_lt (rk HO_262002))) (Kd.R_lt (rk HO282))) (below_size (bw HB)))
                 replace HO_262001 := Aside0.mk (Kd.R_elder' (rk HO_262001) (Kd.R_base ho48) hb)
                 replace HO_262002 := Aside0.mk (Kd.R_elder' (rk HO_262002) (Kd.R_base ho48) hb)
                 replace HO282 := Aside0.mk (Kd.R_elder' (rk HO282) (Kd.R_base ho48) hb)
                 replace BK255 := bb BK255 hb
                 replace BK256 := bb BK256 hb
                 replace BK257 := bb BK257 hb
                 replace BK261 := bb BK261 hb
                 replace BK267 := bb BK267 hb
                 replace HB := bs HB hb
                 clear hb ho48
                 refine hK.out _ _ ⟨bc0 BK261, bc1 BK261, bc2 BK261, bc0 BK267, bc1 BK267⟩ (fun hHeld => ?_)
                 clear hK K
                 refine norm_ (a' := ?_) ?_ ?_; rotate_left; (show Act.put _ (some 38) _ = _; simp only [sqa, sqb, sqc, sqd, i64_w, i32_w]; rfl)
                 exact norm_ (by first | (simp only [putAll, Act.put, List.setIfInBounds_toArray, List.set_cons_zero, List.set_cons_succ]; done) | (simp only [putAll, Act.put, List.setIfInBounds_toArray, List.set_cons_zero, List.set_cons_succ]; rfl)) (hJ8_13 (v275, v281) _ ⟨hHeld, (by exact Kd.R_mono HO276.out (fun _ hk => ⟨hk.2, ⟨hk.1.1.2, hk.1.2⟩⟩)), (by exact Kd.R_mono HO282.out (fun _ hk => ⟨hk.2, ⟨hk.1.1, hk.1.2⟩⟩)), (rk HO_262000), (by exact Kd.R_mono HO_262001.out (fun _ hk => ⟨hk.2, ⟨hk.1.1, hk.1.2⟩⟩)), (by exact Kd.R_mono HO_262002.out (fun _ hk => ⟨hk.2, ⟨hk.1.1, hk.1.2⟩⟩)), (bk BK255), (bk BK256), (bk BK257), (bk BK261), (bk BK267), (bw HB)⟩)
              ·skip
               rintro v275 w46 ⟨hS_, h0_, h1_, h2_, h3_, h4_, h5_, h6_, h7_, h8_, h9_⟩
               have HO276 := Aside0.mk h0_
               replace HO_262000 := Aside0.mk h1_
               replace HO_262001 := Aside0.mk h2_
               replace HO_262002 := Aside0.mk h3_
               replace BK255 := Aside0.mk h4_
               replace BK256 := Aside0.mk h5_
               replace BK257 := Aside0.mk h6_
               replace BK261 := Aside0.mk h7_
               replace BK267 := Aside0.mk h8_
               replace HB := Aside0.mk h9_
               clear h0_ h1_ h2_ h3_ h4_ h5_ h6_ h7_ h8_ h9_
               have hHeld : w46.cell? ⟨gb261, 0, none⟩ = some (.slice Ao39 x262000_1.length co39) ∧ w46.cell? ⟨gb261, 1, none⟩ = some (.slice Ao40 x262001_1.length co40) ∧ w46.cell? ⟨gb261, 2, none⟩ = some (.slice Ao41 x262002_1.length co41) ∧ w46.cell? ⟨gb267, 0, none⟩ = some (.int .i64 t263) ∧ w46.cell? ⟨gb267, 1, none⟩ = some (.bool t264) := hS_
               refine norm_ (a' := ?_) ?_ ?_
               rotate_left
               ·simp only [putAll, Act.put, List.setIfInBounds_toArray, List.set_cons_zero, List.set_cons_succ]
                rfl
               refine two_ (i := 3) (j := 13) (Ni := some 33) (Nj := some 43) (bl 21 7663) (bl 21 15847) rfl rfl rfl rfl (two_of HT_.out (by kernel_rfl)) (by decide) (by decide) (fun K hK => ?_) (fun K hK => ?_)
               ·skip
                refine Kd.R_lit_step k102 _ 102 ?hg (N := 33) ?hd (xs := ([(⟨t263, t264⟩ : S102)] : List (S102))) (inner := [.int .i64 t263, .bool t264]) (ok := fun _ => True) (okp := fun _ => True) ?hr ?hp (fun _ hk => hk) trivial (Below.refl _ _) (Nat.le_refl _) (by simp) ?_; (case hd => rfl); (case hg => rfl); (case hr => first | (go_simp; done) | (go_simp; rfl)); (case hp => exact (Reps.c2 (show Kd.M k102 _ _ _ (⟨t263, t264⟩ : S102) [.int .i64 t263, .bool t264] from (k102_mkM _ _ _ (⟨t263, t264⟩ : S102) )) (Reps.none _ _)))
                intro v269 w47 ho48 hb hg_ hnew_
                clear hg_ hnew_
                (first | rw [← Ny268.out] at ho48 | (simp only [Int.reduceToNat] at ho48; rw [← Ny268.out] at ho48))
                replace HO_262001 := rb HO_262001 hb
                replace HO_262002 := rb HO_262002 hb
                replace HO276 := rb HO276 hb
                have HO270 := Aside0.mk (Kd.R_lower (Kd.R_newB (Kd.R_newB (Kd.R_new' ho48 (Kd.R_lt (rk HO_262000))) (g := gb256) (o := .cells #[.int .i64 x257000_1, .bool x257001_1] 102 (0, 0)) (bk BK256)) (g := gb267) (o := .cells #[.int .i64 t263, .bool t264] 102 (0, 0)) (bk BK267)) (below_size (bw HB)))
                replace HO_262000 := Aside0.mk (Kd.R_elder' (rk HO_262000) (Kd.R_base ho48) hb)
                replace BK255 := bb BK255 hb
                replace BK256 := bb BK256 hb
                replace BK257 := bb BK257 hb
                replace BK261 := bb BK261 hb
                replace BK267 := bb BK267 hb
                replace HB := bs HB hb
                clear hb ho48
                refine hK.out _ _ ⟨bc0 BK261, bc1 BK261, bc2 BK261, bc0 BK267, bc1 BK267⟩ (fun hHeld => ?_)
                clear hK K
                refine norm_ (a' := ?_) ?_ ?_; rotate_left; (show Act.put _ (some 33) _ = _; simp only [sqa, sqb, sqc, sqd, i64_w, i32_w]; rfl)
                exact norm_ (by first | (simp only [putAll, Act.put, List.setIfInBounds_toArray, List.set_cons_zero, List.set_cons_succ]; done) | (simp only [putAll, Act.put, List.setIfInBounds_toArray, List.set_cons_zero, List.set_cons_succ]; rfl)) (hJ3_8 (v269, v275) _ ⟨hHeld, (by exact Kd.R_mono HO270.out (fun _ hk => ⟨hk.1.1.2, ⟨hk.1.2, hk.2⟩⟩)), (rk HO276), (by exact Kd.R_mono HO_262000.out (fun _ hk => ⟨hk.2, ⟨hk.1.1, hk.1.2⟩⟩)), (rk HO_262001), (rk HO_262002), (bk BK255), (bk BK256), (bk BK257), (bk BK261), (bk BK267), (bw HB)⟩)
               ·skip
                refine Kd.R_lit_step (Kd.int .i64) _ 3 ?hg (N := 43) ?hd (xs := ([t266] : List Int)) (inner := [.int .i64 t266]) (ok := fun _ => True) (okp := fun _ => True) ?hr ?hp (fun _ hk => hk) trivial (Below.refl _ _) (Nat.le_refl _) (by simp) ?_; (case hd => rfl); (case hg => rfl); (case hr => first | (go_simp; done) | (go_simp; rfl)); (case hp => exact (Reps.one (show Kd.M (Kd.int .i64) _ _ _ t266 [.int .i64 t266] from rfl) (Reps.none _ _)))
                intro v281 w47 ho48 hb hg_ hnew_
                clear hg_ hnew_
                (first | rw [← Ny280.out] at ho48 | (simp only [Int.reduceToNat] at ho48; rw [← Ny280.out] at ho48))
                replace HO_262000 := rb HO_262000 hb
                have HO282 := Aside0.mk (Kd.R_lower (Kd.R_new' (Kd.R_new' (Kd.R_new' ho48 (Kd.R_lt (rk HO_262001))) (Kd.R_lt (rk HO_262002))) (Kd.R_lt (rk HO276))) (below_size (bw HB)))
                replace HO_262001 := Aside0.mk (Kd.R_elder' (rk HO_262001) (Kd.R_base ho48) hb)
                replace HO_262002 := Aside0.mk (Kd.R_elder' (rk HO_262002) (Kd.R_base ho48) hb)
                replace HO276 := Aside0.mk (Kd.R_elder' (rk HO276) (Kd.R_base ho48) hb)
                replace BK255 := bb BK255 hb
                replace BK256 := bb BK256 hb
                replace BK257 := bb BK257 hb
                replace BK261 := bb BK261 hb
                replace BK267 := bb BK267 hb
                replace HB := bs HB hb
                clear hb ho48
                refine hK.out _ _ ⟨bc0 BK261, bc1 BK261, bc2 BK261, bc0 BK267, bc1 BK267⟩ (fun hHeld => ?_)
                clear hK K
                refine norm_ (a' := ?_) ?_ ?_; rotate_left; (show Act.put _ (some 43) _ = _; simp only [sqa, sqb, sqc, sqd, i64_w, i32_w]; rfl)
                exact norm_ (by first | (simp only [putAll, Act.put, List.setIfInBounds_toArray, List.set_cons_zero, List.set_cons_succ]; done) | (simp only [putAll, Act.put, List.setIfInBounds_toArray, List.set_cons_zero, List.set_cons_succ]; rfl)) (hJ8_13 (v275, v281) _ ⟨hHeld, (by exact Kd.R_mono HO276.out (fun _ hk => ⟨hk.2, ⟨hk.1.1, hk.1.2⟩⟩)), (by exact Kd.R_mono HO282.out (fun _ hk => ⟨hk.2, ⟨hk.1.1.2, hk.1.2⟩⟩)), (rk HO_262000), (by exact Kd.R_mono HO_262001.out (fun _ hk => ⟨hk.1.1, ⟨hk.2, hk.1.2⟩⟩)), (by exact Kd.R_mono HO_262002.out (fun _ hk => ⟨hk.1.1, ⟨hk.2, hk.1.2⟩⟩)), (bk BK255), (bk BK256), (bk BK257), (bk BK261), (bk BK267), (bw HB)⟩)
             ·skip
              rintro v269 w46 ⟨hS_, h0_, h1_, h2_, h3_, h4_, h5_, h6_, h7_, h8_, h9_⟩
              have HO270 := Aside0.mk h0_
              replace HO_262000 := Aside0.mk h1_
              replace HO_262001 := Aside0.mk h2_
              replace HO_262002 := Aside0.mk h3_
              replace BK255 := Aside0.mk h4_
              replace BK256 := Aside0.mk h5_
              replace BK257 := Aside0.mk h6_
              replace BK261 := Aside0.mk h7_
              replace BK267 := Aside0.mk h8_
              replace HB := Aside0.mk h9_
              clear h0_ h1_ h2_ h3_ h4_ h5_ h6_ h7_ h8_ h9_
              have hHeld : w46.cell? ⟨gb261, 0, none⟩ = some (.slice Ao39 x262000_1.length co39) ∧ w46.cell? ⟨gb261, 1, none⟩ = some (.slice Ao40 x262001_1.length co40) ∧ w46.cell? ⟨gb261, 2, none⟩ = some (.slice Ao41 x262002_1.length co41) ∧ w46.cell? ⟨gb267, 0, none⟩ = some (.int .i64 t263) ∧ w46.cell? ⟨gb267, 1, none⟩ = some (.bool t264) := hS_
              obtain ⟨Ao48, co48, eo48⟩ := Kd.R_slice HO270.out
              (first | subst eo48 | (injection eo48 with f1_ f2_ f3_; have f4_ := f1_.symm; have f5_ := f3_.symm; clear f1_ f2_ f3_; subst f4_; subst f5_))
              refine norm_ (a' := ?_) ?_ ?_
              rotate_left
              ·simp only [putAll, Act.put, List.setIfInBounds_toArray, List.set_cons_zero, List.set_cons_succ]
               rfl
              refine three_ (i := 4) (j := 8) (k := 13) (Ni := some 34) (Nj := some 38) (Nk := some 43) (bl 21 7423) (bl 21 7663) (bl 21 15599) rfl rfl rfl rfl rfl rfl (three_of HT_.out (by kernel_rfl)) (by decide) (by decide) (by decide) (fun K hK => ?_) (fun K hK => ?_) (fun K hK => ?_)
              ·skip
               refine Kd.R_append_rows_step k102 (w0 := w) w.heap.size (by rfl) (.tmp 31) (.tmp 33) 106 102 (.agg #[(.int .i64 0), (.bool false)]) 16 rfl Try.underlying106 info102 rfl (by decide) (by omega) (.slice Ao39 x262000_1.length co39) x262000_1 y268 _ _ _ (fun k_ => some k_ ≠ (.slice Ao48 y268.length co48 : Value).ownBlock ∧ k_ ≠ gb256 ∧ k_ ≠ gb267) (fun _ => False) rfl rfl ?aO ?aR (fun _ _ h => h) (fun _ h => h.elim) ?aF ?aB ?aS ?aL ?_
               (case aR => exact cr HO270)
               (case aB => exact (bw HB))
               (case aF => exact (fun k_ hk => ⟨Kd.fresh' (Kd.R_lt (rk HO270)) k_ hk, Kd.freshB (g := gb256) (o := .cells #[.int .i64 x257000_1, .bool x257001_1] 102 (0, 0)) (bk BK256) k_ hk, Kd.freshB (g := gb267) (o := .cells #[.int .i64 t263, .bool t264] 102 (0, 0)) (bk BK267) k_ hk⟩))
               (case aO => exact (rk HO_262000))
               (case aS => exact (below_size (bw HB)))
               (case aL => have := LMc22.out; omega)
               intro v272 w47 ho hb hg hat
               rw [← Ny271.out] at ho
               have n0_ := Aside0.mk (Kd.R_over' (rk HO_262001) (Kd.R_typed (rk HO_262000)) (by decide) hg)
               have n1_ := Aside0.mk (Kd.R_over' (rk HO_262002) (Kd.R_typed (rk HO_262000)) (by decide) hg)
               have n2_ := Aside0.mk (blk_grown (g := gb255) (o := .cells #[.int .i64 a0_0, .int .i64 a0_1, .int .i64 a0_2, .int .i64 a0_3] 100 (0, 0)) (bk BK255) hg (Kd.R_ne HO_262000.out BK255.out (by decide)))
               have n3_ := Aside0.mk (blk_grown (g := gb256) (o := .cells #[.int .i64 x257000_1, .bool x257001_1] 102 (0, 0)) (bk BK256) hg (Kd.R_away HO_262000.out (fun _ hk => hk.2.1)))
               have n4_ := Aside0.mk (blk_grown (g := gb257) (o := .cells #[.slice none 0 0, .slice none 0 0, .slice none 0 0] 192 (0, 0)) (bk BK257) hg (Kd.R_ne HO_262000.out BK257.out (by decide)))
               have n5_ := Aside0.mk (blk_grown (g := gb261) (o := .cells #[.slice Ao39 x262000_1.length co39, .slice Ao40 x262001_1.length co40, .slice Ao41 x262002_1.length co41] 192 (0, 0)) (bk BK261) hg (Kd.R_ne HO_262000.out BK261.out (by decide)))
               have n6_ := Aside0.mk (blk_grown (g := gb267) (o := .cells #[.int .i64 t263, .bool t264] 102 (0, 0)) (bk BK267) hg (Kd.R_away HO_262000.out (fun _ hk => hk.2.2)))
               have n7_ := Aside0.mk (Kd.R_after (ok := (fun k_ => k_ ≠ gb256 ∧ k_ ≠ gb267)) (by exact Kd.R_mono HO270.out (fun _ hk => ⟨⟨hk.2.1, hk.2.2⟩, hk.1⟩)) hg hat)
               have n8_ := Aside0.mk (hb)
               have n9_ := Aside0.mk (ho)
               clear HO_262001
               clear HO_262002
               clear BK255
               clear BK256
               clear BK257
               clear BK261
               clear BK267
               clear HO270
               clear HB
               clear HO_262000
               have HO_262001 := n0_
               have HO_262002 := n1_
               have BK255 := n2_
               have BK256 := n3_
               have BK257 := n4_
               have BK261 := n5_
               have BK267 := n6_
               have HO270 := n7_
               have HB := n8_
               have HO273 := n9_
               clear n0_ n1_ n2_ n3_ n4_ n5_ n6_ n7_ n8_ n9_
               clear ho hb hg hat
               refine hK.out _ _ ⟨bc0 BK261, bc1 BK261, bc2 BK261, bc0 BK267, bc1 BK267⟩ (fun hHeld => ?_)
               clear hK K
               refine norm_ (a' := ?_) ?_ ?_; rotate_left; (show Act.put _ (some 34) _ = _; simp only [sqa, sqb, sqc, sqd, i64_w, i32_w]; rfl)
               refine pu 15 45 (bl 21 40191) HT_.out (v := ?_) (a' := ?_) ?_ ?_ ?_
               rotate_left; (intro w'; go_simp; with_reducible rfl); rotate_left; (simp only [sqa, sqb, sqc, sqd, i64_w, i32_w]; rfl)
               exact norm_ (by first | (simp only [putAll, Act.put, List.setIfInBounds_toArray, List.set_cons_zero, List.set_cons_succ]; done) | (simp only [putAll, Act.put, List.setIfInBounds_toArray, List.set_cons_zero, List.set_cons_succ]; rfl)) (hJ3_4 (.slice Ao48 y268.length co48, v272) _ ⟨hHeld, (by exact Kd.R_mono HO270.out (fun _ hk => ⟨hk.2, ⟨hk.1.1, hk.1.2⟩⟩)), (rk HO273), (rk HO_262001), (rk HO_262002), (bk BK255), (bk BK256), (bk BK257), (bk BK261), (bk BK267), (bw HB)⟩)
              ·skip
               refine Kd.R_lit_step (Kd.int .i64) _ 3 ?hg (N := 38) ?hd (xs := ([t265] : List Int)) (inner := [.int .i64 t265]) (ok := fun _ => True) (okp := fun _ => True) ?hr ?hp (fun _ hk => hk) trivial (Below.refl _ _) (Nat.le_refl _) (by simp) ?_; (case hd => rfl); (case hg => rfl); (case hr => first | (go_simp; done) | (go_simp; rfl)); (case hp => exact (Reps.one (show Kd.M (Kd.int .i64) _ _ _ t265 [.int .i64 t265] from rfl) (Reps.none _ _)))
               intro v275 w47 ho48 hb hg_ hnew_
               clear hg_ hnew_
               (first | rw [← Ny274.out] at ho48 | (simp only [Int.reduceToNat] at ho48; rw [← Ny274.out] at ho48))
               replace HO_262000 := rb HO_262000 hb
               replace HO270 := rb HO270 hb
               have HO276 := Aside0.mk (Kd.R_lower (Kd.R_new' (Kd.R_new' ho48 (Kd.R_lt (rk HO_262001))) (Kd.R_lt (rk HO_262002))) (below_size (bw HB)))
               replace HO_262001 := Aside0.mk (Kd.R_elder' (rk HO_262001) (Kd.R_base ho48) hb)
               replace HO_262002 := Aside0.mk (Kd.R_elder' (rk HO_262002) (Kd.R_base ho48) hb)
               replace BK255 := bb BK255 hb
               replace BK256 := bb BK256 hb
               replace BK257 := bb BK257 hb
               replace BK261 := bb BK261 hb
               replace BK267 := bb BK267 hb
               replace HB := bs HB hb
               clear hb ho48
               refine hK.out _ _ ⟨bc0 BK261, bc1 BK261, bc2 BK261, bc0 BK267, bc1 BK267⟩ (fun hHeld => ?_)
               clear hK K
               refine norm_ (a' := ?_) ?_ ?_; rotate_left; (show Act.put _ (some 38) _ = _; simp only [sqa, sqb, sqc, sqd, i64_w, i32_w]; rfl)
               exact norm_ (by first | (simp only [putAll, Act.put, List.setIfInBounds_toArray, List.set_cons_zero, List.set_cons_succ]; done) | (simp only [putAll, Act.put, List.setIfInBounds_toArray, List.set_cons_zero, List.set_cons_succ]; rfl)) (hJ3_8 ((.slice Ao48 y268.length co48), v275) _ ⟨hHeld, (rk HO270), (by exact Kd.R_mono HO276.out (fun _ hk => ⟨hk.1.2, hk.2⟩)), (rk HO_262000), (by exact Kd.R_mono HO_262001.out (fun _ hk => ⟨hk.2, hk.1⟩)), (by exact Kd.R_mono HO_262002.out (fun _ hk => ⟨hk.2, hk.1⟩)), (bk BK255), (bk BK256), (bk BK257), (bk BK261), (bk BK267), (bw HB)⟩)
              ·skip
               refine Kd.R_lit_step (Kd.int .i64) _ 3 ?hg (N := 43) ?hd (xs := ([t266] : List Int)) (inner := [.int .i64 t266]) (ok := fun _ => True) (okp := fun _ => True) ?hr ?hp (fun _ hk => hk) trivial (Below.refl _ _) (Nat.le_refl _) (by simp) ?_; (case hd => rfl); (case hg => rfl); (case hr => first | (go_simp; done) | (go_simp; rfl)); (case hp => exact (Reps.one (show Kd.M (Kd.int .i64) _ _ _ t266 [.int .i64 t266] from rfl) (Reps.none _ _)))
               intro v281 w47 ho48 hb hg_ hnew_
               clear hg_ hnew_
               (first | rw [← Ny280.out] at ho48 | (simp only [Int.reduceToNat] at ho48; rw [← Ny280.out] at ho48))
               replace HO_262000 := rb HO_262000 hb
               replace HO270 := rb HO270 hb
               have HO282 := Aside0.mk (Kd.R_lower (Kd.R_new' (Kd.R_new' ho48 (Kd.R_lt (rk HO_262001))) (Kd.R_lt (rk HO_262002))) (below_size (bw HB)))
               replace HO_262001 := Aside0.mk (Kd.R_elder' (rk HO_262001) (Kd.R_base ho48) hb)
               replace HO_262002 := Aside0.mk (Kd.R_elder' (rk HO_262002) (Kd.R_base ho48) hb)
               replace BK255 := bb BK255 hb
               replace BK256 := bb BK256 hb
               replace BK257 := bb BK257 hb
               replace BK261 := bb BK261 hb
               replace BK267 := bb BK267 hb
               replace HB := bs HB hb
               clear hb ho48
               refine hK.out _ _ ⟨bc0 BK261, bc1 BK261, bc2 BK261, bc0 BK267, bc1 BK267⟩ (fun hHeld => ?_)
               clear hK K
               refine norm_ (a' := ?_) ?_ ?_; rotate_left; (show Act.put _ (some 43) _ = _; simp only [sqa, sqb, sqc, sqd, i64_w, i32_w]; rfl)
               exact norm_ (by first | (simp only [putAll, Act.put, List.setIfInBounds_toArray, List.set_cons_zero, List.set_cons_succ]; done) | (simp only [putAll, Act.put, List.setIfInBounds_toArray, List.set_cons_zero, List.set_cons_succ]; rfl)) (hJ3_13 ((.slice Ao48 y268.length co48), v281) _ ⟨hHeld, (rk HO270), (by exact Kd.R_mono HO282.out (fun _ hk => ⟨hk.1.2, hk.2⟩)), (rk HO_262000), (by exact Kd.R_mono HO_262001.out (fun _ hk => ⟨hk.2, hk.1⟩)), (by exact Kd.R_mono HO_262002.out (fun _ hk => ⟨hk.2, hk.1⟩)), (bk BK255), (bk BK256), (bk BK257), (bk BK261), (bk BK267), (bw HB)⟩)
            ·skip
             rintro ⟨v275, v281⟩ w48 ⟨hS_, h0_, h1_, h2_, h3_, h4_, h5_, h6_, h7_, h8_, h9_, h10_⟩
             have HO276 := Aside0.mk h0_
             have HO282 := Aside0.mk h1_
             replace HO_262000 := Aside0.mk h2_
             replace HO_262001 := Aside0.mk h3_
             replace HO_262002 := Aside0.mk h4_
             replace BK255 := Aside0.mk h5_
             replace BK256 := Aside0.mk h6_
             replace BK257 := Aside0.mk h7_
             replace BK261 := Aside0.mk h8_
             replace BK267 := Aside0.mk h9_
             replace HB := Aside0.mk h10_
             clear h0_ h1_ h2_ h3_ h4_ h5_ h6_ h7_ h8_ h9_ h10_
             have hHeld : w48.cell? ⟨gb261, 0, none⟩ = some (.slice Ao39 x262000_1.length co39) ∧ w48.cell? ⟨gb261, 1, none⟩ = some (.slice Ao40 x262001_1.length co40) ∧ w48.cell? ⟨gb261, 2, none⟩ = some (.slice Ao41 x262002_1.length co41) ∧ w48.cell? ⟨gb267, 0, none⟩ = some (.int .i64 t263) ∧ w48.cell? ⟨gb267, 1, none⟩ = some (.bool t264) := hS_
             refine norm_ (a' := ?_) ?_ ?_
             rotate_left
             ·simp only [putAll, Act.put, List.setIfInBounds_toArray, List.set_cons_zero, List.set_cons_succ]
              rfl
             refine on 3 33 (bl 21 15855) HT_.out (fun K hK => ?_)
             refine Kd.R_lit_step k102 _ 102 ?hg (N := 33) ?hd (xs := ([(⟨t263, t264⟩ : S102)] : List (S102))) (inner := [.int .i64 t263, .bool t264]) (ok := fun _ => True) (okp := fun _ => True) ?hr ?hp (fun _ hk => hk) trivial (Below.refl _ _) (Nat.le_refl _) (by simp) ?_; (case hd => rfl); (case hg => rfl); (case hr => first | (go_simp; done) | (go_simp; rfl)); (case hp => exact (Reps.c2 (show Kd.M k102 _ _ _ (⟨t263, t264⟩ : S102) [.int .i64 t263, .bool t264] from (k102_mkM _ _ _ (⟨t263, t264⟩ : S102) )) (Reps.none _ _)))
             intro v269 w49 ho50 hb hg_ hnew_
             clear hg_ hnew_
             (first | rw [← Ny268.out] at ho50 | (simp only [Int.reduceToNat] at ho50; rw [← Ny268.out] at ho50))
             replace HO_262001 := rb HO_262001 hb
             replace HO_262002 := rb HO_262002 hb
             replace HO276 := rb HO276 hb
             replace HO282 := rb HO282 hb
             have HO270 := Aside0.mk (Kd.R_lower (Kd.R_newB (Kd.R_newB (Kd.R_new' ho50 (Kd.R_lt (rk HO_262000))) (g := gb256) (o := .cells #[.int .i64 x257000_1, .bool x257001_1] 102 (0, 0)) (bk BK256)) (g := gb267) (o := .cells #[.int .i64 t263, .bool t264] 102 (0, 0)) (bk BK267)) (below_size (bw HB)))
             replace HO_262000 := Aside0.mk (Kd.R_elder' (rk HO_262000) (Kd.R_base ho50) hb)
             replace BK255 := bb BK255 hb
             replace BK256 := bb BK256 hb
             replace BK257 := bb BK257 hb
             replace BK261 := bb BK261 hb
             replace BK267 := bb BK267 hb
             replace HB := bs HB hb
             clear hb ho50
             refine hK.out _ _ ⟨bc0 BK261, bc1 BK261, bc2 BK261, bc0 BK267, bc1 BK267⟩ (fun hHeld => ?_)
             clear hK K
             refine norm_ (a' := ?_) ?_ ?_; rotate_left; (show Act.put _ (some 33) _ = _; simp only [sqa, sqb, sqc, sqd, i64_w, i32_w]; rfl)
             exact norm_ (by first | (simp only [putAll, Act.put, List.setIfInBounds_toArray, List.set_cons_zero, List.set_cons_succ]; done) | (simp only [putAll, Act.put, List.setIfInBounds_toArray, List.set_cons_zero, List.set_cons_succ]; rfl)) (hJ3_8_13 (v269, v275, v281) _ ⟨hHeld, (by exact Kd.R_mono HO270.out (fun _ hk => ⟨hk.1.1.2, ⟨hk.1.2, hk.2⟩⟩)), (rk HO276), (rk HO282), (by exact Kd.R_mono HO_262000.out (fun _ hk => ⟨hk.2, ⟨hk.1.1, hk.1.2⟩⟩)), (rk HO_262001), (rk HO_262002), (bk BK255), (bk BK256), (bk BK257), (bk BK261), (bk BK267), (bw HB)⟩)
           ·skip
            rintro ⟨v269, v281⟩ w48 ⟨hS_, h0_, h1_, h2_, h3_, h4_, h5_, h6_, h7_, h8_, h9_, h10_⟩
            have HO270 := Aside0.mk h0_
            have HO282 := Aside0.mk h1_
            replace HO_262000 := Aside0.mk h2_
            replace HO_262001 := Aside0.mk h3_
            replace HO_262002 := Aside0.mk h4_
            replace BK255 := Aside0.mk h5_
            replace BK256 := Aside0.mk h6_
            replace BK257 := Aside0.mk h7_
            replace BK261 := Aside0.mk h8_
            replace BK267 := Aside0.mk h9_
            replace HB := Aside0.mk h10_
            clear h0_ h1_ h2_ h3_ h4_ h5_ h6_ h7_ h8_ h9_ h10_
            have hHeld : w48.cell? ⟨gb261, 0, none⟩ = some (.slice Ao39 x262000_1.length co39) ∧ w48.cell? ⟨gb261, 1, none⟩ = some (.slice Ao40 x262001_1.length co40) ∧ w48.cell? ⟨gb261, 2, none⟩ = some (.slice Ao41 x262002_1.length co41) ∧ w48.cell? ⟨gb267, 0, none⟩ = some (.int .i64 t263) ∧ w48.cell? ⟨gb267, 1, none⟩ = some (.bool t264) := hS_
            obtain ⟨Ao50, co50, eo50⟩ := Kd.R_slice HO270.out
            (first | subst eo50 | (injection eo50 with f1_ f2_ f3_; have f4_ := f1_.symm; have f5_ := f3_.symm; clear f1_ f2_ f3_; subst f4_; subst f5_))
            refine norm_ (a' := ?_) ?_ ?_
            rotate_left
            ·simp only [putAll, Act.put, List.setIfInBounds_toArray, List.set_cons_zero, List.set_cons_succ]
             rfl
            refine two_ (i := 4) (j := 8) (Ni := some 34) (Nj := some 38) (bl 21 15615) (bl 21 15855) rfl rfl rfl rfl (two_of HT_.out (by kernel_rfl)) (by decide) (by decide) (fun K hK => ?_) (fun K hK => ?_)
            ·skip
             refine Kd.R_append_rows_step k102 (w0 := w) w.heap.size (by rfl) (.tmp 31) (.tmp 33) 106 102 (.agg #[(.int .i64 0), (.bool false)]) 16 rfl Try.underlying106 info102 rfl (by decide) (by omega) (.slice Ao39 x262000_1.length co39) x262000_1 y268 _ _ _ (fun k_ => some k_ ≠ (.slice Ao50 y268.length co50 : Value).ownBlock ∧ k_ ≠ gb256 ∧ k_ ≠ gb267) (fun _ => False) rfl rfl ?aO ?aR (fun _ _ h => h) (fun _ h => h.elim) ?aF ?aB ?aS ?aL ?_
             (case aR => exact cr HO270)
             (case aB => exact (bw HB))
             (case aF => exact (fun k_ hk => ⟨Kd.fresh' (Kd.R_lt (rk HO270)) k_ hk, Kd.freshB (g := gb256) (o := .cells #[.int .i64 x257000_1, .bool x257001_1] 102 (0, 0)) (bk BK256) k_ hk, Kd.freshB (g := gb267) (o := .cells #[.int .i64 t263, .bool t264] 102 (0, 0)) (bk BK267) k_ hk⟩))
             (case aO => exact (rk HO_262000))
             (case aS => exact (below_size (bw HB)))
             (case aL => have := LMc22.out; omega)
             intro v272 w49 ho hb hg hat
             rw [← Ny271.out] at ho
             have n0_ := Aside0.mk (Kd.R_over' (rk HO_262001) (Kd.R_typed (rk HO_262000)) (by decide) hg)
             have n1_ := Aside0.mk (Kd.R_over' (rk HO_262002) (Kd.R_typed (rk HO_262000)) (by decide) hg)
             have n2_ := Aside0.mk (blk_grown (g := gb255) (o := .cells #[.int .i64 a0_0, .int .i64 a0_1, .int .i64 a0_2, .int .i64 a0_3] 100 (0, 0)) (bk BK255) hg (Kd.R_ne HO_262000.out BK255.out (by decide)))
             have n3_ := Aside0.mk (blk_grown (g := gb256) (o := .cells #[.int .i64 x257000_1, .bool x257001_1] 102 (0, 0)) (bk BK256) hg (Kd.R_away HO_262000.out (fun _ hk => hk.2.1)))
             have n4_ := Aside0.mk (blk_grown (g := gb257) (o := .cells #[.slice none 0 0, .slice none 0 0, .slice none 0 0] 192 (0, 0)) (bk BK257) hg (Kd.R_ne HO_262000.out BK257.out (by decide)))
             have n5_ := Aside0.mk (blk_grown (g := gb261) (o := .cells #[.slice Ao39 x262000_1.length co39, .slice Ao40 x262001_1.length co40, .slice Ao41 x262002_1.length co41] 192 (0, 0)) (bk BK261) hg (Kd.R_ne HO_262000.out BK261.out (by decide)))
             have n6_ := Aside0.mk (blk_grown (g := gb267) (o := .cells #[.int .i64 t263, .bool t264] 102 (0, 0)) (bk BK267) hg (Kd.R_away HO_262000.out (fun _ hk => hk.2.2)))
             have n7_ := Aside0.mk (Kd.R_after (ok := (fun k_ => k_ ≠ gb256 ∧ k_ ≠ gb267)) (by exact Kd.R_mono HO270.out (fun _ hk => ⟨⟨hk.2.1, hk.2.2⟩, hk.1⟩)) hg hat)
             have n8_ := Aside0.mk (Kd.R_over' (rk HO282) (Kd.R_typed (rk HO_262000)) (by decide) hg)
             have n9_ := Aside0.mk (hb)
             have n10_ := Aside0.mk (ho)
             clear HO_262001
             clear HO_262002
             clear BK255
             clear BK256
             clear BK257
             clear BK261
             clear BK267
             clear HO270
             clear HO282
             clear HB
             clear HO_262000
             have HO_262001 := n0_
             have HO_262002 := n1_
             have BK255 := n2_
             have BK256 := n3_
             have BK257 := n4_
             have BK261 := n5_
             have BK267 := n6_
             have HO270 := n7_
             have HO282 := n8_
             have HB := n9_
             have HO273 := n10_
             clear n0_ n1_ n2_ n3_ n4_ n5_ n6_ n7_ n8_ n9_ n10_
             clear ho hb hg hat
             refine hK.out _ _ ⟨bc0 BK261, bc1 BK261, bc2 BK261, bc0 BK267, bc1 BK267⟩ (fun hHeld => ?_)
             clear hK K
             refine norm_ (a' := ?_) ?_ ?_; rotate_left; (show Act.put _ (some 34) _ = _; simp only [sqa, sqb, sqc, sqd, i64_w, i32_w]; rfl)
             refine pu 15 45 (bl 21 48383) HT_.out (v := ?_) (a' := ?_) ?_ ?_ ?_
             rotate_left; (intro w'; go_simp; with_reducible rfl); rotate_left; (simp only [sqa, sqb, sqc, sqd, i64_w, i32_w]; rfl)
             exact norm_ (by first | (simp only [putAll, Act.put, List.setIfInBounds_toArray, List.set_cons_zero, List.set_cons_succ]; done) | (simp only [putAll, Act.put, List.setIfInBounds_toArray, List.set_cons_zero, List.set_cons_succ]; rfl)) (hJ3_4_13 (.slice Ao50 y268.length co50, v272, v281) _ ⟨hHeld, (by exact Kd.R_mono HO270.out (fun _ hk => ⟨hk.2, ⟨hk.1.1, hk.1.2⟩⟩)), (rk HO273), (rk HO282), (rk HO_262001), (rk HO_262002), (bk BK255), (bk BK256), (bk BK257), (bk BK261), (bk BK267), (bw HB)⟩)
            ·skip
             refine Kd.R_lit_step (Kd.int .i64) _ 3 ?hg (N := 38) ?hd (xs := ([t265] : List Int)) (inner := [.int .i64 t265]) (ok := fun _ => True) (okp := fun _ => True) ?hr ?hp (fun _ hk => hk) trivial (Below.refl _ _) (Nat.le_refl _) (by simp) ?_; (case hd => rfl); (case hg => rfl); (case hr => first | (go_simp; done) | (go_simp; rfl)); (case hp => exact (Reps.one (show Kd.M (Kd.int .i64) _ _ _ t265 [.int .i64 t265] from rfl) (Reps.none _ _)))
             intro v275 w49 ho50 hb hg_ hnew_
             clear hg_ hnew_
             (first | rw [← Ny274.out] at ho50 | (simp only [Int.reduceToNat] at ho50; rw [← Ny274.out] at ho50))
             replace HO_262000 := rb HO_262000 hb
             replace HO270 := rb HO270 hb
             have HO276 := Aside0.mk (Kd.R_lower (Kd.R_new' (Kd.R_new' (Kd.R_new' ho50 (Kd.R_lt (rk HO_262001))) (Kd.R_lt (rk HO_262002))) (Kd.R_lt (rk HO282))) (below_size (bw HB)))
             replace HO_262001 := Aside0.mk (Kd.R_elder' (rk HO_262001) (Kd.R_base ho50) hb)
             replace HO_262002 := Aside0.mk (Kd.R_elder' (rk HO_262002) (Kd.R_base ho50) hb)
             replace HO282 := Aside0.mk (Kd.R_elder' (rk HO282) (Kd.R_base ho50) hb)
             replace BK255 := bb BK255 hb
             replace BK256 := bb BK256 hb
             replace BK257 := bb BK257 hb
             replace BK261 := bb BK261 hb
             replace BK267 := bb BK267 hb
             replace HB := bs HB hb
             clear hb ho50
             refine hK.out _ _ ⟨bc0 BK261, bc1 BK261, bc2 BK261, bc0 BK267, bc1 BK267⟩ (fun hHeld => ?_)
             clear hK K
             refine norm_ (a' := ?_) ?_ ?_; rotate_left; (show Act.put _ (some 38) _ = _; simp only [sqa, sqb, sqc, sqd, i64_w, i32_w]; rfl)
             exact norm_ (by first | (simp only [putAll, Act.put, List.setIfInBounds_toArray, List.set_cons_zero, List.set_cons_succ]; done) | (simp only [putAll, Act.put, List.setIfInBounds_toArray, List.set_cons_zero, List.set_cons_succ]; rfl)) (hJ3_8_13 ((.slice Ao50 y268.length co50), v275, v281) _ ⟨hHeld, (rk HO270), (by exact Kd.R_mono HO276.out (fun _ hk => ⟨hk.2, ⟨hk.1.1.2, hk.1.2⟩⟩)), (by exact Kd.R_mono HO282.out (fun _ hk => ⟨hk.2, ⟨hk.1.1, hk.1.2⟩⟩)), (rk HO_262000), (by exact Kd.R_mono HO_262001.out (fun _ hk => ⟨hk.2, ⟨hk.1.1, hk.1.2⟩⟩)), (by exact Kd.R_mono HO_262002.out (fun _ hk => ⟨hk.2, ⟨hk.1.1, hk.1.2⟩⟩)), (bk BK255), (bk BK256), (bk BK257), (bk BK261), (bk BK267), (bw HB)⟩)
          ·skip
           rintro ⟨v269, v275⟩ w48 ⟨hS_, h0_, h1_, h2_, h3_, h4_, h5_, h6_, h7_, h8_, h9_, h10_⟩
           have HO270 := Aside0.mk h0_
           have HO276 := Aside0.mk h1_
           replace HO_262000 := Aside0.mk h2_
           replace HO_262001 := Aside0.mk h3_
           replace HO_262002 := Aside0.mk h4_
           replace BK255 := Aside0.mk h5_
           replace BK256 := Aside0.mk h6_
           replace BK257 := Aside0.mk h7_
           replace BK261 := Aside0.mk h8_
           replace BK267 := Aside0.mk h9_
           replace HB := Aside0.mk h10_
           clear h0_ h1_ h2_ h3_ h4_ h5_ h6_ h7_ h8_ h9_ h10_
           have hHeld : w48.cell? ⟨gb261, 0, none⟩ = some (.slice Ao39 x262000_1.length co39) ∧ w48.cell? ⟨gb261, 1, none⟩ = some (.slice Ao40 x262001_1.length co40) ∧ w48.cell? ⟨gb261, 2, none⟩ = some (.slice Ao41 x262002_1.length co41) ∧ w48.cell? ⟨gb267, 0, none⟩ = some (.int .i64 t263) ∧ w48.cell? ⟨gb267, 1, none⟩ = some (.bool t264) := hS_
           obtain ⟨Ao50, co50, eo50⟩ := Kd.R_slice HO270.out
           (first | subst eo50 | (injection eo50 with f1_ f2_ f3_; have f4_ := f1_.symm; have f5_ := f3_.symm; clear f1_ f2_ f3_; subst f4_; subst f5_))
           refine norm_ (a' := ?_) ?_ ?_
           rotate_left
           ·simp only [putAll, Act.put, List.setIfInBounds_toArray, List.set_cons_zero, List.set_cons_succ]
            rfl
           refine two_ (i := 4) (j := 13) (Ni := some 34) (Nj := some 43) (bl 21 7679) (bl 21 15855) rfl rfl rfl rfl (two_of HT_.out (by kernel_rfl)) (by decide) (by decide) (fun K hK => ?_) (fun K hK => ?_)
           ·skip
            refine Kd.R_append_rows_step k102 (w0 := w) w.heap.size (by rfl) (.tmp 31) (.tmp 33) 106 102 (.agg #[(.int .i64 0), (.bool false)]) 16 rfl Try.underlying106 info102 rfl (by decide) (by omega) (.slice Ao39 x262000_1.length co39) x262000_1 y268 _ _ _ (fun k_ => some k_ ≠ (.slice Ao50 y268.length co50 : Value).ownBlock ∧ k_ ≠ gb256 ∧ k_ ≠ gb267) (fun _ => False) rfl rfl ?aO ?aR (fun _ _ h => h) (fun _ h => h.elim) ?aF ?aB ?aS ?aL ?_
            (case aR => exact cr HO270)
            (case aB => exact (bw HB))
            (case aF => exact (fun k_ hk => ⟨Kd.fresh' (Kd.R_lt (rk HO270)) k_ hk, Kd.freshB (g := gb256) (o := .cells #[.int .i64 x257000_1, .bool x257001_1] 102 (0, 0)) (bk BK256) k_ hk, Kd.freshB (g := gb267) (o := .cells #[.int .i64 t263, .bool t264] 102 (0, 0)) (bk BK267) k_ hk⟩))
            (case aO => exact (rk HO_262000))
            (case aS => exact (below_size (bw HB)))
            (case aL => have := LMc22.out; omega)
            intro v272 w49 ho hb hg hat
            rw [← Ny271.out] at ho
            have n0_ := Aside0.mk (Kd.R_over' (rk HO_262001) (Kd.R_typed (rk HO_262000)) (by decide) hg)
            have n1_ := Aside0.mk (Kd.R_over' (rk HO_262002) (Kd.R_typed (rk HO_262000)) (by decide) hg)
            have n2_ := Aside0.mk (blk_grown (g := gb255) (o := .cells #[.int .i64 a0_0, .int .i64 a0_1, .int .i64 a0_2, .int .i64 a0_3] 100 (0, 0)) (bk BK255) hg (Kd.R_ne HO_262000.out BK255.out (by decide)))
            have n3_ := Aside0.mk (blk_grown (g := gb256) (o := .cells #[.int .i64 x257000_1, .bool x257001_1] 102 (0, 0)) (bk BK256) hg (Kd.R_away HO_262000.out (fun _ hk => hk.2.1)))
            have n4_ := Aside0.mk (blk_grown (g := gb257) (o := .cells #[.slice none 0 0, .slice none 0 0, .slice none 0 0] 192 (0, 0)) (bk BK257) hg (Kd.R_ne HO_262000.out BK257.out (by decide)))
            have n5_ := Aside0.mk (blk_grown (g := gb261) (o := .cells #[.slice Ao39 x262000_1.length co39, .slice Ao40 x262001_1.length co40, .slice Ao41 x262002_1.length co41] 192 (0, 0)) (bk BK261) hg (Kd.R_ne HO_262000.out BK261.out (by decide)))
            have n6_ := Aside0.mk (blk_grown (g := gb267) (o := .cells #[.int .i64 t263, .bool t264] 102 (0, 0)) (bk BK267) hg (Kd.R_away HO_262000.out (fun _ hk => hk.2.2)))
            have n7_ := Aside0.mk (Kd.R_after (ok := (fun k_ => k_ ≠ gb256 ∧ k_ ≠ gb267)) (by exact Kd.R_mono HO270.out (fun _ hk => ⟨⟨hk.2.1, hk.2.2⟩, hk.1⟩)) hg hat)
            have n8_ := Aside0.mk (Kd.R_over' (rk HO276) (Kd.R_typed (rk HO_262000)) (by decide) hg)
            have n9_ := Aside0.mk (hb)
            have n10_ := Aside0.mk (ho)
            clear HO_262001
            clear HO_262002
            clear BK255
            clear BK256
            clear BK257
            clear BK261
            clear BK267
            clear HO270
            clear HO276
            clear HB
            clear HO_262000
            have HO_262001 := n0_
            have HO_262002 := n1_
            have BK255 := n2_
            have BK256 := n3_
            have BK257 := n4_
            have BK261 := n5_
            have BK267 := n6_
            have HO270 := n7_
            have HO276 := n8_
            have HB := n9_
            have HO273 := n10_
            clear n0_ n1_ n2_ n3_ n4_ n5_ n6_ n7_ n8_ n9_ n10_
            clear ho hb hg hat
            refine hK.out _ _ ⟨bc0 BK261, bc1 BK261, bc2 BK261, bc0 BK267, bc1 BK267⟩ (fun hHeld => ?_)
            clear hK K
            refine norm_ (a' := ?_) ?_ ?_; rotate_left; (show Act.put _ (some 34) _ = _; simp only [sqa, sqb, sqc, sqd, i64_w, i32_w]; rfl)
            refine pu 15 45 (bl 21 40447) HT_.out (v := ?_) (a' := ?_) ?_ ?_ ?_
            rotate_left; (intro w'; go_simp; with_reducible rfl); rotate_left; (simp only [sqa, sqb, sqc, sqd, i64_w, i32_w]; rfl)
            exact norm_ (by first | (simp only [putAll, Act.put, List.setIfInBounds_toArray, List.set_cons_zero, List.set_cons_succ]; done) | (simp only [putAll, Act.put, List.setIfInBounds_toArray, List.set_cons_zero, List.set_cons_succ]; rfl)) (hJ3_4_8 (.slice Ao50 y268.length co50, v272, v275) _ ⟨hHeld, (by exact Kd.R_mono HO270.out (fun _ hk => ⟨hk.2, ⟨hk.1.1, hk.1.2⟩⟩)), (rk HO273), (rk HO276), (rk HO_262001), (rk HO_262002), (bk BK255), (bk BK256), (bk BK257), (bk BK261), (bk BK267), (bw HB)⟩)
           ·skip
            refine Kd.R_lit_step (Kd.int .i64) _ 3 ?hg (N := 43) ?hd (xs := ([t266] : List Int)) (inner := [.int .i64 t266]) (ok := fun _ => True) (okp := fun _ => True) ?hr ?hp (fun _ hk => hk) trivial (Below.refl _ _) (Nat.le_refl _) (by simp) ?_; (case hd => rfl); (case hg => rfl); (case hr => first | (go_simp; done) | (go_simp; rfl)); (case hp => exact (Reps.one (show Kd.M (Kd.int .i64) _ _ _ t266 [.int .i64 t266] from rfl) (Reps.none _ _)))
            intro v281 w49 ho50 hb hg_ hnew_
            clear hg_ hnew_
            (first | rw [← Ny280.out] at ho50 | (simp only [Int.reduceToNat] at ho50; rw [← Ny280.out] at ho50))
            replace HO_262000 := rb HO_262000 hb
            replace HO270 := rb HO270 hb
            have HO282 := Aside0.mk (Kd.R_lower (Kd.R_new' (Kd.R_new' (Kd.R_new' ho50 (Kd.R_lt (rk HO_262001))) (Kd.R_lt (rk HO_262002))) (Kd.R_lt (rk HO276))) (below_size (bw HB)))
            replace HO_262001 := Aside0.mk (Kd.R_elder' (rk HO_262001) (Kd.R_base ho50) hb)
            replace HO_262002 := Aside0.mk (Kd.R_elder' (rk HO_262002) (Kd.R_base ho50) hb)
            replace HO276 := Aside0.mk (Kd.R_elder' (rk HO276) (Kd.R_base ho50) hb)
            replace BK255 := bb BK255 hb
            replace BK256 := bb BK256 hb
            replace BK257 := bb BK257 hb
            replace BK261 := bb BK261 hb
            replace BK267 := bb BK267 hb
            replace HB := bs HB hb
            clear hb ho50
            refine hK.out _ _ ⟨bc0 BK261, bc1 BK261, bc2 BK261, bc0 BK267, bc1 BK267⟩ (fun hHeld => ?_)
            clear hK K
            refine norm_ (a' := ?_) ?_ ?_; rotate_left; (show Act.put _ (some 43) _ = _; simp only [sqa, sqb, sqc, sqd, i64_w, i32_w]; rfl)
            exact norm_ (by first | (simp only [putAll, Act.put, List.setIfInBounds_toArray, List.set_cons_zero, List.set_cons_succ]; done) | (simp only [putAll, Act.put, List.setIfInBounds_toArray, List.set_cons_zero, List.set_cons_succ]; rfl)) (hJ3_8_13 ((.slice Ao50 y268.length co50), v275, v281) _ ⟨hHeld, (rk HO270), (by exact Kd.R_mono HO276.out (fun _ hk => ⟨hk.2, ⟨hk.1.1, hk.1.2⟩⟩)), (by exact Kd.R_mono HO282.out (fun _ hk => ⟨hk.2, ⟨hk.1.1.2, hk.1.2⟩⟩)), (rk HO_262000), (by exact Kd.R_mono HO_262001.out (fun _ hk => ⟨hk.1.1, ⟨hk.2, hk.1.2⟩⟩)), (by exact Kd.R_mono HO_262002.out (fun _ hk => ⟨hk.1.1, ⟨hk.2, hk.1.2⟩⟩)), (bk BK255), (bk BK256), (bk BK257), (bk BK261), (bk BK267), (bw HB)⟩)
         ·skip
          rintro ⟨v269, v272⟩ w48 ⟨hS_, h0_, h1_, h2_, h3_, h4_, h5_, h6_, h7_, h8_, h9_⟩
          have n0_ := Aside0.mk h0_
          have n1_ := Aside0.mk h1_
          have n2_ := Aside0.mk h2_
          have n3_ := Aside0.mk h3_
          have n4_ := Aside0.mk h4_
          have n5_ := Aside0.mk h5_
          have n6_ := Aside0.mk h6_
          have n7_ := Aside0.mk h7_
          have n8_ := Aside0.mk h8_
          have n9_ := Aside0.mk h9_
          clear HO_262000
          clear HO_262001
          clear HO_262002
          clear BK255
          clear BK256
          clear BK257
          clear BK261
          clear BK267
          clear HB
          clear h0_ h1_ h2_ h3_ h4_ h5_ h6_ h7_ h8_ h9_
          have HO270 := n0_
          have HO273 := n1_
          have HO_262001 := n2_
          have HO_262002 := n3_
          have BK255 := n4_
          have BK256 := n5_
          have BK257 := n6_
          have BK261 := n7_
          have BK267 := n8_
          have HB := n9_
          clear n0_ n1_ n2_ n3_ n4_ n5_ n6_ n7_ n8_ n9_
          have hHeld : w48.cell? ⟨gb261, 0, none⟩ = some (.slice Ao39 x262000_1.length co39) ∧ w48.cell? ⟨gb261, 1, none⟩ = some (.slice Ao40 x262001_1.length co40) ∧ w48.cell? ⟨gb261, 2, none⟩ = some (.slice Ao41 x262002_1.length co41) ∧ w48.cell? ⟨gb267, 0, none⟩ = some (.int .i64 t263) ∧ w48.cell? ⟨gb267, 1, none⟩ = some (.bool t264) := hS_
          refine norm_ (a' := ?_) ?_ ?_
          rotate_left
          ·simp only [putAll, Act.put, List.setIfInBounds_toArray, List.set_cons_zero, List.set_cons_succ]
           rfl
          refine two_ (i := 8) (j := 13) (Ni := some 38) (Nj := some 43) (bl 21 40447) (bl 21 48383) rfl rfl rfl rfl (two_of HT_.out (by kernel_rfl)) (by decide) (by decide) (fun K hK => ?_) (fun K hK => ?_)
          ·skip
           refine Kd.R_lit_step (Kd.int .i64) _ 3 ?hg (N := 38) ?hd (xs := ([t265] : List Int)) (inner := [.int .i64 t265]) (ok := fun _ => True) (okp := fun _ => True) ?hr ?hp (fun _ hk => hk) trivial (Below.refl _ _) (Nat.le_refl _) (by simp) ?_; (case hd => rfl); (case hg => rfl); (case hr => first | (go_simp; done) | (go_simp; rfl)); (case hp => exact (Reps.one (show Kd.M (Kd.int .i64) _ _ _ t265 [.int .i64 t265] from rfl) (Reps.none _ _)))
           intro v275 w49 ho50 hb hg_ hnew_
           clear hg_ hnew_
           (first | rw [← Ny274.out] at ho50 | (simp only [Int.reduceToNat] at ho50; rw [← Ny274.out] at ho50))
           replace HO270 := rb HO270 hb
           replace HO273 := rb HO273 hb
           have HO276 := Aside0.mk (Kd.R_lower (Kd.R_new' (Kd.R_new' ho50 (Kd.R_lt (rk HO_262001))) (Kd.R_lt (rk HO_262002))) (below_size (bw HB)))
           replace HO_262001 := Aside0.mk (Kd.R_elder' (rk HO_262001) (Kd.R_base ho50) hb)
           replace HO_262002 := Aside0.mk (Kd.R_elder' (rk HO_262002) (Kd.R_base ho50) hb)
           replace BK255 := bb BK255 hb
           replace BK256 := bb BK256 hb
           replace BK257 := bb BK257 hb
           replace BK261 := bb BK261 hb
           replace BK267 := bb BK267 hb
           replace HB := bs HB hb
           clear hb ho50
           refine hK.out _ _ ⟨bc0 BK261, bc1 BK261, bc2 BK261, bc0 BK267, bc1 BK267⟩ (fun hHeld => ?_)
           clear hK K
           refine norm_ (a' := ?_) ?_ ?_; rotate_left; (show Act.put _ (some 38) _ = _; simp only [sqa, sqb, sqc, sqd, i64_w, i32_w]; rfl)
           exact norm_ (by first | (simp only [putAll, Act.put, List.setIfInBounds_toArray, List.set_cons_zero, List.set_cons_succ]; done) | (simp only [putAll, Act.put, List.setIfInBounds_toArray, List.set_cons_zero, List.set_cons_succ]; rfl)) (hJ3_4_8 (v269, v272, v275) _ ⟨hHeld, (rk HO270), (rk HO273), (by exact Kd.R_mono HO276.out (fun _ hk => ⟨hk.1.2, hk.2⟩)), (by exact Kd.R_mono HO_262001.out (fun _ hk => ⟨hk.2, hk.1⟩)), (by exact Kd.R_mono HO_262002.out (fun _ hk => ⟨hk.2, hk.1⟩)), (bk BK255), (bk BK256), (bk BK257), (bk BK261), (bk BK267), (bw HB)⟩)
          ·skip
           refine Kd.R_lit_step (Kd.int .i64) _ 3 ?hg (N := 43) ?hd (xs := ([t266] : List Int)) (inner := [.int .i64 t266]) (ok := fun _ => True) (okp := fun _ => True) ?hr ?hp (fun _ hk => hk) trivial (Below.refl _ _) (Nat.le_refl _) (by simp) ?_; (case hd => rfl); (case hg => rfl); (case hr => first | (go_simp; done) | (go_simp; rfl)); (case hp => exact (Reps.one (show Kd.M (Kd.int .i64) _ _ _ t266 [.int .i64 t266] from rfl) (Reps.none _ _)))
           intro v281 w49 ho50 hb hg_ hnew_
           clear hg_ hnew_
           (first | rw [← Ny280.out] at ho50 | (simp only [Int.reduceToNat] at ho50; rw [← Ny280.out] at ho50))
           replace HO270 := rb HO270 hb
           replace HO273 := rb HO273 hb
           have HO282 := Aside0.mk (Kd.R_lower (Kd.R_new' (Kd.R_new' ho50 (Kd.R_lt (rk HO_262001))) (Kd.R_lt (rk HO_262002))) (below_size (bw HB)))
           replace HO_262001 := Aside0.mk (Kd.R_elder' (rk HO_262001) (Kd.R_base ho50) hb)
           replace HO_262002 := Aside0.mk (Kd.R_elder' (rk HO_262002) (Kd.R_base ho50) hb)
           replace BK255 := bb BK255 hb
           replace BK256 := bb BK256 hb
           replace BK257 := bb BK257 hb
           replace BK261 := bb BK261 hb
           replace BK267 := bb BK267 hb
           replace HB := bs HB hb
           clear hb ho50
           refine hK.out _ _ ⟨bc0 BK261, bc1 BK261, bc2 BK261, bc0 BK267, bc1 BK267⟩ (fun hHeld => ?_)
           clear hK K
           refine norm_ (a' := ?_) ?_ ?_; rotate_left; (show Act.put _ (some 43) _ = _; simp only [sqa, sqb, sqc, sqd, i64_w, i32_w]; rfl)
           exact norm_ (by first | (simp only [putAll, Act.put, List.setIfInBounds_toArray, List.set_cons_zero, List.set_cons_succ]; done) | (simp only [putAll, Act.put, List.setIfInBounds_toArray, List.set_cons_zero, List.set_cons_succ]; rfl)) (hJ3_4_13 (v269, v272, v281) _ ⟨hHeld, (rk HO270), (rk HO273), (by exact Kd.R_mono HO282.out (fun _ hk => ⟨hk.1.2, hk.2⟩)), (by exact Kd.R_mono HO_262001.out (fun _ hk => ⟨hk.2, hk.1⟩)), (by exact Kd.R_mono HO_262002.out (fun _ hk => ⟨hk.2, hk.1⟩)), (bk BK255), (bk BK256), (bk BK257), (bk BK261), (bk BK267), (bw HB)⟩)
        ·skip
         rintro ⟨v269, v275, v281⟩ w50 ⟨hS_, h0_, h1_, h2_, h3_, h4_, h5_, h6_, h7_, h8_, h9_, h10_, h11_⟩
         have HO270 := Aside0.mk h0_
         have HO276 := Aside0.mk h1_
         have HO282 := Aside0.mk h2_
         replace HO_262000 := Aside0.mk h3_
         replace HO_262001 := Aside0.mk h4_
         replace HO_262002 := Aside0.mk h5_
         replace BK255 := Aside0.mk h6_
         replace BK256 := Aside0.mk h7_
         replace BK257 := Aside0.mk h8_
         replace BK261 := Aside0.mk h9_
         replace BK267 := Aside0.mk h10_
         replace HB := Aside0.mk h11_
         clear h0_ h1_ h2_ h3_ h4_ h5_ h6_ h7_ h8_ h9_ h10_ h11_
         have hHeld : w50.cell? ⟨gb261, 0, none⟩ = some (.slice Ao39 x262000_1.length co39) ∧ w50.cell? ⟨gb261, 1, none⟩ = some (.slice Ao40 x262001_1.length co40) ∧ w50.cell? ⟨gb261, 2, none⟩ = some (.slice Ao41 x262002_1.length co41) ∧ w50.cell? ⟨gb267, 0, none⟩ = some (.int .i64 t263) ∧ w50.cell? ⟨gb267, 1, none⟩ = some (.bool t264) := hS_
         obtain ⟨Ao52, co52, eo52⟩ := Kd.R_slice HO270.out
         (first | subst eo52 | (injection eo52 with f1_ f2_ f3_; have f4_ := f1_.symm; have f5_ := f3_.symm; clear f1_ f2_ f3_; subst f4_; subst f5_))
         refine norm_ (a' := ?_) ?_ ?_
         rotate_left
         ·simp only [putAll, Act.put, List.setIfInBounds_toArray, List.set_cons_zero, List.set_cons_succ]
          rfl
         refine on 4 34 (bl 21 15871) HT_.out (fun K hK => ?_)
         refine Kd.R_append_rows_step k102 (w0 := w) w.heap.size (by rfl) (.tmp 31) (.tmp 33) 106 102 (.agg #[(.int .i64 0), (.bool false)]) 16 rfl Try.underlying106 info102 rfl (by decide) (by omega) (.slice Ao39 x262000_1.length co39) x262000_1 y268 _ _ _ (fun k_ => some k_ ≠ (.slice Ao52 y268.length co52 : Value).ownBlock ∧ k_ ≠ gb256 ∧ k_ ≠ gb267) (fun _ => False) rfl rfl ?aO ?aR (fun _ _ h => h) (fun _ h => h.elim) ?aF ?aB ?aS ?aL ?_
         (case aR => exact cr HO270)
         (case aB => exact (bw HB))
         (case aF => exact (fun k_ hk => ⟨Kd.fresh' (Kd.R_lt (rk HO270)) k_ hk, Kd.freshB (g := gb256) (o := .cells #[.int .i64 x257000_1, .bool x257001_1] 102 (0, 0)) (bk BK256) k_ hk, Kd.freshB (g := gb267) (o := .cells #[.int .i64 t263, .bool t264] 102 (0, 0)) (bk BK267) k_ hk⟩))
         (case aO => exact (rk HO_262000))
         (case aS => exact (below_size (bw HB)))
         (case aL => have := LMc22.out; omega)
         intro v272 w51 ho hb hg hat
         rw [← Ny271.out] at ho
         have n0_ := Aside0.mk (Kd.R_over' (rk HO_262001) (Kd.R_typed (rk HO_262000)) (by decide) hg)
         have n1_ := Aside0.mk (Kd.R_over' (rk HO_262002) (Kd.R_typed (rk HO_262000)) (by decide) hg)
         have n2_ := Aside0.mk (blk_grown (g := gb255) (o := .cells #[.int .i64 a0_0, .int .i64 a0_1, .int .i64 a0_2, .int .i64 a0_3] 100 (0, 0)) (bk BK255) hg (Kd.R_ne HO_262000.out BK255.out (by decide)))
         have n3_ := Aside0.mk (blk_grown (g := gb256) (o := .cells #[.int .i64 x257000_1, .bool x257001_1] 102 (0, 0)) (bk BK256) hg (Kd.R_away HO_262000.out (fun _ hk => hk.2.1)))
         have n4_ := Aside0.mk (blk_grown (g := gb257) (o := .cells #[.slice none 0 0, .slice none 0 0, .slice none 0 0] 192 (0, 0)) (bk BK257) hg (Kd.R_ne HO_262000.out BK257.out (by decide)))
         have n5_ := Aside0.mk (blk_grown (g := gb261) (o := .cells #[.slice Ao39 x262000_1.length co39, .slice Ao40 x262001_1.length co40, .slice Ao41 x262002_1.length co41] 192 (0, 0)) (bk BK261) hg (Kd.R_ne HO_262000.out BK261.out (by decide)))
         have n6_ := Aside0.mk (blk_grown (g := gb267) (o := .cells #[.int .i64 t263, .bool t264] 102 (0, 0)) (bk BK267) hg (Kd.R_away HO_262000.out (fun _ hk => hk.2.2)))
         have n7_ := Aside0.mk (Kd.R_after (ok := (fun k_ => k_ ≠ gb256 ∧ k_ ≠ gb267)) (by exact Kd.R_mono HO270.out (fun _ hk => ⟨⟨hk.2.1, hk.2.2⟩, hk.1⟩)) hg hat)
         have n8_ := Aside0.mk (Kd.R_over' (rk HO276) (Kd.R_typed (rk HO_262000)) (by decide) hg)
         have n9_ := Aside0.mk (Kd.R_over' (rk HO282) (Kd.R_typed (rk HO_262000)) (by decide) hg)
         have n10_ := Aside0.mk (hb)
         have n11_ := Aside0.mk (ho)
         clear HO_262001
         clear HO_262002
         clear BK255
         clear BK256
         clear BK257
         clear BK261
         clear BK267
         clear HO270
         clear HO276
         clear HO282
         clear HB
         clear HO_262000
         have HO_262001 := n0_
         have HO_262002 := n1_
         have BK255 := n2_
         have BK256 := n3_
         have BK257 := n4_
         have BK261 := n5_
         have BK267 := n6_
         have HO270 := n7_
         have HO276 := n8_
         have HO282 := n9_
         have HB := n10_
         have HO273 := n11_
         clear n0_ n1_ n2_ n3_ n4_ n5_ n6_ n7_ n8_ n9_ n10_ n11_
         clear ho hb hg hat
         refine hK.out _ _ ⟨bc0 BK261, bc1 BK261, bc2 BK261, bc0 BK267, bc1 BK267⟩ (fun hHeld => ?_)
         clear hK K
         refine norm_ (a' := ?_) ?_ ?_; rotate_left; (show Act.put _ (some 34) _ = _; simp only [sqa, sqb, sqc, sqd, i64_w, i32_w]; rfl)
         refine pu 15 45 (bl 21 48639) HT_.out (v := ?_) (a' := ?_) ?_ ?_ ?_
         rotate_left; (intro w'; go_simp; with_reducible rfl); rotate_left; (simp only [sqa, sqb, sqc, sqd, i64_w, i32_w]; rfl)
         exact norm_ (by first | (simp only [putAll, Act.put, List.setIfInBounds_toArray, List.set_cons_zero, List.set_cons_succ]; done) | (simp only [putAll, Act.put, List.setIfInBounds_toArray, List.set_cons_zero, List.set_cons_succ]; rfl)) (hJ3_4_8_13 (.slice Ao52 y268.length co52, v272, v275, v281) _ ⟨hHeld, (by exact Kd.R_mono HO270.out (fun _ hk => ⟨hk.2, ⟨hk.1.1, hk.1.2⟩⟩)), (rk HO273), (rk HO276), (rk HO282), (rk HO_262001), (rk HO_262002), (bk BK255), (bk BK256), (bk BK257), (bk BK261), (bk BK267), (bw HB)⟩)
       ·skip
        rintro ⟨v269, v272, v281⟩ w50 ⟨hS_, h0_, h1_, h2_, h3_, h4_, h5_, h6_, h7_, h8_, h9_, h10_⟩
        have n0_ := Aside0.mk h0_
        have n1_ := Aside0.mk h1_
        have n2_ := Aside0.mk h2_
        have n3_ := Aside0.mk h3_
        have n4_ := Aside0.mk h4_
        have n5_ := Aside0.mk h5_
        have n6_ := Aside0.mk h6_
        have n7_ := Aside0.mk h7_
        have n8_ := Aside0.mk h8_
        have n9_ := Aside0.mk h9_
        have n10_ := Aside0.mk h10_
        clear HO_262000
        clear HO_262001
        clear HO_262002
        clear BK255
        clear BK256
        clear BK257
        clear BK261
        clear BK267
        clear HB
        clear h0_ h1_ h2_ h3_ h4_ h5_ h6_ h7_ h8_ h9_ h10_
        have HO270 := n0_
        have HO273 := n1_
        have HO282 := n2_
        have HO_262001 := n3_
        have HO_262002 := n4_
        have BK255 := n5_
        have BK256 := n6_
        have BK257 := n7_
        have BK261 := n8_
        have BK267 := n9_
        have HB := n10_
        clear n0_ n1_ n2_ n3_ n4_ n5_ n6_ n7_ n8_ n9_ n10_
        have hHeld : w50.cell? ⟨gb261, 0, none⟩ = some (.slice Ao39 x262000_1.length co39) ∧ w50.cell? ⟨gb261, 1, none⟩ = some (.slice Ao40 x262001_1.length co40) ∧ w50.cell? ⟨gb261, 2, none⟩ = some (.slice Ao41 x262002_1.length co41) ∧ w50.cell? ⟨gb267, 0, none⟩ = some (.int .i64 t263) ∧ w50.cell? ⟨gb267, 1, none⟩ = some (.bool t264) := hS_
        refine norm_ (a' := ?_) ?_ ?_
        rotate_left
        ·simp only [putAll, Act.put, List.setIfInBounds_toArray, List.set_cons_zero, List.set_cons_succ]
         rfl
        refine on 8 38 (bl 21 48639) HT_.out (fun K hK => ?_)
        refine Kd.R_lit_step (Kd.int .i64) _ 3 ?hg (N := 38) ?hd (xs := ([t265] : List Int)) (inner := [.int .i64 t265]) (ok := fun _ => True) (okp := fun _ => True) ?hr ?hp (fun _ hk => hk) trivial (Below.refl _ _) (Nat.le_refl _) (by simp) ?_; (case hd => rfl); (case hg => rfl); (case hr => first | (go_simp; done) | (go_simp; rfl)); (case hp => exact (Reps.one (show Kd.M (Kd.int .i64) _ _ _ t265 [.int .i64 t265] from rfl) (Reps.none _ _)))
        intro v275 w51 ho52 hb hg_ hnew_
        clear hg_ hnew_
        (first | rw [← Ny274.out] at ho52 | (simp only [Int.reduceToNat] at ho52; rw [← Ny274.out] at ho52))
        replace HO270 := rb HO270 hb
        replace HO273 := rb HO273 hb
        have HO276 := Aside0.mk (Kd.R_lower (Kd.R_new' (Kd.R_new' (Kd.R_new' ho52 (Kd.R_lt (rk HO_262001))) (Kd.R_lt (rk HO_262002))) (Kd.R_lt (rk HO282))) (below_size (bw HB)))
        replace HO_262001 := Aside0.mk (Kd.R_elder' (rk HO_262001) (Kd.R_base ho52) hb)
        replace HO_262002 := Aside0.mk (Kd.R_elder' (rk HO_262002) (Kd.R_base ho52) hb)
        replace HO282 := Aside0.mk (Kd.R_elder' (rk HO282) (Kd.R_base ho52) hb)
        replace BK255 := bb BK255 hb
        replace BK256 := bb BK256 hb
        replace BK257 := bb BK257 hb
        replace BK261 := bb BK261 hb
        replace BK267 := bb BK267 hb
        replace HB := bs HB hb
        clear hb ho52
        refine hK.out _ _ ⟨bc0 BK261, bc1 BK261, bc2 BK261, bc0 BK267, bc1 BK267⟩ (fun hHeld => ?_)
        clear hK K
        refine norm_ (a' := ?_) ?_ ?_; rotate_left; (show Act.put _ (some 38) _ = _; simp only [sqa, sqb, sqc, sqd, i64_w, i32_w]; rfl)
        exact norm_ (by first | (simp only [putAll, Act.put, List.setIfInBounds_toArray, List.set_cons_zero, List.set_cons_succ]; done) | (simp only [putAll, Act.put, List.setIfInBounds_toArray, List.set_cons_zero, List.set_cons_succ]; rfl)) (hJ3_4_8_13 (v269, v272, v275, v281) _ ⟨hHeld, (rk HO270), (rk HO273), (by exact Kd.R_mono HO276.out (fun _ hk => ⟨hk.2, ⟨hk.1.1.2, hk.1.2⟩⟩)), (by exact Kd.R_mono HO282.out (fun _ hk => ⟨hk.2, ⟨hk.1.1, hk.1.2⟩⟩)), (by exact Kd.R_mono HO_262001.out (fun _ hk => ⟨hk.2, ⟨hk.1.1, hk.1.2⟩⟩)), (by exact Kd.R_mono HO_262002.out (fun _ hk => ⟨hk.2, ⟨hk.1.1, hk.1.2⟩⟩)), (bk BK255), (bk BK256), (bk BK257), (bk BK261), (bk BK267), (bw HB)⟩)
      ·skip
       rintro ⟨v269, v272, v275⟩ w50 ⟨hS_, h0_, h1_, h2_, h3_, h4_, h5_, h6_, h7_, h8_, h9_, h10_⟩
       have n0_ := Aside0.mk h0_
       have n1_ := Aside0.mk h1_
       have n2_ := Aside0.mk h2_
       have n3_ := Aside0.mk h3_
       have n4_ := Aside0.mk h4_
       have n5_ := Aside0.mk h5_
       have n6_ := Aside0.mk h6_
       have n7_ := Aside0.mk h7_
       have n8_ := Aside0.mk h8_
       have n9_ := Aside0.mk h9_
       have n10_ := Aside0.mk h10_
       clear HO_262000
       clear HO_262001
       clear HO_262002
       clear BK255
       clear BK256
       clear BK257
       clear BK261
       clear BK267
       clear HB
       clear h0_ h1_ h2_ h3_ h4_ h5_ h6_ h7_ h8_ h9_ h10_
       have HO270 := n0_
       have HO273 := n1_
       have HO276 := n2_
       have HO_262001 := n3_
       have HO_262002 := n4_
       have BK255 := n5_
       have BK256 := n6_
       have BK257 := n7_
       have BK261 := n8_
       have BK267 := n9_
       have HB := n10_
       clear n0_ n1_ n2_ n3_ n4_ n5_ n6_ n7_ n8_ n9_ n10_
       have hHeld : w50.cell? ⟨gb261, 0, none⟩ = some (.slice Ao39 x262000_1.length co39) ∧ w50.cell? ⟨gb261, 1, none⟩ = some (.slice Ao40 x262001_1.length co40) ∧ w50.cell? ⟨gb261, 2, none⟩ = some (.slice Ao41 x262002_1.length co41) ∧ w50.cell? ⟨gb267, 0, none⟩ = some (.int .i64 t263) ∧ w50.cell? ⟨gb267, 1, none⟩ = some (.bool t264) := hS_
       obtain ⟨Ao52, co52, eo52⟩ := Kd.R_slice HO276.out
       (first | subst eo52 | (injection eo52 with f1_ f2_ f3_; have f4_ := f1_.symm; have f5_ := f3_.symm; clear f1_ f2_ f3_; subst f4_; subst f5_))
       refine norm_ (a' := ?_) ?_ ?_
       rotate_left
       ·simp only [putAll, Act.put, List.setIfInBounds_toArray, List.set_cons_zero, List.set_cons_succ]
        rfl
       refine two_ (i := 9) (j := 13) (Ni := some 39) (Nj := some 43) (bl 21 40959) (bl 21 48639) rfl rfl rfl rfl (two_of HT_.out (by kernel_rfl)) (by decide) (by decide) (fun K hK => ?_) (fun K hK => ?_)
       ·skip
        refine Kd.R_append_rows_step (Kd.int .i64) (w0 := w) w.heap.size (by rfl) (.tmp 36) (.tmp 38) 34 3 (.int .i64 0) 8 rfl Try.underlying34 info3 rfl (by decide) (by omega) (.slice Ao40 x262001_1.length co40) x262001_1 y274 _ _ _ (fun k_ => some k_ ≠ (.slice Ao41 x262002_1.length co41 : Value).ownBlock ∧ some k_ ≠ (.slice Ao52 y274.length co52 : Value).ownBlock) (fun _ => False) rfl rfl ?aO ?aR (fun _ _ h => h) (fun _ h => h.elim) ?aF ?aB ?aS ?aL ?_
        (case aR => exact cr HO276)
        (case aB => exact (bw HB))
        (case aF => exact (fun k_ hk => ⟨Kd.fresh' (Kd.R_lt (rk HO_262002)) k_ hk, Kd.fresh' (Kd.R_lt (rk HO276)) k_ hk⟩))
        (case aO => exact (by exact Kd.R_mono HO_262001.out (fun _ hk => ⟨hk.2, hk.1⟩)))
        (case aS => exact (below_size (bw HB)))
        (case aL => have := LMc23.out; omega)
        intro v278 w51 ho hb hg hat
        rw [← Ny277.out] at ho
        have n0_ := Aside0.mk (Kd.R_after (ok := (fun k_ => some k_ ≠ (.slice Ao52 y274.length co52 : Value).ownBlock)) (rk HO_262002) hg hat)
        have n1_ := Aside0.mk (blk_grown (g := gb255) (o := .cells #[.int .i64 a0_0, .int .i64 a0_1, .int .i64 a0_2, .int .i64 a0_3] 100 (0, 0)) (bk BK255) hg (Kd.R_ne HO_262001.out BK255.out (by decide)))
        have n2_ := Aside0.mk (blk_grown (g := gb256) (o := .cells #[.int .i64 x257000_1, .bool x257001_1] 102 (0, 0)) (bk BK256) hg (Kd.R_ne HO_262001.out BK256.out (by decide)))
        have n3_ := Aside0.mk (blk_grown (g := gb257) (o := .cells #[.slice none 0 0, .slice none 0 0, .slice none 0 0] 192 (0, 0)) (bk BK257) hg (Kd.R_ne HO_262001.out BK257.out (by decide)))
        have n4_ := Aside0.mk (blk_grown (g := gb261) (o := .cells #[.slice Ao39 x262000_1.length co39, .slice Ao40 x262001_1.length co40, .slice Ao41 x262002_1.length co41] 192 (0, 0)) (bk BK261) hg (Kd.R_ne HO_262001.out BK261.out (by decide)))
        have n5_ := Aside0.mk (blk_grown (g := gb267) (o := .cells #[.int .i64 t263, .bool t264] 102 (0, 0)) (bk BK267) hg (Kd.R_ne HO_262001.out BK267.out (by decide)))
        have n6_ := Aside0.mk (Kd.R_over' (rk HO270) (Kd.R_typed (rk HO_262001)) (by decide) hg)
        have n7_ := Aside0.mk (Kd.R_over' (rk HO273) (Kd.R_typed (rk HO_262001)) (by decide) hg)
        have n8_ := Aside0.mk (Kd.R_after (ok := (fun k_ => some k_ ≠ (.slice Ao41 x262002_1.length co41 : Value).ownBlock)) (by exact Kd.R_mono HO276.out (fun _ hk => ⟨hk.2, hk.1⟩)) hg hat)
        have n9_ := Aside0.mk (hb)
        have n10_ := Aside0.mk (ho)
        clear HO_262002
        clear BK255
        clear BK256
        clear BK257
        clear BK261
        clear BK267
        clear HO270
        clear HO273
        clear HO276
        clear HB
        clear HO_262001
        have HO_262002 := n0_
        have BK255 := n1_
        have BK256 := n2_
        have BK257 := n3_
        have BK261 := n4_
        have BK267 := n5_
        have HO270 := n6_
        have HO273 := n7_
        have HO276 := n8_
        have HB := n9_
        have HO279 := n10_
        clear n0_ n1_ n2_ n3_ n4_ n5_ n6_ n7_ n8_ n9_ n10_
        clear ho hb hg hat
        refine hK.out _ _ ⟨bc0 BK261, bc1 BK261, bc2 BK261, bc0 BK267, bc1 BK267⟩ (fun hHeld => ?_)
        clear hK K
        refine norm_ (a' := ?_) ?_ ?_; rotate_left; (show Act.put _ (some 39) _ = _; simp only [sqa, sqb, sqc, sqd, i64_w, i32_w]; rfl)
        exact norm_ (by first | (simp only [putAll, Act.put, List.setIfInBounds_toArray, List.set_cons_zero, List.set_cons_succ]; done) | (simp only [putAll, Act.put, List.setIfInBounds_toArray, List.set_cons_zero, List.set_cons_succ]; rfl)) (hJ3_4_8_9 (v269, v272, .slice Ao52 y274.length co52, v278) _ ⟨hHeld, (rk HO270), (rk HO273), (by exact Kd.R_mono HO276.out (fun _ hk => ⟨hk.2, hk.1⟩)), (by exact Kd.R_mono HO279.out (fun _ hk => ⟨hk.2, hk.1⟩)), (rk HO_262002), (bk BK255), (bk BK256), (bk BK257), (bk BK261), (bk BK267), (bw HB)⟩)
       ·skip
        refine Kd.R_lit_step (Kd.int .i64) _ 3 ?hg (N := 43) ?hd (xs := ([t266] : List Int)) (inner := [.int .i64 t266]) (ok := fun _ => True) (okp := fun _ => True) ?hr ?hp (fun _ hk => hk) trivial (Below.refl _ _) (Nat.le_refl _) (by simp) ?_; (case hd => rfl); (case hg => rfl); (case hr => first | (go_simp; done) | (go_simp; rfl)); (case hp => exact (Reps.one (show Kd.M (Kd.int .i64) _ _ _ t266 [.int .i64 t266] from rfl) (Reps.none _ _)))
        intro v281 w51 ho52 hb hg_ hnew_
        clear hg_ hnew_
        (first | rw [← Ny280.out] at ho52 | (simp only [Int.reduceToNat] at ho52; rw [← Ny280.out] at ho52))
        replace HO270 := rb HO270 hb
        replace HO273 := rb HO273 hb
        have HO282 := Aside0.mk (Kd.R_lower (Kd.R_new' (Kd.R_new' (Kd.R_new' ho52 (Kd.R_lt (rk HO_262001))) (Kd.R_lt (rk HO_262002))) (Kd.R_lt (rk HO276))) (below_size (bw HB)))
        replace HO_262001 := Aside0.mk (Kd.R_elder' (rk HO_262001) (Kd.R_base ho52) hb)
        replace HO_262002 := Aside0.mk (Kd.R_elder' (rk HO_262002) (Kd.R_base ho52) hb)
        replace HO276 := Aside0.mk (Kd.R_elder' (rk HO276) (Kd.R_base ho52) hb)
        replace BK255 := bb BK255 hb
        replace BK256 := bb BK256 hb
        replace BK257 := bb BK257 hb
        replace BK261 := bb BK261 hb
        replace BK267 := bb BK267 hb
        replace HB := bs HB hb
        clear hb ho52
        refine hK.out _ _ ⟨bc0 BK261, bc1 BK261, bc2 BK261, bc0 BK267, bc1 BK267⟩ (fun hHeld => ?_)
        clear hK K
        refine norm_ (a' := ?_) ?_ ?_; rotate_left; (show Act.put _ (some 43) _ = _; simp only [sqa, sqb, sqc, sqd, i64_w, i32_w]; rfl)
        exact norm_ (by first | (simp only [putAll, Act.put, List.setIfInBounds_toArray, List.set_cons_zero, List.set_cons_succ]; done) | (simp only [putAll, Act.put, List.setIfInBounds_toArray, List.set_cons_zero, List.set_cons_succ]; rfl)) (hJ3_4_8_13 (v269, v272, (.slice Ao52 y274.length co52), v281) _ ⟨hHeld, (rk HO270), (rk HO273), (by exact Kd.R_mono HO276.out (fun _ hk => ⟨hk.2, ⟨hk.1.1, hk.1.2⟩⟩)), (by exact Kd.R_mono HO282.out (fun _ hk => ⟨hk.2, ⟨hk.1.1.2, hk.1.2⟩⟩)), (by exact Kd.R_mono HO_262001.out (fun _ hk => ⟨hk.1.1, ⟨hk.2, hk.1.2⟩⟩)), (by exact Kd.R_mono HO_262002.out (fun _ hk => ⟨hk.1.1, ⟨hk.2, hk.1.2⟩⟩)), (bk BK255), (bk BK256), (bk BK257), (bk BK261), (bk BK267), (bw HB)⟩)
     ·skip
      rintro ⟨v269, v272, v275, v281⟩ w52 ⟨hS_, h0_, h1_, h2_, h3_, h4_, h5_, h6_, h7_, h8_, h9_, h10_, h11_⟩
      have n0_ := Aside0.mk h0_
      have n1_ := Aside0.mk h1_
      have n2_ := Aside0.mk h2_
      have n3_ := Aside0.mk h3_
      have n4_ := Aside0.mk h4_
      have n5_ := Aside0.mk h5_
      have n6_ := Aside0.mk h6_
      have n7_ := Aside0.mk h7_
      have n8_ := Aside0.mk h8_
      have n9_ := Aside0.mk h9_
      have n10_ := Aside0.mk h10_
      have n11_ := Aside0.mk h11_
      clear HO_262000
      clear HO_262001
      clear HO_262002
      clear BK255
      clear BK256
      clear BK257
      clear BK261
      clear BK267
      clear HB
      clear h0_ h1_ h2_ h3_ h4_ h5_ h6_ h7_ h8_ h9_ h10_ h11_
      have HO270 := n0_
      have HO273 := n1_
      have HO276 := n2_
      have HO282 := n3_
      have HO_262001 := n4_
      have HO_262002 := n5_
      have BK255 := n6_
      have BK256 := n7_
      have BK257 := n8_
      have BK261 := n9_
      have BK267 := n10_
      have HB := n11_
      clear n0_ n1_ n2_ n3_ n4_ n5_ n6_ n7_ n8_ n9_ n10_ n11_
      have hHeld : w52.cell? ⟨gb261, 0, none⟩ = some (.slice Ao39 x262000_1.length co39) ∧ w52.cell? ⟨gb261, 1, none⟩ = some (.slice Ao40 x262001_1.length co40) ∧ w52.cell? ⟨gb261, 2, none⟩ = some (.slice Ao41 x262002_1.length co41) ∧ w52.cell? ⟨gb267, 0, none⟩ = some (.int .i64 t263) ∧ w52.cell? ⟨gb267, 1, none⟩ = some (.bool t264) := hS_
      obtain ⟨Ao54, co54, eo54⟩ := Kd.R_slice HO276.out
      (first | subst eo54 | (injection eo54 with f1_ f2_ f3_; have f4_ := f1_.symm; have f5_ := f3_.symm; clear f1_ f2_ f3_; subst f4_; subst f5_))
      refine norm_ (a' := ?_) ?_ ?_
      rotate_left
      ·simp only [putAll, Act.put, List.setIfInBounds_toArray, List.set_cons_zero, List.set_cons_succ]
       rfl
      refine on 9 39 (bl 21 49151) HT_.out (fun K hK => ?_)
      refine Kd.R_append_rows_step (Kd.int .i64) (w0 := w) w.heap.size (by rfl) (.tmp 36) (.tmp 38) 34 3 (.int .i64 0) 8 rfl Try.underlying34 info3 rfl (by decide) (by omega) (.slice Ao40 x262001_1.length co40) x262001_1 y274 _ _ _ (fun k_ => some k_ ≠ (.slice Ao41 x262002_1.length co41 : Value).ownBlock ∧ some k_ ≠ (.slice Ao54 y274.length co54 : Value).ownBlock ∧ some k_ ≠ (v281 : Value).ownBlock) (fun _ => False) rfl rfl ?aO ?aR (fun _ _ h => h) (fun _ h => h.elim) ?aF ?aB ?aS ?aL ?_
      (case aR => exact cr HO276)
      (case aB => exact (bw HB))
      (case aF => exact (fun k_ hk => ⟨Kd.fresh' (Kd.R_lt (rk HO_262002)) k_ hk, Kd.fresh' (Kd.R_lt (rk HO276)) k_ hk, Kd.fresh' (Kd.R_lt (rk HO282)) k_ hk⟩))
      (case aO => exact (by exact Kd.R_mono HO_262001.out (fun _ hk => ⟨hk.2.2, ⟨hk.1, hk.2.1⟩⟩)))
      (case aS => exact (below_size (bw HB)))
      (case aL => have := LMc23.out; omega)
      intro v278 w53 ho hb hg hat
      rw [← Ny277.out] at ho
      have n0_ := Aside0.mk (Kd.R_after (ok := (fun k_ => some k_ ≠ (.slice Ao54 y274.length co54 : Value).ownBlock ∧ some k_ ≠ (v281 : Value).ownBlock)) (by exact Kd.R_mono HO_262002.out (fun _ hk => ⟨⟨hk.1, hk.2.1⟩, hk.2.2⟩)) hg hat)
      have n1_ := Aside0.mk (blk_grown (g := gb255) (o := .cells #[.int .i64 a0_0, .int .i64 a0_1, .int .i64 a0_2, .int .i64 a0_3] 100 (0, 0)) (bk BK255) hg (Kd.R_ne HO_262001.out BK255.out (by decide)))
      have n2_ := Aside0.mk (blk_grown (g := gb256) (o := .cells #[.int .i64 x257000_1, .bool x257001_1] 102 (0, 0)) (bk BK256) hg (Kd.R_ne HO_262001.out BK256.out (by decide)))
      have n3_ := Aside0.mk (blk_grown (g := gb257) (o := .cells #[.slice none 0 0, .slice none 0 0, .slice none 0 0] 192 (0, 0)) (bk BK257) hg (Kd.R_ne HO_262001.out BK257.out (by decide)))
      have n4_ := Aside0.mk (blk_grown (g := gb261) (o := .cells #[.slice Ao39 x262000_1.length co39, .slice Ao40 x262001_1.length co40, .slice Ao41 x262002_1.length co41] 192 (0, 0)) (bk BK261) hg (Kd.R_ne HO_262001.out BK261.out (by decide)))
      have n5_ := Aside0.mk (blk_grown (g := gb267) (o := .cells #[.int .i64 t263, .bool t264] 102 (0, 0)) (bk BK267) hg (Kd.R_ne HO_262001.out BK267.out (by decide)))
      have n6_ := Aside0.mk (Kd.R_over' (rk HO270) (Kd.R_typed (rk HO_262001)) (by decide) hg)
      have n7_ := Aside0.mk (Kd.R_over' (rk HO273) (Kd.R_typed (rk HO_262001)) (by decide) hg)
      have n8_ := Aside0.mk (Kd.R_after (ok := (fun k_ => some k_ ≠ (.slice Ao41 x262002_1.length co41 : Value).ownBlock ∧ some k_ ≠ (v281 : Value).ownBlock)) (by exact Kd.R_mono HO276.out (fun _ hk => ⟨⟨hk.2.2, hk.1⟩, hk.2.1⟩)) hg hat)
      have n9_ := Aside0.mk (Kd.R_after (ok := (fun k_ => some k_ ≠ (.slice Ao41 x262002_1.length co41 : Value).ownBlock ∧ some k_ ≠ (.slice Ao54 y274.length co54 : Value).ownBlock)) (by exact Kd.R_mono HO282.out (fun _ hk => ⟨⟨hk.2.2, hk.1⟩, hk.2.1⟩)) hg hat)
      have n10_ := Aside0.mk (hb)
      have n11_ := Aside0.mk (ho)
      clear HO_262002
      clear BK255
      clear BK256
      clear BK257
      clear BK261
      clear BK267
      clear HO270
      clear HO273
      clear HO276
      clear HO282
      clear HB
      clear HO_262001
      have HO_262002 := n0_
      have BK255 := n1_
      have BK256 := n2_
      have BK257 := n3_
      have BK261 := n4_
      have BK267 := n5_
      have HO270 := n6_
      have HO273 := n7_
      have HO276 := n8_
      have HO282 := n9_
      have HB := n10_
      have HO279 := n11_
      clear n0_ n1_ n2_ n3_ n4_ n5_ n6_ n7_ n8_ n9_ n10_ n11_
      clear ho hb hg hat
      refine hK.out _ _ ⟨bc0 BK261, bc1 BK261, bc2 BK261, bc0 BK267, bc1 BK267⟩ (fun hHeld => ?_)
      clear hK K
      refine norm_ (a' := ?_) ?_ ?_; rotate_left; (show Act.put _ (some 39) _ = _; simp only [sqa, sqb, sqc, sqd, i64_w, i32_w]; rfl)
      exact norm_ (by first | (simp only [putAll, Act.put, List.setIfInBounds_toArray, List.set_cons_zero, List.set_cons_succ]; done) | (simp only [putAll, Act.put, List.setIfInBounds_toArray, List.set_cons_zero, List.set_cons_succ]; rfl)) (hJ3_4_8_9_13 (v269, v272, .slice Ao54 y274.length co54, v278, v281) _ ⟨hHeld, (rk HO270), (rk HO273), (by exact Kd.R_mono HO276.out (fun _ hk => ⟨hk.2, ⟨hk.1.2, hk.1.1⟩⟩)), (by exact Kd.R_mono HO279.out (fun _ hk => ⟨hk.2.1, ⟨hk.2.2, hk.1⟩⟩)), (by exact Kd.R_mono HO282.out (fun _ hk => ⟨hk.1.2, ⟨hk.2, hk.1.1⟩⟩)), (by exact Kd.R_mono HO_262002.out (fun _ hk => ⟨hk.1.1, ⟨hk.2, hk.1.2⟩⟩)), (bk BK255), (bk BK256), (bk BK257), (bk BK261), (bk BK267), (bw HB)⟩)
    ·skip
     rintro ⟨v269, v272, v275, v278⟩ w52 ⟨hS_, h0_, h1_, h2_, h3_, h4_, h5_, h6_, h7_, h8_, h9_, h10_⟩
     have n0_ := Aside0.mk h0_
     have n1_ := Aside0.mk h1_
     have n2_ := Aside0.mk h2_
     have n3_ := Aside0.mk h3_
     have n4_ := Aside0.mk h4_
     have n5_ := Aside0.mk h5_
     have n6_ := Aside0.mk h6_
     have n7_ := Aside0.mk h7_
     have n8_ := Aside0.mk h8_
     have n9_ := Aside0.mk h9_
     have n10_ := Aside0.mk h10_
     clear HO_262000
     clear HO_262001
     clear HO_262002
     clear BK255
     clear BK256
     clear BK257
     clear BK261
     clear BK267
     clear HB
     clear h0_ h1_ h2_ h3_ h4_ h5_ h6_ h7_ h8_ h9_ h10_
     have HO270 := n0_
     have HO273 := n1_
     have HO276 := n2_
     have HO279 := n3_
     have HO_262002 := n4_
     have BK255 := n5_
     have BK256 := n6_
     have BK257 := n7_
     have BK261 := n8_
     have BK267 := n9_
     have HB := n10_
     clear n0_ n1_ n2_ n3_ n4_ n5_ n6_ n7_ n8_ n9_ n10_
     have hHeld : w52.cell? ⟨gb261, 0, none⟩ = some (.slice Ao39 x262000_1.length co39) ∧ w52.cell? ⟨gb261, 1, none⟩ = some (.slice Ao40 x262001_1.length co40) ∧ w52.cell? ⟨gb261, 2, none⟩ = some (.slice Ao41 x262002_1.length co41) ∧ w52.cell? ⟨gb267, 0, none⟩ = some (.int .i64 t263) ∧ w52.cell? ⟨gb267, 1, none⟩ = some (.bool t264) := hS_
     refine norm_ (a' := ?_) ?_ ?_
     rotate_left
     ·simp only [putAll, Act.put, List.setIfInBounds_toArray, List.set_cons_zero, List.set_cons_succ]
      rfl
     refine on 13 43 (bl 21 49151) HT_.out (fun K hK => ?_)
     refine Kd.R_lit_step (Kd.int .i64) _ 3 ?hg (N := 43) ?hd (xs := ([t266] : List Int)) (inner := [.int .i64 t266]) (ok := fun _ => True) (okp := fun _ => True) ?hr ?hp (fun _ hk => hk) trivial (Below.refl _ _) (Nat.le_refl _) (by simp) ?_; (case hd => rfl); (case hg => rfl); (case hr => first | (go_simp; done) | (go_simp; rfl)); (case hp => exact (Reps.one (show Kd.M (Kd.int .i64) _ _ _ t266 [.int .i64 t266] from rfl) (Reps.none _ _)))
     intro v281 w53 ho54 hb hg_ hnew_
     clear hg_ hnew_
     (first | rw [← Ny280.out] at ho54 | (simp only [Int.reduceToNat] at ho54; rw [← Ny280.out] at ho54))
     replace HO270 := rb HO270 hb
     replace HO273 := rb HO273 hb
     have HO282 := Aside0.mk (Kd.R_lower (Kd.R_new' (Kd.R_new' (Kd.R_new' ho54 (Kd.R_lt (rk HO_262002))) (Kd.R_lt (rk HO276))) (Kd.R_lt (rk HO279))) (below_size (bw HB)))
     replace HO_262002 := Aside0.mk (Kd.R_elder' (rk HO_262002) (Kd.R_base ho54) hb)
     replace HO276 := Aside0.mk (Kd.R_elder' (rk HO276) (Kd.R_base ho54) hb)
     replace HO279 := Aside0.mk (Kd.R_elder' (rk HO279) (Kd.R_base ho54) hb)
     replace BK255 := bb BK255 hb
     replace BK256 := bb BK256 hb
     replace BK257 := bb BK257 hb
     replace BK261 := bb BK261 hb
     replace BK267 := bb BK267 hb
     replace HB := bs HB hb
     clear hb ho54
     refine hK.out _ _ ⟨bc0 BK261, bc1 BK261, bc2 BK261, bc0 BK267, bc1 BK267⟩ (fun hHeld => ?_)
     clear hK K
     refine norm_ (a' := ?_) ?_ ?_; rotate_left; (show Act.put _ (some 43) _ = _; simp only [sqa, sqb, sqc, sqd, i64_w, i32_w]; rfl)
     exact norm_ (by first | (simp only [putAll, Act.put, List.setIfInBounds_toArray, List.set_cons_zero, List.set_cons_succ]; done) | (simp only [putAll, Act.put, List.setIfInBounds_toArray, List.set_cons_zero, List.set_cons_succ]; rfl)) (hJ3_4_8_9_13 (v269, v272, v275, v278, v281) _ ⟨hHeld, (rk HO270), (rk HO273), (by exact Kd.R_mono HO276.out (fun _ hk => ⟨hk.1.1, ⟨hk.2, hk.1.2⟩⟩)), (by exact Kd.R_mono HO279.out (fun _ hk => ⟨hk.1.1, ⟨hk.2, hk.1.2⟩⟩)), (by exact Kd.R_mono HO282.out (fun _ hk => ⟨hk.1.2, ⟨hk.2, hk.1.1.2⟩⟩)), (by exact Kd.R_mono HO_262002.out (fun _ hk => ⟨hk.1.1, ⟨hk.1.2, hk.2⟩⟩)), (bk BK255), (bk BK256), (bk BK257), (bk BK261), (bk BK267), (bw HB)⟩)
   rintro ⟨v269, v272, v275, v278, v281⟩ w54 ⟨hS_, h0_, h1_, h2_, h3_, h4_, h5_, h6_, h7_, h8_, h9_, h10_, h11_⟩
   have n0_ := Aside0.mk h0_
   have n1_ := Aside0.mk h1_
   have n2_ := Aside0.mk h2_
   have n3_ := Aside0.mk h3_
   have n4_ := Aside0.mk h4_
   have n5_ := Aside0.mk h5_
   have n6_ := Aside0.mk h6_
   have n7_ := Aside0.mk h7_
   have n8_ := Aside0.mk h8_
   have n9_ := Aside0.mk h9_
   have n10_ := Aside0.mk h10_
   have n11_ := Aside0.mk h11_
   clear HO_262000
   clear HO_262001
   clear HO_262002
   clear BK255
   clear BK256
   clear BK257
   clear BK261
   clear BK267
   clear HB
   clear h0_ h1_ h2_ h3_ h4_ h5_ h6_ h7_ h8_ h9_ h10_ h11_
   have HO270 := n0_
   have HO273 := n1_
   have HO276 := n2_
   have HO279 := n3_
   have HO282 := n4_
   have HO_262002 := n5_
   have BK255 := n6_
   have BK256 := n7_
   have BK257 := n8_
   have BK261 := n9_
   have BK267 := n10_
   have HB := n11_
   clear n0_ n1_ n2_ n3_ n4_ n5_ n6_ n7_ n8_ n9_ n10_ n11_
   have hHeld : w54.cell? ⟨gb261, 0, none⟩ = some (.slice Ao39 x262000_1.length co39) ∧ w54.cell? ⟨gb261, 1, none⟩ = some (.slice Ao40 x262001_1.length co40) ∧ w54.cell? ⟨gb261, 2, none⟩ = some (.slice Ao41 x262002_1.length co41) ∧ w54.cell? ⟨gb267, 0, none⟩ = some (.int .i64 t263) ∧ w54.cell? ⟨gb267, 1, none⟩ = some (.bool t264) := hS_
   obtain ⟨Ao56, co56, eo56⟩ := Kd.R_slice HO282.out
   (first | subst eo56 | (injection eo56 with f1_ f2_ f3_; have f4_ := f1_.symm; have f5_ := f3_.symm; clear f1_ f2_ f3_; subst f4_; subst f5_))
   refine norm_ (a' := ?_) ?_ ?_
   rotate_left
   ·simp only [putAll, Act.put, List.setIfInBounds_toArray, List.set_cons_zero, List.set_cons_succ]
    rfl
   refine on 14 44 (bl 21 65535) HT_.out (fun K hK => ?_)
   refine Kd.R_append_rows_step (Kd.int .i64) (w0 := w) w.heap.size (by rfl) (.tmp 41) (.tmp 43) 34 3 (.int .i64 0) 8 rfl Try.underlying34 info3 rfl (by decide) (by omega) (.slice Ao41 x262002_1.length co41) x262002_1 y280 _ _ _ (fun k_ => some k_ ≠ (v275 : Value).ownBlock ∧ some k_ ≠ (v278 : Value).ownBlock ∧ some k_ ≠ (.slice Ao56 y280.length co56 : Value).ownBlock) (fun _ => False) rfl rfl ?aO ?aR (fun _ _ h => h) (fun _ h => h.elim) ?aF ?aB ?aS ?aL ?_
   (case aR => exact cr HO282)
   (case aB => exact (bw HB))
   (case aF => exact (fun k_ hk => ⟨Kd.fresh' (Kd.R_lt (rk HO276)) k_ hk, Kd.fresh' (Kd.R_lt (rk HO279)) k_ hk, Kd.fresh' (Kd.R_lt (rk HO282)) k_ hk⟩))
   (case aO => exact (rk HO_262002))
   (case aS => exact (below_size (bw HB)))
   (case aL => have := LMc24.out; omega)
   intro v284 w55 ho hb hg hat
   rw [← Ny283.out] at ho
   have n0_ := Aside0.mk (blk_grown (g := gb255) (o := .cells #[.int .i64 a0_0, .int .i64 a0_1, .int .i64 a0_2, .int .i64 a0_3] 100 (0, 0)) (bk BK255) hg (Kd.R_ne HO_262002.out BK255.out (by decide)))
   have n1_ := Aside0.mk (blk_grown (g := gb256) (o := .cells #[.int .i64 x257000_1, .bool x257001_1] 102 (0, 0)) (bk BK256) hg (Kd.R_ne HO_262002.out BK256.out (by decide)))
   have n2_ := Aside0.mk (blk_grown (g := gb257) (o := .cells #[.slice none 0 0, .slice none 0 0, .slice none 0 0] 192 (0, 0)) (bk BK257) hg (Kd.R_ne HO_262002.out BK257.out (by decide)))
   have n3_ := Aside0.mk (blk_grown (g := gb261) (o := .cells #[.slice Ao39 x262000_1.length co39, .slice Ao40 x262001_1.length co40, .slice Ao41 x262002_1.length co41] 192 (0, 0)) (bk BK261) hg (Kd.R_ne HO_262002.out BK261.out (by decide)))
   have n4_ := Aside0.mk (blk_grown (g := gb267) (o := .cells #[.int .i64 t263, .bool t264] 102 (0, 0)) (bk BK267) hg (Kd.R_ne HO_262002.out BK267.out (by decide)))
   have n5_ := Aside0.mk (Kd.R_over' (rk HO270) (Kd.R_typed (rk HO_262002)) (by decide) hg)
   have n6_ := Aside0.mk (Kd.R_over' (rk HO273) (Kd.R_typed (rk HO_262002)) (by decide) hg)
   have n7_ := Aside0.mk (Kd.R_after (ok := (fun k_ => some k_ ≠ (v278 : Value).ownBlock ∧ some k_ ≠ (.slice Ao56 y280.length co56 : Value).ownBlock)) (by exact Kd.R_mono HO276.out (fun _ hk => ⟨⟨hk.1, hk.2.1⟩, hk.2.2⟩)) hg hat)
   have n8_ := Aside0.mk (Kd.R_after (ok := (fun k_ => some k_ ≠ (v275 : Value).ownBlock ∧ some k_ ≠ (.slice Ao56 y280.length co56 : Value).ownBlock)) (by exact Kd.R_mono HO279.out (fun _ hk => ⟨⟨hk.1, hk.2.1⟩, hk.2.2⟩)) hg hat)
   have n9_ := Aside0.mk (Kd.R_after (ok := (fun k_ => some k_ ≠ (v275 : Value).ownBlock ∧ some k_ ≠ (v278 : Value).ownBlock)) (by exact Kd.R_mono HO282.out (fun _ hk => ⟨⟨hk.1, hk.2.1⟩, hk.2.2⟩)) hg hat)
   have n10_ := Aside0.mk (hb)
   have n11_ := Aside0.mk (ho)
   clear BK255
   clear BK256
   clear BK257
   clear BK261
   clear BK267
   clear HO270
   clear HO273
   clear HO276
   clear HO279
   clear HO282
   clear HB
   clear HO_262002
   have BK255 := n0_
   have BK256 := n1_
   have BK257 := n2_
   have BK261 := n3_
   have BK267 := n4_
   have HO270 := n5_
   have HO273 := n6_
   have HO276 := n7_
   have HO279 := n8_
   have HO282 := n9_
   have HB := n10_
   have HO285 := n11_
   clear n0_ n1_ n2_ n3_ n4_ n5_ n6_ n7_ n8_ n9_ n10_ n11_
   clear ho hb hg hat
   obtain ⟨Ao57, co57, eo57⟩ := Kd.R_slice HO273.out
   (first | subst eo57 | (injection eo57 with f1_ f2_ f3_; have f4_ := f1_.symm; have f5_ := f3_.symm; clear f1_ f2_ f3_; subst f4_; subst f5_))
   obtain ⟨Ao59, co59, eo59⟩ := Kd.R_slice HO279.out
   (first | subst eo59 | (injection eo59 with f1_ f2_ f3_; have f4_ := f1_.symm; have f5_ := f3_.symm; clear f1_ f2_ f3_; subst f4_; subst f5_))
   obtain ⟨Ao61, co61, eo61⟩ := Kd.R_slice HO285.out
   (first | subst eo61 | (injection eo61 with f1_ f2_ f3_; have f4_ := f1_.symm; have f5_ := f3_.symm; clear f1_ f2_ f3_; subst f4_; subst f5_))
   refine hK.out _ _ ⟨bc0 BK261, bc1 BK261, bc2 BK261, bc0 BK267, bc1 BK267⟩ (fun hHeld => ?_)
   clear hK K
   refine norm_ (a' := ?_) ?_ ?_; rotate_left; (show Act.put _ (some 44) _ = _; simp only [sqa, sqb, sqc, sqd, i64_w, i32_w]; rfl)
   refine last_ (i := 16) (N := none) (bl 21 131071) rfl rfl (one_of HT_.out (by kernel_rfl)) (by decide) (fun K hK => ?_)
   have hs58 : w55.cell? ⟨gb261, 0, none⟩ = some (.slice Ao39 x262000_1.length co39) := bc0 BK261
   have hfs58 := blk_frozen BK261.out 0
   have hns58_0 := NB255_261.out
   have hns58_1 := NB256_261.out
   have hns58_2 := NB257_261.out
   have hns58_4 := NB267_261.out
   have hms58_0 := NB261_255.out
   have hms58_1 := NB261_256.out
   have hms58_2 := NB261_257.out
   have hms58_4 := NB261_267.out
   refine skip_ (w1 := ?_) (by rfl) rfl ?_ ?_
   rotate_left
   ·go_simp
    rfl
   refine hK.out _ _ ?_
   clear hK K
   refine pu 17 46 (bl 21 262143) HT_.out (v := ?_) (a' := ?_) ?_ ?_ ?_
   rotate_left; (intro w'; go_simp; with_reducible rfl); rotate_left; (simp only [sqa, sqb, sqc, sqd, i64_w, i32_w]; rfl)
   refine last_ (i := 18) (N := none) (bl 21 524287) rfl rfl (one_of HT_.out (by kernel_rfl)) (by decide) (fun K hK => ?_)
   have hs60 : w55.cell? ⟨gb261, 1, none⟩ = some (.slice Ao40 x262001_1.length co40) := bc1 BK261
   have hfs60 := blk_frozen BK261.out 1
   have hns60_0 := NB255_261.out
   have hns60_1 := NB256_261.out
   have hns60_2 := NB257_261.out
   have hns60_4 := NB267_261.out
   have hms60_0 := NB261_255.out
   have hms60_1 := NB261_256.out
   have hms60_2 := NB261_257.out
   have hms60_4 := NB261_267.out
   refine skip_ (w1 := ?_) (by rfl) rfl ?_ ?_
   rotate_left
   ·go_simp
    rfl
   refine hK.out _ _ ?_
   clear hK K
   refine pu 19 47 (bl 21 1048575) HT_.out (v := ?_) (a' := ?_) ?_ ?_ ?_
   rotate_left; (intro w'; go_simp; with_reducible rfl); rotate_left; (simp only [sqa, sqb, sqc, sqd, i64_w, i32_w]; rfl)
   refine last_ (i := 20) (N := none) (bl 21 2097151) rfl rfl (one_of HT_.out (by kernel_rfl)) (by decide) (fun K hK => ?_)
   have hs62 : w55.cell? ⟨gb261, 2, none⟩ = some (.slice Ao41 x262002_1.length co41) := bc2 BK261
   have hfs62 := blk_frozen BK261.out 2
   have hns62_0 := NB255_261.out
   have hns62_1 := NB256_261.out
   have hns62_2 := NB257_261.out
   have hns62_4 := NB267_261.out
   have hms62_0 := NB261_255.out
   have hms62_1 := NB261_256.out
   have hms62_2 := NB261_257.out
   have hms62_4 := NB261_267.out
   refine skip_ (w1 := ?_) (by rfl) rfl ?_ ?_
   rotate_left
   ·go_simp
    rfl
   refine hK.out _ _ ?_
   clear hK K
   refine done_ (done_of HT_.out (by kernel_rfl)) ?_
   have hcz63_0 := bc0 BK267
   have hcz63_1 := bc1 BK267
   have hfz63_0 := blk_frozen BK267.out 0
   have hfz63_1 := blk_frozen BK267.out 1
   have hcz64_0 := bc0 BK256
   have hcz64_1 := bc1 BK256
   have hfz64_0 := blk_frozen BK256.out 0
   have hfz64_1 := blk_frozen BK256.out 1
   try go_wp2
   go_roundg k1
   case measure => have := HK1.out; omega
   case rel => exact ⟨(wrap64 (x18_1 + 1)), (t263), (t264), (y271), (y277), (y283), (.slice Ao57 y271.length co57), (.slice Ao59 y277.length co59), (.slice Ao61 y283.length co61), (by first | rfl | (simp; done) | (simp [*]; done)), H', ⟨by have := HK1.out; omega⟩, ⟨by exact Kd.R_mono (Kd.R_far (p := ⟨gb256, 1, none⟩) (Kd.R_far (p := ⟨gb256, 0, none⟩) (Kd.R_far (p := ⟨gb261, 2, none⟩) (Kd.R_far (p := ⟨gb261, 1, none⟩) (Kd.R_far (p := ⟨gb261, 0, none⟩) (Kd.R_mono (Kd.R_types HO273.out BK261.out (by decide)) (fun k_ hk => (⟨hk, hk.1.2.1⟩ : _ ∧ k_ ≠ gb256))) (fun _ hk => hk.1.2) (.slice Ao57 y271.length co57)) (fun _ hk => hk.1.2) (.slice Ao59 y277.length co59)) (fun _ hk => hk.1.2) (.slice Ao61 y283.length co61)) (fun _ hk => hk.2) (.int .i64 t263)) (fun _ hk => hk.2) (.bool t264)) (fun _ hk => hk.1.1.2.1)⟩, ⟨by exact Kd.R_mono (Kd.R_far (p := ⟨gb256, 1, none⟩) (Kd.R_far (p := ⟨gb256, 0, none⟩) (Kd.R_far (p := ⟨gb261, 2, none⟩) (Kd.R_far (p := ⟨gb261, 1, none⟩) (Kd.R_far (p := ⟨gb261, 0, none⟩) (Kd.R_types (Kd.R_types HO279.out BK261.out (by decide)) BK256.out (by decide)) (fun _ hk => hk.1.2) (.slice Ao57 y271.length co57)) (fun _ hk => hk.1.2) (.slice Ao59 y277.length co59)) (fun _ hk => hk.1.2) (.slice Ao61 y283.length co61)) (fun _ hk => hk.2) (.int .i64 t263)) (fun _ hk => hk.2) (.bool t264)) (fun _ hk => hk.1.1.2)⟩, ⟨by exact Kd.R_mono (Kd.R_far (p := ⟨gb256, 1, none⟩) (Kd.R_far (p := ⟨gb256, 0, none⟩) (Kd.R_far (p := ⟨gb261, 2, none⟩) (Kd.R_far (p := ⟨gb261, 1, none⟩) (Kd.R_far (p := ⟨gb261, 0, none⟩) (Kd.R_types (Kd.R_types HO285.out BK261.out (by decide)) BK256.out (by decide)) (fun _ hk => hk.1.2) (.slice Ao57 y271.length co57)) (fun _ hk => hk.1.2) (.slice Ao59 y277.length co59)) (fun _ hk => hk.1.2) (.slice Ao61 y283.length co61)) (fun _ hk => hk.2) (.int .i64 t263)) (fun _ hk => hk.2) (.bool t264)) (fun _ hk => hk.1.1.2.1)⟩, ⟨bk BK255⟩, ⟨by refine blk_put (cs := #[.int .i64 t263, .bool x257001_1]) ?_ 1 _ rfl; refine blk_put (cs := #[.int .i64 x257000_1, .bool x257001_1]) ?_ 0 _ rfl; exact bk BK256⟩, ⟨bk BK257⟩, ⟨by refine blk_far ?_ NB261_256.out _; refine blk_far ?_ NB261_256.out _; refine blk_put (cs := #[.slice Ao57 y271.length co57, .slice Ao59 y277.length co59, .slice Ao41 x262002_1.length co41]) ?_ 2 _ rfl; refine blk_put (cs := #[.slice Ao57 y271.length co57, .slice Ao40 x262001_1.length co40, .slice Ao41 x262002_1.length co41]) ?_ 1 _ rfl; refine blk_put (cs := #[.slice Ao39 x262000_1.length co39, .slice Ao40 x262001_1.length co40, .slice Ao41 x262002_1.length co41]) ?_ 0 _ rfl; exact bk BK261⟩, ⟨bw HB⟩⟩
def impl_OutsOf.f (k : Nat) (a0_0 : Int) (a0_1 : Int) (a0_2 : Int) (a0_3 : Int) (a1_0 : Int) (a1_1 : Bool) (l2 : List Int) : Option (List Int × Bool) := (impl_isLevel.f a0_0 a0_1 a0_2 a0_3 a1_0 a1_1).bind fun t288 => (if t288 = true then ((impl_areInflows.f l2).bind fun t289 => (if t289 = true then ((impl_Siphon_run.f k a0_0 a0_1 a0_2 a0_3 a1_0 a1_1 l2).bind fun bt290 => (some (bt290.2.1, true))) else (some (([] : List Int), false)))) else (some (([] : List Int), false)))
set_option maxHeartbeats 8000000 in
set_option maxRecDepth 100000 in
theorem impl_OutsOf.calls (k : Nat) (a0_0 : Int) (a0_1 : Int) (a0_2 : Int) (a0_3 : Int) (a1_0 : Int) (a1_1 : Bool) (A2 : Option Addr) (c2 : Nat) (l2 : List Int) (r1 : List Int) (r2 : Bool) (w : World) (hr2 : Kd.C (Kd.int .i64) w A2 l2.length l2) (hc2 : l2.length ≤ c2) (h : impl_OutsOf.f k a0_0 a0_1 a0_2 a0_3 a1_0 a1_1 l2 = some (r1, r2)) :
  Calls Try.prog 99 #[.agg #[.int .i64 a0_0, .int .i64 a0_1, .int .i64 a0_2, .int .i64 a0_3], .agg #[.int .i64 a1_0, .bool a1_1], .slice A2 l2.length c2] w fun e w' => ∃ v0_ : Value, e = .returned (.tuple #[v0_, .bool r2]) ∧ Kd.R (Kd.int .i64) 3 w' w.heap.size (fun _ => True) v0_ r1 ∧ Below w.heap.size w w' := by
 have hu100 := Try.underlying100
 have hu102 := Try.underlying102
 have hfd192_1 : ∀ (x0 x1 x2 : Value) (W : World), (Instr.field 192 (.agg #[x0, x1, x2]) 1).run Try.prog W = .ok (x1) W := fun x0 x1 x2 W => by rfl
 have HR2 := Aside0.mk hr2
 have HC2 := Aside0.mk hc2
 clear hr2 hc2
 have HB := Aside0.mk (Below.refl w.heap.size w)
 have H : ((impl_isLevel.f a0_0 a0_1 a0_2 a0_3 a1_0 a1_1).bind fun t288 => (if t288 = true then ((impl_areInflows.f l2).bind fun t289 => (if t289 = true then ((impl_Siphon_run.f k a0_0 a0_1 a0_2 a0_3 a1_0 a1_1 l2).bind fun bt290 => (some (bt290.2.1, true))) else (some (([] : List Int), false)))) else (some (([] : List Int), false)))) = some (r1, r2) := h
 clear h
 replace H := Option.bind_eq_some_iff.mp H
 obtain ⟨t288, A40, H⟩ := H
 (try dsimp only at H)
 have A4 := Aside0.mk A40
 clear A40
 by_cases c5 : t288 = true
 rotate_left
 ·replace c5 := Bool.eq_false_iff.mpr c5
  subst c5
  have H1 : (some (([] : List Int), false)) = some (r1, r2) := by rw [if_neg (show ¬ (false = true) by decide)] at H; exact H
  clear H
  have H := H1
  clear H1
  simp only [Option.some.injEq, Prod.mk.injEq] at H
  obtain ⟨rfl, rfl⟩ := H
  go_enter Try.func99, Try.ntmps99
  go_wp2_with (first | ((with_reducible refine gate_dst (N := 3) rfl ?_); refine bx 3 #[.int .i64 a0_0, .int .i64 a0_1, .int .i64 a0_2, .int .i64 a0_3] 100 ?_; intro gb286 hg w26 hbox hb; have BK286 := Aside0.mk (hbox); have GW286 := ge HB hg; have GE286 := ge HB hg; replace HB := bs HB hb; clear hb hbox hg) | ((with_reducible refine gate_dst (N := 4) rfl ?_); refine bx 4 #[.int .i64 a1_0, .bool a1_1] 102 ?_; intro gb287 hg w27 hbox hb; have BK287 := Aside0.mk (hbox); have GW287 := ge HB hg; have GE287 := ge HB hg; replace HB := bs HB hb; have NB286_287 := nl BK286 hg; have NB287_286 := nr BK286 hg; replace BK286 := bb BK286 hb; clear hb hbox hg; have hnb28 := NB286_287.out; have hnc28 := NB287_286.out; have hcz29_0 := bc0 BK286; have hcz29_1 := bc1 BK286; have hcz29_2 := bc2 BK286; have hcz29_3 := bc3 BK286; have hfz29_0 := blk_frozen BK286.out 0; have hfz29_1 := blk_frozen BK286.out 1; have hfz29_2 := blk_frozen BK286.out 2; have hfz29_3 := blk_frozen BK286.out 3; have hcz30_0 := bc0 BK287; have hcz30_1 := bc1 BK287; have hfz30_0 := blk_frozen BK287.out 0; have hfz30_1 := blk_frozen BK287.out 1) | ((with_reducible refine gate_callee (f := 207) rfl ?_); refine gl 10 Try.func207 #[.agg #[.int .i64 a0_0, .int .i64 a0_1, .int .i64 a0_2, .int .i64 a0_3], .agg #[.int .i64 a1_0, .bool a1_1]] ?_; (with_reducible refine (impl_isLevel.calls a0_0 a0_1 a0_2 a0_3 a1_0 a1_1 false _ A4.out).mono ?_); rintro e w31 ⟨rfl, hb⟩; refine ⟨_, rfl, ?_⟩; replace BK286 := bb BK286 hb; replace BK287 := bb BK287 hb; replace HB := bs HB hb; (try clear hb)))
  go_ret2
  exact ⟨_, by first | rfl | (simp [errW_none, errW_some] <;> rfl) | (simp [*, errW_none, errW_some] <;> rfl), by first | exact Kd.R_nil _ _ _ _ _ | exact Kd.N_nil _ _ _ _ _ | exact Kd.V_nil _ _ _ _ _ | exact Kd.Q_nil _ _ _ _ _ | exact Kd.S_nil _ _ _ _ _, bw HB⟩
 subst c5
 have H1 : ((impl_areInflows.f l2).bind fun t289 => (if t289 = true then ((impl_Siphon_run.f k a0_0 a0_1 a0_2 a0_3 a1_0 a1_1 l2).bind fun bt290 => (some (bt290.2.1, true))) else (some (([] : List Int), false)))) = some (r1, r2) := by rw [if_pos rfl] at H; exact H
 clear H
 have H := H1
 clear H1
 replace H := Option.bind_eq_some_iff.mp H
 obtain ⟨t289, A60, H⟩ := H
 (try dsimp only at H)
 have A6 := Aside0.mk A60
 clear A60
 by_cases c7 : t289 = true
 rotate_left
 ·replace c7 := Bool.eq_false_iff.mpr c7
  subst c7
  have H1 : (some (([] : List Int), false)) = some (r1, r2) := by rw [if_neg (show ¬ (false = true) by decide)] at H; exact H
  clear H
  have H := H1
  clear H1
  simp only [Option.some.injEq, Prod.mk.injEq] at H
  obtain ⟨rfl, rfl⟩ := H
  go_enter Try.func99, Try.ntmps99
  go_wp2_with (first | ((with_reducible refine gate_dst (N := 3) rfl ?_); refine bx 3 #[.int .i64 a0_0, .int .i64 a0_1, .int .i64 a0_2, .int .i64 a0_3] 100 ?_; intro gb286 hg w19 hbox hb; have BK286 := Aside0.mk (hbox); have GW286 := ge HB hg; have GE286 := ge HB hg; replace HB := bs HB hb; clear hb hbox hg) | ((with_reducible refine gate_dst (N := 4) rfl ?_); refine bx 4 #[.int .i64 a1_0, .bool a1_1] 102 ?_; intro gb287 hg w20 hbox hb; have BK287 := Aside0.mk (hbox); have GW287 := ge HB hg; have GE287 := ge HB hg; replace HB := bs HB hb; have NB286_287 := nl BK286 hg; have NB287_286 := nr BK286 hg; replace BK286 := bb BK286 hb; clear hb hbox hg; have hnb21 := NB286_287.out; have hnc21 := NB287_286.out; have hcz22_0 := bc0 BK286; have hcz22_1 := bc1 BK286; have hcz22_2 := bc2 BK286; have hcz22_3 := bc3 BK286; have hfz22_0 := blk_frozen BK286.out 0; have hfz22_1 := blk_frozen BK286.out 1; have hfz22_2 := blk_frozen BK286.out 2; have hfz22_3 := blk_frozen BK286.out 3; have hcz23_0 := bc0 BK287; have hcz23_1 := bc1 BK287; have hfz23_0 := blk_frozen BK287.out 0; have hfz23_1 := blk_frozen BK287.out 1) | ((with_reducible refine gate_callee (f := 207) rfl ?_); refine gl 10 Try.func207 #[.agg #[.int .i64 a0_0, .int .i64 a0_1, .int .i64 a0_2, .int .i64 a0_3], .agg #[.int .i64 a1_0, .bool a1_1]] ?_; (with_reducible refine (impl_isLevel.calls a0_0 a0_1 a0_2 a0_3 a1_0 a1_1 true _ A4.out).mono ?_); rintro e w24 ⟨rfl, hb⟩; refine ⟨_, rfl, ?_⟩; replace BK286 := bb BK286 hb; replace BK287 := bb BK287 hb; replace HB := bs HB hb; (try clear hb)) | (go_at_call 208; (with_reducible refine (impl_areInflows.calls _ _ l2 false _ ?side1 ?side2 A6.out).mono ?_); (case side1 => exact ck HR2 HB); (case side2 => exact HC2.out); rintro e w25 ⟨rfl, hb⟩; replace BK286 := bb BK286 hb; replace BK287 := bb BK287 hb; replace HB := bs HB hb; (try clear hb)))
  go_ret2
  exact ⟨_, by first | rfl | (simp [errW_none, errW_some] <;> rfl) | (simp [*, errW_none, errW_some] <;> rfl), by first | exact Kd.R_nil _ _ _ _ _ | exact Kd.N_nil _ _ _ _ _ | exact Kd.V_nil _ _ _ _ _ | exact Kd.Q_nil _ _ _ _ _ | exact Kd.S_nil _ _ _ _ _, bw HB⟩
 subst c7
 have H1 : ((impl_Siphon_run.f k a0_0 a0_1 a0_2 a0_3 a1_0 a1_1 l2).bind fun bt290 => (some (bt290.2.1, true))) = some (r1, r2) := by rw [if_pos rfl] at H; exact H
 clear H
 have H := H1
 clear H1
 replace H := Option.bind_eq_some_iff.mp H
 obtain ⟨⟨t290, t293, t296⟩, A80, H⟩ := H
 (try dsimp only at H)
 have A8 := Aside0.mk A80
 clear A80
 simp only [Option.some.injEq, Prod.mk.injEq] at H
 obtain ⟨rfl, rfl⟩ := H
 go_enter Try.func99, Try.ntmps99
 go_wp2_with (first | ((with_reducible refine gate_dst (N := 3) rfl ?_); refine bx 3 #[.int .i64 a0_0, .int .i64 a0_1, .int .i64 a0_2, .int .i64 a0_3] 100 ?_; intro gb286 hg w9 hbox hb; have BK286 := Aside0.mk (hbox); have GW286 := ge HB hg; have GE286 := ge HB hg; replace HB := bs HB hb; clear hb hbox hg) | ((with_reducible refine gate_dst (N := 4) rfl ?_); refine bx 4 #[.int .i64 a1_0, .bool a1_1] 102 ?_; intro gb287 hg w10 hbox hb; have BK287 := Aside0.mk (hbox); have GW287 := ge HB hg; have GE287 := ge HB hg; replace HB := bs HB hb; have NB286_287 := nl BK286 hg; have NB287_286 := nr BK286 hg; replace BK286 := bb BK286 hb; clear hb hbox hg; have hnb11 := NB286_287.out; have hnc11 := NB287_286.out; have hcz12_0 := bc0 BK286; have hcz12_1 := bc1 BK286; have hcz12_2 := bc2 BK286; have hcz12_3 := bc3 BK286; have hfz12_0 := blk_frozen BK286.out 0; have hfz12_1 := blk_frozen BK286.out 1; have hfz12_2 := blk_frozen BK286.out 2; have hfz12_3 := blk_frozen BK286.out 3; have hcz13_0 := bc0 BK287; have hcz13_1 := bc1 BK287; have hfz13_0 := blk_frozen BK287.out 0; have hfz13_1 := blk_frozen BK287.out 1) | ((with_reducible refine gate_callee (f := 207) rfl ?_); refine gl 10 Try.func207 #[.agg #[.int .i64 a0_0, .int .i64 a0_1, .int .i64 a0_2, .int .i64 a0_3], .agg #[.int .i64 a1_0, .bool a1_1]] ?_; (with_reducible refine (impl_isLevel.calls a0_0 a0_1 a0_2 a0_3 a1_0 a1_1 true _ A4.out).mono ?_); rintro e w14 ⟨rfl, hb⟩; refine ⟨_, rfl, ?_⟩; replace BK286 := bb BK286 hb; replace BK287 := bb BK287 hb; replace HB := bs HB hb; (try clear hb)) | (go_at_call 208; (with_reducible refine (impl_areInflows.calls _ _ l2 true _ ?side1 ?side2 A6.out).mono ?_); (case side1 => exact ck HR2 HB); (case side2 => exact HC2.out); rintro e w15 ⟨rfl, hb⟩; replace BK286 := bb BK286 hb; replace BK287 := bb BK287 hb; replace HB := bs HB hb; (try clear hb); have hcz16_0 := bc0 BK286; have hcz16_1 := bc1 BK286; have hcz16_2 := bc2 BK286; have hcz16_3 := bc3 BK286; have hfz16_0 := blk_frozen BK286.out 0; have hfz16_1 := blk_frozen BK286.out 1; have hfz16_2 := blk_frozen BK286.out 2; have hfz16_3 := blk_frozen BK286.out 3; have hcz17_0 := bc0 BK287; have hcz17_1 := bc1 BK287; have hfz17_0 := blk_frozen BK287.out 0; have hfz17_1 := blk_frozen BK287.out 1) | ((with_reducible refine gate_callee (f := 209) rfl ?_); refine gl 20 Try.func209 #[.agg #[.int .i64 a0_0, .int .i64 a0_1, .int .i64 a0_2, .int .i64 a0_3], .agg #[.int .i64 a1_0, .bool a1_1], .slice A2 l2.length c2] ?_; (with_reducible refine (impl_Siphon_run.calls k a0_0 a0_1 a0_2 a0_3 a1_0 a1_1 _ _ l2 t290 t293 t296 _ ?side1 ?side2 A8.out).mono ?_); (case side1 => exact ck HR2 HB); (case side2 => exact HC2.out); rintro e w18 ⟨v291, v294, v297, rfl, ho0, ho1, ho2, hb⟩; refine ⟨_, rfl, ?_⟩; have HO292 := Aside0.mk (Kd.R_lower (Kd.R_newB ho0 (g := gb287) (o := .cells #[.int .i64 a1_0, .bool a1_1] 102 (0, 0)) (bk BK287)) (below_size (bw HB))); have HO295 := lo ho1 HB; have HO298 := lo ho2 HB; replace BK286 := bb BK286 hb; replace BK287 := bb BK287 hb; replace HB := bs HB hb; (try clear hb); (try clear ho0); (try clear ho1); (try clear ho2)))
 go_ret2
 exact ⟨_, by first | rfl | (simp [errW_none, errW_some] <;> rfl) | (simp [*, errW_none, errW_some] <;> rfl), by exact Kd.R_mono HO295.out (fun _ hk => trivial), bw HB⟩
def spec_l1In.f (a0 : Int) (a1 : Int) (a2 : Int) : Option (Bool) := if a0 ≥ a1 then (some (decide (a0 ≤ a2))) else (some false)
set_option maxHeartbeats 8000000 in
set_option maxRecDepth 100000 in
theorem spec_l1In.calls (a0 : Int) (a1 : Int) (a2 : Int) (r : Bool) (w : World) (h : spec_l1In.f a0 a1 a2 = some r) :
  Calls Try.prog 143 #[.int .i64 a0, .int .i64 a1, .int .i64 a2] w fun e w' => e = .returned (.bool r) ∧ Drawn0 w w' := by
 have H : (if a0 ≥ a1 then (some (decide (a0 ≤ a2))) else (some false)) = some r := h
 clear h
 by_cases c4 : a0 ≥ a1
 rotate_left
 ·rw [if_neg c4] at H
  have c4b0 : decide (a1 ≤ a0) = false := decide_eq_false c4
  clear c4
  obtain rfl := Option.some.inj H
  go_enter Try.func143, Try.ntmps143
  go_wp2
  go_ret
  exact ⟨by first | rfl | (simp; done) | (simp [*]; done), by repeat (first | exact Drawn0.refl _ | apply Drawn0.step)⟩
 rw [if_pos c4] at H
 have c4b0 : decide (a1 ≤ a0) = true := decide_eq_true c4
 clear c4
 obtain rfl := Option.some.inj H
 go_enter Try.func143, Try.ntmps143
 go_wp2
 go_ret
 exact ⟨by first | rfl | (simp; done) | (simp [*]; done), by repeat (first | exact Drawn0.refl _ | apply Drawn0.step)⟩
def spec_l1All.l0 : Nat → Int → Int → List Int → Int → Int → Option (Bool)
 | 0, _, _, _, _, _ => none
 | k + 1, x1, x2, x9, x10, x11 => if x11 < x10 then (if 0 ≤ x11 then (if x11 < (x9.length : Int) then ((spec_l1In.f (rd x9 x11) x1 x2).bind fun t300 => (if t300 = true then (spec_l1All.l0 k x1 x2 x9 x10 (wrap64 (x11 + 1))) else (some false))) else (none)) else (none)) else (some true)
def spec_l1All.f (k : Nat) (l0 : List Int) (a1 : Int) (a2 : Int) : Option (Bool) := spec_l1All.l0 k a1 a2 l0 (l0.length : Int) 0
set_option maxHeartbeats 8000000 in
set_option maxRecDepth 100000 in
theorem spec_l1All.calls (k : Nat) (A0 : Option Addr) (c0 : Nat) (l0 : List Int) (a1 : Int) (a2 : Int) (r : Bool) (w : World) (hr0 : Kd.C (Kd.int .i64) w A0 l0.length l0) (hc0 : l0.length ≤ c0) (h : spec_l1All.f k l0 a1 a2 = some r) :
  Calls Try.prog 170 #[.slice A0 l0.length c0, .int .i64 a1, .int .i64 a2] w fun e w' => e = .returned (.bool r) ∧ Drawn0 w w' := by
 have HR0 := Aside0.mk hr0
 have HC0 := Aside0.mk hc0
 clear hr0 hc0
 have H : (spec_l1All.l0 k a1 a2 l0 (l0.length : Int) 0) = some r := h
 clear h
 have H' := Aside0.mk H
 clear H
 go_enter Try.func170, Try.ntmps170
 go_wp2
 try simp only [Act.put, List.setIfInBounds_toArray, List.set_cons_zero, List.set_cons_succ]
 go_loopg [11] k (fun kq v11 w' => ∃ (x11_1 : Int), v11 = .int .i64 x11_1 ∧ Aside0 (spec_l1All.l0 kq a1 a2 l0 (l0.length : Int) x11_1 = some r) ∧ Aside0 (kq ≤ k) ∧ Drawn0 w w')
 case atStart => exact ⟨(0), (by first | rfl | (simp; done) | (simp [*]; done)), H', ⟨Nat.le_refl _⟩, by repeat (first | exact Drawn0.refl _ | apply Drawn0.step)⟩
 case round =>
  clear H'
  (try clear c1); (try clear p2)
  obtain ⟨x11_1, rfl, HA, HK1, ⟨m1, rfl⟩⟩ := hrel
  cases gk with
  | zero => exact absurd HA.out (by simp [spec_l1All.l0])
  | succ k1 =>
   have H := HA.out
   clear HA
   simp only [spec_l1All.l0] at H
   by_cases c4 : x11_1 < (l0.length : Int)
   rotate_left
   ·rw [if_neg c4] at H
    have c4b0 : decide (x11_1 < (l0.length : Int)) = false := decide_eq_false c4
    clear c4
    obtain rfl := Option.some.inj H
    go_wp2
    go_ret
    exact ⟨by first | rfl | (simp; done) | (simp [*]; done), by repeat (first | exact Drawn0.refl _ | apply Drawn0.step)⟩
   rw [if_pos c4] at H
   have c4b0 : decide (x11_1 < (l0.length : Int)) = true := decide_eq_true c4
   clear c4
   by_cases c5 : 0 ≤ x11_1
   rotate_left
   ·rw [if_neg c5] at H
    exact absurd H (by simp)
   rw [if_pos c5] at H
   have c5b0 : decide (0 ≤ x11_1) = true := decide_eq_true c5
   clear c5
   by_cases c6 : x11_1 < (l0.length : Int)
   rotate_left
   ·rw [if_neg c6] at H
    exact absurd H (by simp)
   rw [if_pos c6] at H
   have c6b0 : decide (x11_1 < (l0.length : Int)) = true := decide_eq_true c6
   clear c6
   replace H := Option.bind_eq_some_iff.mp H
   obtain ⟨t300, A70, H⟩ := H
   (try dsimp only at H)
   have A7 := Aside0.mk A70
   clear A70
   by_cases c8 : t300 = true
   rotate_left
   ·replace c8 := Bool.eq_false_iff.mpr c8
    subst c8
    have H1 : (some false) = some r := by rw [if_neg (show ¬ (false = true) by decide)] at H; exact H
    clear H
    have H := H1
    clear H1
    obtain rfl := Option.some.inj H
    have p299 : 0 ≤ (x11_1 : Int) := of_decide_eq_true ‹_›
    have q299 : x11_1 < (l0.length : Int) := of_decide_eq_true ‹_›
    obtain ⟨ad299, e299, hx299_0⟩ := Kd.at_int HR0.out x11_1 p299 q299
    cases e299
    replace p299 := eq_true p299
    replace q299 := eq_true q299
    go_wp2_with (first | ((with_reducible refine gate_callee (f := 143) rfl ?_); refine gl 18 Try.func143 #[.int .i64 (rd l0 x11_1), .int .i64 a1, .int .i64 a2] ?_; (with_reducible refine (spec_l1In.calls (rd l0 x11_1) a1 a2 false _ A7.out).mono ?_); rintro e w' ⟨rfl, ⟨nd, rfl⟩⟩; refine ⟨_, rfl, ?_⟩))
    go_ret
    exact ⟨by first | rfl | (simp; done) | (simp [*]; done), by repeat (first | exact Drawn0.refl _ | apply Drawn0.step)⟩
   subst c8
   have H1 : (spec_l1All.l0 k1 a1 a2 l0 (l0.length : Int) (wrap64 (x11_1 + 1))) = some r := by rw [if_pos rfl] at H; exact H
   clear H
   have H := H1
   clear H1
   have H' := Aside0.mk H
   clear H
   have p299 : 0 ≤ (x11_1 : Int) := of_decide_eq_true ‹_›
   have q299 : x11_1 < (l0.length : Int) := of_decide_eq_true ‹_›
   obtain ⟨ad299, e299, hx299_0⟩ := Kd.at_int HR0.out x11_1 p299 q299
   cases e299
   replace p299 := eq_true p299
   replace q299 := eq_true q299
   go_wp2_with (first | ((with_reducible refine gate_callee (f := 143) rfl ?_); refine gl 18 Try.func143 #[.int .i64 (rd l0 x11_1), .int .i64 a1, .int .i64 a2] ?_; (with_reducible refine (spec_l1In.calls (rd l0 x11_1) a1 a2 true _ A7.out).mono ?_); rintro e w' ⟨rfl, ⟨nd, rfl⟩⟩; refine ⟨_, rfl, ?_⟩))
   go_roundg k1
   case measure => have := HK1.out; omega
   case rel => exact ⟨(wrap64 (x11_1 + 1)), (by first | rfl | (simp; done) | (simp [*]; done)), H', ⟨by have := HK1.out; omega⟩, by repeat (first | exact Drawn0.refl _ | apply Drawn0.step)⟩
def spec_siGood.f (a0_0 : Int) (a0_1 : Int) (a0_2 : Int) (a0_3 : Int) : Option (Bool) := (spec_l1In.f a0_0 1 60).bind fun t302 => (if t302 = true then ((spec_l1In.f a0_1 0 (wrap64 (a0_0 - 1))).bind fun t303 => (if t303 = true then ((spec_l1In.f a0_2 (wrap64 (a0_1 + 1)) a0_0).bind fun t304 => (if t304 = true then ((spec_l1In.f a0_3 1 60).bind fun t305 => (some t305)) else (some false))) else (some false))) else (some false))
set_option maxHeartbeats 8000000 in
set_option maxRecDepth 100000 in
theorem spec_siGood.calls (a0_0 : Int) (a0_1 : Int) (a0_2 : Int) (a0_3 : Int) (r : Bool) (w : World) (h : spec_siGood.f a0_0 a0_1 a0_2 a0_3 = some r) :
  Calls Try.prog 218 #[.agg #[.int .i64 a0_0, .int .i64 a0_1, .int .i64 a0_2, .int .i64 a0_3]] w fun e w' => e = .returned (.bool r) ∧ Below w.heap.size w w' := by
 have hu100 := Try.underlying100
 have HB := Aside0.mk (Below.refl w.heap.size w)
 have H : ((spec_l1In.f a0_0 1 60).bind fun t302 => (if t302 = true then ((spec_l1In.f a0_1 0 (wrap64 (a0_0 - 1))).bind fun t303 => (if t303 = true then ((spec_l1In.f a0_2 (wrap64 (a0_1 + 1)) a0_0).bind fun t304 => (if t304 = true then ((spec_l1In.f a0_3 1 60).bind fun t305 => (some t305)) else (some false))) else (some false))) else (some false))) = some r := h
 clear h
 replace H := Option.bind_eq_some_iff.mp H
 obtain ⟨t302, A20, H⟩ := H
 (try dsimp only at H)
 have A2 := Aside0.mk A20
 clear A20
 by_cases c3 : t302 = true
 rotate_left
 ·replace c3 := Bool.eq_false_iff.mpr c3
  subst c3
  have H1 : (some false) = some r := by rw [if_neg (show ¬ (false = true) by decide)] at H; exact H
  clear H
  have H := H1
  clear H1
  obtain rfl := Option.some.inj H
  go_enter Try.func218, Try.ntmps218
  go_wp2_with (first | ((with_reducible refine gate_dst (N := 1) rfl ?_); refine bx 1 #[.int .i64 a0_0, .int .i64 a0_1, .int .i64 a0_2, .int .i64 a0_3] 100 ?_; intro gb301 hg w15 hbox hb; have BK301 := Aside0.mk (hbox); have GW301 := ge HB hg; have GE301 := ge HB hg; replace HB := bs HB hb; clear hb hbox hg; have hcz16_0 := bc0 BK301; have hcz16_1 := bc1 BK301; have hcz16_2 := bc2 BK301; have hcz16_3 := bc3 BK301; have hfz16_0 := blk_frozen BK301.out 0; have hfz16_1 := blk_frozen BK301.out 1; have hfz16_2 := blk_frozen BK301.out 2; have hfz16_3 := blk_frozen BK301.out 3) | ((with_reducible refine gate_callee (f := 143) rfl ?_); refine gl 5 Try.func143 #[.int .i64 a0_0, .int .i64 1, .int .i64 60] ?_; (with_reducible refine (spec_l1In.calls a0_0 1 60 false _ A2.out).mono ?_); rintro e w' ⟨rfl, ⟨nd, rfl⟩⟩; refine ⟨_, rfl, ?_⟩))
  go_ret
  exact ⟨by first | rfl | (simp [errW_none, errW_some] <;> rfl) | (simp [*, errW_none, errW_some] <;> rfl), bw HB⟩
 subst c3
 have H1 : ((spec_l1In.f a0_1 0 (wrap64 (a0_0 - 1))).bind fun t303 => (if t303 = true then ((spec_l1In.f a0_2 (wrap64 (a0_1 + 1)) a0_0).bind fun t304 => (if t304 = true then ((spec_l1In.f a0_3 1 60).bind fun t305 => (some t305)) else (some false))) else (some false))) = some r := by rw [if_pos rfl] at H; exact H
 clear H
 have H := H1
 clear H1
 replace H := Option.bind_eq_some_iff.mp H
 obtain ⟨t303, A40, H⟩ := H
 (try dsimp only at H)
 have A4 := Aside0.mk A40
 clear A40
 by_cases c5 : t303 = true
 rotate_left
 ·replace c5 := Bool.eq_false_iff.mpr c5
  subst c5
  have H1 : (some false) = some r := by rw [if_neg (show ¬ (false = true) by decide)] at H; exact H
  clear H
  have H := H1
  clear H1
  obtain rfl := Option.some.inj H
  go_enter Try.func218, Try.ntmps218
  go_wp2_with (first | ((with_reducible refine gate_dst (N := 1) rfl ?_); refine bx 1 #[.int .i64 a0_0, .int .i64 a0_1, .int .i64 a0_2, .int .i64 a0_3] 100 ?_; intro gb301 hg w13 hbox hb; have BK301 := Aside0.mk (hbox); have GW301 := ge HB hg; have GE301 := ge HB hg; replace HB := bs HB hb; clear hb hbox hg; have hcz14_0 := bc0 BK301; have hcz14_1 := bc1 BK301; have hcz14_2 := bc2 BK301; have hcz14_3 := bc3 BK301; have hfz14_0 := blk_frozen BK301.out 0; have hfz14_1 := blk_frozen BK301.out 1; have hfz14_2 := blk_frozen BK301.out 2; have hfz14_3 := blk_frozen BK301.out 3) | ((with_reducible refine gate_callee (f := 143) rfl ?_); refine gl 5 Try.func143 #[.int .i64 a0_0, .int .i64 1, .int .i64 60] ?_; (with_reducible refine (spec_l1In.calls a0_0 1 60 true _ A2.out).mono ?_); rintro e w' ⟨rfl, ⟨nd, rfl⟩⟩; refine ⟨_, rfl, ?_⟩) | (go_at_call 143; (with_reducible refine (spec_l1In.calls a0_1 0 (wrap64 (a0_0 - 1)) false _ A4.out).mono ?_); rintro e w' ⟨rfl, ⟨nd, rfl⟩⟩))
  go_ret
  exact ⟨by first | rfl | (simp [errW_none, errW_some] <;> rfl) | (simp [*, errW_none, errW_some] <;> rfl), bw HB⟩
 subst c5
 have H1 : ((spec_l1In.f a0_2 (wrap64 (a0_1 + 1)) a0_0).bind fun t304 => (if t304 = true then ((spec_l1In.f a0_3 1 60).bind fun t305 => (some t305)) else (some false))) = some r := by rw [if_pos rfl] at H; exact H
 clear H
 have H := H1
 clear H1
 replace H := Option.bind_eq_some_iff.mp H
 obtain ⟨t304, A60, H⟩ := H
 (try dsimp only at H)
 have A6 := Aside0.mk A60
 clear A60
 by_cases c7 : t304 = true
 rotate_left
 ·replace c7 := Bool.eq_false_iff.mpr c7
  subst c7
  have H1 : (some false) = some r := by rw [if_neg (show ¬ (false = true) by decide)] at H; exact H
  clear H
  have H := H1
  clear H1
  obtain rfl := Option.some.inj H
  go_enter Try.func218, Try.ntmps218
  go_wp2_with (first | ((with_reducible refine gate_dst (N := 1) rfl ?_); refine bx 1 #[.int .i64 a0_0, .int .i64 a0_1, .int .i64 a0_2, .int .i64 a0_3] 100 ?_; intro gb301 hg w11 hbox hb; have BK301 := Aside0.mk (hbox); have GW301 := ge HB hg; have GE301 := ge HB hg; replace HB := bs HB hb; clear hb hbox hg; have hcz12_0 := bc0 BK301; have hcz12_1 := bc1 BK301; have hcz12_2 := bc2 BK301; have hcz12_3 := bc3 BK301; have hfz12_0 := blk_frozen BK301.out 0; have hfz12_1 := blk_frozen BK301.out 1; have hfz12_2 := blk_frozen BK301.out 2; have hfz12_3 := blk_frozen BK301.out 3) | ((with_reducible refine gate_callee (f := 143) rfl ?_); refine gl 5 Try.func143 #[.int .i64 a0_0, .int .i64 1, .int .i64 60] ?_; (with_reducible refine (spec_l1In.calls a0_0 1 60 true _ A2.out).mono ?_); rintro e w' ⟨rfl, ⟨nd, rfl⟩⟩; refine ⟨_, rfl, ?_⟩) | (go_at_call 143; (with_reducible refine (spec_l1In.calls a0_1 0 (wrap64 (a0_0 - 1)) true _ A4.out).mono ?_); rintro e w' ⟨rfl, ⟨nd, rfl⟩⟩) | (go_at_call 143; (with_reducible refine (spec_l1In.calls a0_2 (wrap64 (a0_1 + 1)) a0_0 false _ A6.out).mono ?_); rintro e w' ⟨rfl, ⟨nd, rfl⟩⟩))
  go_ret
  exact ⟨by first | rfl | (simp [errW_none, errW_some] <;> rfl) | (simp [*, errW_none, errW_some] <;> rfl), bw HB⟩
 subst c7
 have H1 : ((spec_l1In.f a0_3 1 60).bind fun t305 => (some t305)) = some r := by rw [if_pos rfl] at H; exact H
 clear H
 have H := H1
 clear H1
 replace H := Option.bind_eq_some_iff.mp H
 obtain ⟨t305, A80, H⟩ := H
 (try dsimp only at H)
 have A8 := Aside0.mk A80
 clear A80
 obtain rfl := Option.some.inj H
 go_enter Try.func218, Try.ntmps218
 go_wp2_with (first | ((with_reducible refine gate_dst (N := 1) rfl ?_); refine bx 1 #[.int .i64 a0_0, .int .i64 a0_1, .int .i64 a0_2, .int .i64 a0_3] 100 ?_; intro gb301 hg w9 hbox hb; have BK301 := Aside0.mk (hbox); have GW301 := ge HB hg; have GE301 := ge HB hg; replace HB := bs HB hb; clear hb hbox hg; have hcz10_0 := bc0 BK301; have hcz10_1 := bc1 BK301; have hcz10_2 := bc2 BK301; have hcz10_3 := bc3 BK301; have hfz10_0 := blk_frozen BK301.out 0; have hfz10_1 := blk_frozen BK301.out 1; have hfz10_2 := blk_frozen BK301.out 2; have hfz10_3 := blk_frozen BK301.out 3) | ((with_reducible refine gate_callee (f := 143) rfl ?_); refine gl 5 Try.func143 #[.int .i64 a0_0, .int .i64 1, .int .i64 60] ?_; (with_reducible refine (spec_l1In.calls a0_0 1 60 true _ A2.out).mono ?_); rintro e w' ⟨rfl, ⟨nd, rfl⟩⟩; refine ⟨_, rfl, ?_⟩) | (go_at_call 143; (with_reducible refine (spec_l1In.calls a0_1 0 (wrap64 (a0_0 - 1)) true _ A4.out).mono ?_); rintro e w' ⟨rfl, ⟨nd, rfl⟩⟩) | (go_at_call 143; (with_reducible refine (spec_l1In.calls a0_2 (wrap64 (a0_1 + 1)) a0_0 true _ A6.out).mono ?_); rintro e w' ⟨rfl, ⟨nd, rfl⟩⟩) | (go_at_call 143; (with_reducible refine (spec_l1In.calls a0_3 1 60 t305 _ A8.out).mono ?_); rintro e w' ⟨rfl, ⟨nd, rfl⟩⟩))
 go_ret
 exact ⟨by first | rfl | (simp [errW_none, errW_some] <;> rfl) | (simp [*, errW_none, errW_some] <;> rfl), bw HB⟩
def spec_siLevel.f (a0_0 : Int) (a0_1 : Int) (a0_2 : Int) (a0_3 : Int) (a1_0 : Int) (a1_1 : Bool) : Option (Bool) := (spec_siGood.f a0_0 a0_1 a0_2 a0_3).bind fun t308 => (if t308 = true then ((spec_l1In.f a1_0 0 a0_0).bind fun t309 => (some t309)) else (some false))
set_option maxHeartbeats 8000000 in
set_option maxRecDepth 100000 in
theorem spec_siLevel.calls (a0_0 : Int) (a0_1 : Int) (a0_2 : Int) (a0_3 : Int) (a1_0 : Int) (a1_1 : Bool) (r : Bool) (w : World) (h : spec_siLevel.f a0_0 a0_1 a0_2 a0_3 a1_0 a1_1 = some r) :
  Calls Try.prog 215 #[.agg #[.int .i64 a0_0, .int .i64 a0_1, .int .i64 a0_2, .int .i64 a0_3], .agg #[.int .i64 a1_0, .bool a1_1]] w fun e w' => e = .returned (.bool r) ∧ Below w.heap.size w w' := by
 have hu100 := Try.underlying100
 have hu102 := Try.underlying102
 have HB := Aside0.mk (Below.refl w.heap.size w)
 have H : ((spec_siGood.f a0_0 a0_1 a0_2 a0_3).bind fun t308 => (if t308 = true then ((spec_l1In.f a1_0 0 a0_0).bind fun t309 => (some t309)) else (some false))) = some r := h
 clear h
 replace H := Option.bind_eq_some_iff.mp H
 obtain ⟨t308, A30, H⟩ := H
 (try dsimp only at H)
 have A3 := Aside0.mk A30
 clear A30
 by_cases c4 : t308 = true
 rotate_left
 ·replace c4 := Bool.eq_false_iff.mpr c4
  subst c4
  have H1 : (some false) = some r := by rw [if_neg (show ¬ (false = true) by decide)] at H; exact H
  clear H
  have H := H1
  clear H1
  obtain rfl := Option.some.inj H
  go_enter Try.func215, Try.ntmps215
  go_wp2_with (first | ((with_reducible refine gate_dst (N := 2) rfl ?_); refine bx 2 #[.int .i64 a0_0, .int .i64 a0_1, .int .i64 a0_2, .int .i64 a0_3] 100 ?_; intro gb306 hg w13 hbox hb; have BK306 := Aside0.mk (hbox); have GW306 := ge HB hg; have GE306 := ge HB hg; replace HB := bs HB hb; clear hb hbox hg) | ((with_reducible refine gate_dst (N := 3) rfl ?_); refine bx 3 #[.int .i64 a1_0, .bool a1_1] 102 ?_; intro gb307 hg w14 hbox hb; have BK307 := Aside0.mk (hbox); have GW307 := ge HB hg; have GE307 := ge HB hg; replace HB := bs HB hb; have NB306_307 := nl BK306 hg; have NB307_306 := nr BK306 hg; replace BK306 := bb BK306 hb; clear hb hbox hg; have hnb15 := NB306_307.out; have hnc15 := NB307_306.out; have hcz16_0 := bc0 BK306; have hcz16_1 := bc1 BK306; have hcz16_2 := bc2 BK306; have hcz16_3 := bc3 BK306; have hfz16_0 := blk_frozen BK306.out 0; have hfz16_1 := blk_frozen BK306.out 1; have hfz16_2 := blk_frozen BK306.out 2; have hfz16_3 := blk_frozen BK306.out 3) | ((with_reducible refine gate_callee (f := 218) rfl ?_); refine gl 6 Try.func218 #[.agg #[.int .i64 a0_0, .int .i64 a0_1, .int .i64 a0_2, .int .i64 a0_3]] ?_; (with_reducible refine (spec_siGood.calls a0_0 a0_1 a0_2 a0_3 false _ A3.out).mono ?_); rintro e w17 ⟨rfl, hb⟩; refine ⟨_, rfl, ?_⟩; replace BK306 := bb BK306 hb; replace BK307 := bb BK307 hb; replace HB := bs HB hb; (try clear hb)))
  go_ret
  exact ⟨by first | rfl | (simp [errW_none, errW_some] <;> rfl) | (simp [*, errW_none, errW_some] <;> rfl), bw HB⟩
 subst c4
 have H1 : ((spec_l1In.f a1_0 0 a0_0).bind fun t309 => (some t309)) = some r := by rw [if_pos rfl] at H; exact H
 clear H
 have H := H1
 clear H1
 replace H := Option.bind_eq_some_iff.mp H
 obtain ⟨t309, A50, H⟩ := H
 (try dsimp only at H)
 have A5 := Aside0.mk A50
 clear A50
 obtain rfl := Option.some.inj H
 go_enter Try.func215, Try.ntmps215
 go_wp2_with (first | ((with_reducible refine gate_dst (N := 2) rfl ?_); refine bx 2 #[.int .i64 a0_0, .int .i64 a0_1, .int .i64 a0_2, .int .i64 a0_3] 100 ?_; intro gb306 hg w6 hbox hb; have BK306 := Aside0.mk (hbox); have GW306 := ge HB hg; have GE306 := ge HB hg; replace HB := bs HB hb; clear hb hbox hg) | ((with_reducible refine gate_dst (N := 3) rfl ?_); refine bx 3 #[.int .i64 a1_0, .bool a1_1] 102 ?_; intro gb307 hg w7 hbox hb; have BK307 := Aside0.mk (hbox); have GW307 := ge HB hg; have GE307 := ge HB hg; replace HB := bs HB hb; have NB306_307 := nl BK306 hg; have NB307_306 := nr BK306 hg; replace BK306 := bb BK306 hb; clear hb hbox hg; have hnb8 := NB306_307.out; have hnc8 := NB307_306.out; have hcz9_0 := bc0 BK306; have hcz9_1 := bc1 BK306; have hcz9_2 := bc2 BK306; have hcz9_3 := bc3 BK306; have hfz9_0 := blk_frozen BK306.out 0; have hfz9_1 := blk_frozen BK306.out 1; have hfz9_2 := blk_frozen BK306.out 2; have hfz9_3 := blk_frozen BK306.out 3) | ((with_reducible refine gate_callee (f := 218) rfl ?_); refine gl 6 Try.func218 #[.agg #[.int .i64 a0_0, .int .i64 a0_1, .int .i64 a0_2, .int .i64 a0_3]] ?_; (with_reducible refine (spec_siGood.calls a0_0 a0_1 a0_2 a0_3 true _ A3.out).mono ?_); rintro e w10 ⟨rfl, hb⟩; refine ⟨_, rfl, ?_⟩; replace BK306 := bb BK306 hb; replace BK307 := bb BK307 hb; replace HB := bs HB hb; (try clear hb); have hcz11_0 := bc0 BK307; have hcz11_1 := bc1 BK307; have hfz11_0 := blk_frozen BK307.out 0; have hfz11_1 := blk_frozen BK307.out 1; have hcz12_0 := bc0 BK306; have hcz12_1 := bc1 BK306; have hcz12_2 := bc2 BK306; have hcz12_3 := bc3 BK306; have hfz12_0 := blk_frozen BK306.out 0; have hfz12_1 := blk_frozen BK306.out 1; have hfz12_2 := blk_frozen BK306.out 2; have hfz12_3 := blk_frozen BK306.out 3) | (go_at_call 143; (with_reducible refine (spec_l1In.calls a1_0 0 a0_0 t309 _ A5.out).mono ?_); rintro e w' ⟨rfl, ⟨nd, rfl⟩⟩))
 go_ret
 exact ⟨by first | rfl | (simp [errW_none, errW_some] <;> rfl) | (simp [*, errW_none, errW_some] <;> rfl), bw HB⟩
def spec_siAsked.f (k : Nat) (a0_0 : Int) (a0_1 : Int) (a0_2 : Int) (a0_3 : Int) (a1_0 : Int) (a1_1 : Bool) (l2 : List Int) : Option (Bool) := (spec_siLevel.f a0_0 a0_1 a0_2 a0_3 a1_0 a1_1).bind fun t312 => (if t312 = true then (if (l2.length : Int) ≤ 100 then ((spec_l1All.f k l2 0 60).bind fun t313 => (some t313)) else (some false)) else (some false))
set_option maxHeartbeats 8000000 in
set_option maxRecDepth 100000 in
theorem spec_siAsked.calls (k : Nat) (a0_0 : Int) (a0_1 : Int) (a0_2 : Int) (a0_3 : Int) (a1_0 : Int) (a1_1 : Bool) (A2 : Option Addr) (c2 : Nat) (l2 : List Int) (r : Bool) (w : World) (hr2 : Kd.C (Kd.int .i64) w A2 l2.length l2) (hc2 : l2.length ≤ c2) (h : spec_siAsked.f k a0_0 a0_1 a0_2 a0_3 a1_0 a1_1 l2 = some r) :
  Calls Try.prog 210 #[.agg #[.int .i64 a0_0, .int .i64 a0_1, .int .i64 a0_2, .int .i64 a0_3], .agg #[.int .i64 a1_0, .bool a1_1], .slice A2 l2.length c2] w fun e w' => e = .returned (.bool r) ∧ Below w.heap.size w w' := by
 have hu100 := Try.underlying100
 have hu102 := Try.underlying102
 have HR2 := Aside0.mk hr2
 have HC2 := Aside0.mk hc2
 clear hr2 hc2
 have HB := Aside0.mk (Below.refl w.heap.size w)
 have H : ((spec_siLevel.f a0_0 a0_1 a0_2 a0_3 a1_0 a1_1).bind fun t312 => (if t312 = true then (if (l2.length : Int) ≤ 100 then ((spec_l1All.f k l2 0 60).bind fun t313 => (some t313)) else (some false)) else (some false))) = some r := h
 clear h
 replace H := Option.bind_eq_some_iff.mp H
 obtain ⟨t312, A40, H⟩ := H
 (try dsimp only at H)
 have A4 := Aside0.mk A40
 clear A40
 by_cases c5 : t312 = true
 rotate_left
 ·replace c5 := Bool.eq_false_iff.mpr c5
  subst c5
  have H1 : (some false) = some r := by rw [if_neg (show ¬ (false = true) by decide)] at H; exact H
  clear H
  have H := H1
  clear H1
  obtain rfl := Option.some.inj H
  go_enter Try.func210, Try.ntmps210
  go_wp2_with (first | ((with_reducible refine gate_dst (N := 3) rfl ?_); (try (refine gate_guard (by rfl) ?_; dsimp only)); refine bx 3 #[.int .i64 a0_0, .int .i64 a0_1, .int .i64 a0_2, .int .i64 a0_3] 100 ?_; intro gb310 hg w20 hbox hb; have BK310 := Aside0.mk (hbox); have GW310 := ge HB hg; have GE310 := ge HB hg; replace HB := bs HB hb; clear hb hbox hg) | ((with_reducible refine gate_dst (N := 4) rfl ?_); (try (refine gate_guard (by rfl) ?_; dsimp only)); refine bx 4 #[.int .i64 a1_0, .bool a1_1] 102 ?_; intro gb311 hg w21 hbox hb; have BK311 := Aside0.mk (hbox); have GW311 := ge HB hg; have GE311 := ge HB hg; replace HB := bs HB hb; have NB310_311 := nl BK310 hg; have NB311_310 := nr BK310 hg; replace BK310 := bb BK310 hb; clear hb hbox hg; have hnb22 := NB310_311.out; have hnc22 := NB311_310.out; have hcz23_0 := bc0 BK310; have hcz23_1 := bc1 BK310; have hcz23_2 := bc2 BK310; have hcz23_3 := bc3 BK310; have hfz23_0 := blk_frozen BK310.out 0; have hfz23_1 := blk_frozen BK310.out 1; have hfz23_2 := blk_frozen BK310.out 2; have hfz23_3 := blk_frozen BK310.out 3; have hcz24_0 := bc0 BK311; have hcz24_1 := bc1 BK311; have hfz24_0 := blk_frozen BK311.out 0; have hfz24_1 := blk_frozen BK311.out 1) | ((with_reducible refine gate_callee (f := 215) rfl ?_); refine gl 9 Try.func215 #[.agg #[.int .i64 a0_0, .int .i64 a0_1, .int .i64 a0_2, .int .i64 a0_3], .agg #[.int .i64 a1_0, .bool a1_1]] ?_; (with_reducible refine (spec_siLevel.calls a0_0 a0_1 a0_2 a0_3 a1_0 a1_1 false _ A4.out).mono ?_); rintro e w25 ⟨rfl, hb⟩; refine ⟨_, rfl, ?_⟩; replace BK310 := bb BK310 hb; replace BK311 := bb BK311 hb; replace HB := bs HB hb; (try clear hb)))
  go_ret
  exact ⟨by first | rfl | (simp [errW_none, errW_some] <;> rfl) | (simp [*, errW_none, errW_some] <;> rfl), bw HB⟩
 subst c5
 have H1 : (if (l2.length : Int) ≤ 100 then ((spec_l1All.f k l2 0 60).bind fun t313 => (some t313)) else (some false)) = some r := by rw [if_pos rfl] at H; exact H
 clear H
 have H := H1
 clear H1
 by_cases c6 : (l2.length : Int) ≤ 100
 rotate_left
 ·rw [if_neg c6] at H
  have c6b0 : decide ((l2.length : Int) ≤ 100) = false := decide_eq_false c6
  have c6b1 : decide (l2.length ≤ 100) = false := decide_eq_false (by omega)
  clear c6
  obtain rfl := Option.some.inj H
  go_enter Try.func210, Try.ntmps210
  go_wp2_with (first | ((with_reducible refine gate_dst (N := 3) rfl ?_); (try (refine gate_guard (by rfl) ?_; dsimp only)); refine bx 3 #[.int .i64 a0_0, .int .i64 a0_1, .int .i64 a0_2, .int .i64 a0_3] 100 ?_; intro gb310 hg w14 hbox hb; have BK310 := Aside0.mk (hbox); have GW310 := ge HB hg; have GE310 := ge HB hg; replace HB := bs HB hb; clear hb hbox hg) | ((with_reducible refine gate_dst (N := 4) rfl ?_); (try (refine gate_guard (by rfl) ?_; dsimp only)); refine bx 4 #[.int .i64 a1_0, .bool a1_1] 102 ?_; intro gb311 hg w15 hbox hb; have BK311 := Aside0.mk (hbox); have GW311 := ge HB hg; have GE311 := ge HB hg; replace HB := bs HB hb; have NB310_311 := nl BK310 hg; have NB311_310 := nr BK310 hg; replace BK310 := bb BK310 hb; clear hb hbox hg; have hnb16 := NB310_311.out; have hnc16 := NB311_310.out; have hcz17_0 := bc0 BK310; have hcz17_1 := bc1 BK310; have hcz17_2 := bc2 BK310; have hcz17_3 := bc3 BK310; have hfz17_0 := blk_frozen BK310.out 0; have hfz17_1 := blk_frozen BK310.out 1; have hfz17_2 := blk_frozen BK310.out 2; have hfz17_3 := blk_frozen BK310.out 3; have hcz18_0 := bc0 BK311; have hcz18_1 := bc1 BK311; have hfz18_0 := blk_frozen BK311.out 0; have hfz18_1 := blk_frozen BK311.out 1) | ((with_reducible refine gate_callee (f := 215) rfl ?_); refine gl 9 Try.func215 #[.agg #[.int .i64 a0_0, .int .i64 a0_1, .int .i64 a0_2, .int .i64 a0_3], .agg #[.int .i64 a1_0, .bool a1_1]] ?_; (with_reducible refine (spec_siLevel.calls a0_0 a0_1 a0_2 a0_3 a1_0 a1_1 true _ A4.out).mono ?_); rintro e w19 ⟨rfl, hb⟩; refine ⟨_, rfl, ?_⟩; replace BK310 := bb BK310 hb; replace BK311 := bb BK311 hb; replace HB := bs HB hb; (try clear hb)))
  go_ret
  exact ⟨by first | rfl | (simp [errW_none, errW_some] <;> rfl) | (simp [*, errW_none, errW_some] <;> rfl), bw HB⟩
 rw [if_pos c6] at H
 have c6b0 : decide ((l2.length : Int) ≤ 100) = true := decide_eq_true c6
 have c6b1 : decide (l2.length ≤ 100) = true := decide_eq_true (by omega)
 clear c6
 replace H := Option.bind_eq_some_iff.mp H
 obtain ⟨t313, A70, H⟩ := H
 (try dsimp only at H)
 have A7 := Aside0.mk A70
 clear A70
 obtain rfl := Option.some.inj H
 go_enter Try.func210, Try.ntmps210
 go_wp2_with (first | ((with_reducible refine gate_dst (N := 3) rfl ?_); (try (refine gate_guard (by rfl) ?_; dsimp only)); refine bx 3 #[.int .i64 a0_0, .int .i64 a0_1, .int .i64 a0_2, .int .i64 a0_3] 100 ?_; intro gb310 hg w8 hbox hb; have BK310 := Aside0.mk (hbox); have GW310 := ge HB hg; have GE310 := ge HB hg; replace HB := bs HB hb; clear hb hbox hg) | ((with_reducible refine gate_dst (N := 4) rfl ?_); (try (refine gate_guard (by rfl) ?_; dsimp only)); refine bx 4 #[.int .i64 a1_0, .bool a1_1] 102 ?_; intro gb311 hg w9 hbox hb; have BK311 := Aside0.mk (hbox); have GW311 := ge HB hg; have GE311 := ge HB hg; replace HB := bs HB hb; have NB310_311 := nl BK310 hg; have NB311_310 := nr BK310 hg; replace BK310 := bb BK310 hb; clear hb hbox hg; have hnb10 := NB310_311.out; have hnc10 := NB311_310.out; have hcz11_0 := bc0 BK310; have hcz11_1 := bc1 BK310; have hcz11_2 := bc2 BK310; have hcz11_3 := bc3 BK310; have hfz11_0 := blk_frozen BK310.out 0; have hfz11_1 := blk_frozen BK310.out 1; have hfz11_2 := blk_frozen BK310.out 2; have hfz11_3 := blk_frozen BK310.out 3; have hcz12_0 := bc0 BK311; have hcz12_1 := bc1 BK311; have hfz12_0 := blk_frozen BK311.out 0; have hfz12_1 := blk_frozen BK311.out 1) | ((with_reducible refine gate_callee (f := 215) rfl ?_); refine gl 9 Try.func215 #[.agg #[.int .i64 a0_0, .int .i64 a0_1, .int .i64 a0_2, .int .i64 a0_3], .agg #[.int .i64 a1_0, .bool a1_1]] ?_; (with_reducible refine (spec_siLevel.calls a0_0 a0_1 a0_2 a0_3 a1_0 a1_1 true _ A4.out).mono ?_); rintro e w13 ⟨rfl, hb⟩; refine ⟨_, rfl, ?_⟩; replace BK310 := bb BK310 hb; replace BK311 := bb BK311 hb; replace HB := bs HB hb; (try clear hb)) | (go_at_call 170; (with_reducible refine (spec_l1All.calls k _ _ l2 0 60 t313 _ ?side1 ?side2 A7.out).mono ?_); (case side1 => exact ck HR2 HB); (case side2 => exact HC2.out); rintro e w' ⟨rfl, ⟨nd, rfl⟩⟩))
 go_ret
 exact ⟨by first | rfl | (simp [errW_none, errW_some] <;> rfl) | (simp [*, errW_none, errW_some] <;> rfl), bw HB⟩
def spec_l1Most.f (a0 : Int) (a1 : Int) : Option (Int) := if a0 > a1 then (some a0) else (some a1)
set_option maxHeartbeats 8000000 in
set_option maxRecDepth 100000 in
theorem spec_l1Most.calls (a0 : Int) (a1 : Int) (r : Int) (w : World) (h : spec_l1Most.f a0 a1 = some r) :
  Calls Try.prog 173 #[.int .i64 a0, .int .i64 a1] w fun e w' => e = .returned (.int .i64 r) ∧ Drawn0 w w' := by
 have H : (if a0 > a1 then (some a0) else (some a1)) = some r := h
 clear h
 by_cases c3 : a0 > a1
 rotate_left
 ·rw [if_neg c3] at H
  have c3b0 : decide (a1 < a0) = false := decide_eq_false c3
  clear c3
  obtain rfl := Option.some.inj H
  go_enter Try.func173, Try.ntmps173
  go_wp2
  go_ret
  exact ⟨by first | rfl | (simp; done) | (simp [*]; done), by repeat (first | exact Drawn0.refl _ | apply Drawn0.step)⟩
 rw [if_pos c3] at H
 have c3b0 : decide (a1 < a0) = true := decide_eq_true c3
 clear c3
 obtain rfl := Option.some.inj H
 go_enter Try.func173, Try.ntmps173
 go_wp2
 go_ret
 exact ⟨by first | rfl | (simp; done) | (simp [*]; done), by repeat (first | exact Drawn0.refl _ | apply Drawn0.step)⟩
def spec_l1Least.f (a0 : Int) (a1 : Int) : Option (Int) := if a0 < a1 then (some a0) else (some a1)
set_option maxHeartbeats 8000000 in
set_option maxRecDepth 100000 in
theorem spec_l1Least.calls (a0 : Int) (a1 : Int) (r : Int) (w : World) (h : spec_l1Least.f a0 a1 = some r) :
  Calls Try.prog 174 #[.int .i64 a0, .int .i64 a1] w fun e w' => e = .returned (.int .i64 r) ∧ Drawn0 w w' := by
 have H : (if a0 < a1 then (some a0) else (some a1)) = some r := h
 clear h
 by_cases c3 : a0 < a1
 rotate_left
 ·rw [if_neg c3] at H
  have c3b0 : decide (a0 < a1) = false := decide_eq_false c3
  clear c3
  obtain rfl := Option.some.inj H
  go_enter Try.func174, Try.ntmps174
  go_wp2
  go_ret
  exact ⟨by first | rfl | (simp; done) | (simp [*]; done), by repeat (first | exact Drawn0.refl _ | apply Drawn0.step)⟩
 rw [if_pos c3] at H
 have c3b0 : decide (a0 < a1) = true := decide_eq_true c3
 clear c3
 obtain rfl := Option.some.inj H
 go_enter Try.func174, Try.ntmps174
 go_wp2
 go_ret
 exact ⟨by first | rfl | (simp; done) | (simp [*]; done), by repeat (first | exact Drawn0.refl _ | apply Drawn0.step)⟩
end Go.Proofs.Ytmlkdkeocbhajaa.K
