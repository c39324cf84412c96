-- Functions of the program as plain functions, and that the calls come to them. Written by a program (ownprint.py); nothing here is trusted: Lean checks it.
import Derived.Test.YtmlkdkeocbhajaaQsGvCut
import Derived.Test.YtmlkdkeocbhajaaQsKx0
import Derived.Test.YtmlkdkeocbhajaaQsGvCell
import Derived.Test.YtmlkdkeocbhajaaQsKx1
import Derived.Test.YtmlkdkeocbhajaaQsKx2
import Derived.Test.YtmlkdkeocbhajaaQsKx3
import Derived.Test.YtmlkdkeocbhajaaQsKx4
import Derived.Test.YtmlkdkeocbhajaaQsKx5
namespace Go.Proofs.Ytmlkdkeocbhajaa.K
open Go.RowKit Go.Proofs.YtmlkdkeocbhajaaW.PrintWords Go.Proofs.YtmlkdkeocbhajaaW.PrintLast Go.Proofs.YtmlkdkeocbhajaaW.PrintMore Go.Proofs.Ytmlkdkeocbhajaa.Sq
attribute [local go_sem] max2_int min2_int max_two min_two max_three min_three max_four min_four   -- for this text's walks alone
set_option linter.unusedVariables false
set_option linter.unusedSimpArgs false
attribute [local go_sem high] eqA102
set_option maxHeartbeats 80000000 in
set_option maxRecDepth 100000 in
theorem laws_FnSiphonsKeepWater.calls (k : Nat) (A0 : Option Addr) (c0 : Nat) (l0 : List Int) (A1 : Option Addr) (c1 : Nat) (l1 : List Int) (r : Bool) (w : World) (hr0 : Kd.C (Kd.int .u8) w A0 l0.length l0) (hc0 : l0.length ≤ c0) (hr1 : Kd.C (Kd.int .u8) w A1 l1.length l1) (hc1 : l1.length ≤ c1) (hrt : Aside0 (r = true)) (h : laws_FnSiphonsKeepWater.f k l0 l1 = some r) :
  Calls Try.prog 8 #[.slice A0 l0.length c0, .slice A1 l1.length c1] w fun e w' => e = .returned (.bool r) ∧ Below w.heap.size w w' := by
 have hu100 := Try.underlying100
 have hu102 := Try.underlying102
 have HR0 := Aside0.mk hr0
 have HC0 := Aside0.mk hc0
 clear hr0 hc0
 have HR1 := Aside0.mk hr1
 have HC1 := Aside0.mk hc1
 clear hr1 hc1
 have HB := Aside0.mk (Below.refl w.heap.size w)
 have H : ((laws_big.f l0 l1).bind fun t459 => (if t459 = true then (some true) else ((spec_DrawOutsOf.f k l0).bind fun bt460 => ((impl_OutsOf.f k bt460.1 bt460.2.1 bt460.2.2.1 bt460.2.2.2.1 bt460.2.2.2.2.1 bt460.2.2.2.2.2.1 bt460.2.2.2.2.2.2).bind fun bt471 => ((spec_OutsOf.f k bt460.1 bt460.2.1 bt460.2.2.1 bt460.2.2.2.1 bt460.2.2.2.2.1 bt460.2.2.2.2.2.1 bt460.2.2.2.2.2.2).bind fun bt475 => ((impl_LevelsOf.f k bt460.1 bt460.2.1 bt460.2.2.1 bt460.2.2.2.1 bt460.2.2.2.2.1 bt460.2.2.2.2.2.1 bt460.2.2.2.2.2.2).bind fun bt479 => ((spec_LevelsOf.f k bt460.1 bt460.2.1 bt460.2.2.1 bt460.2.2.2.1 bt460.2.2.2.2.1 bt460.2.2.2.2.2.1 bt460.2.2.2.2.2.2).bind fun bt483 => ((impl_SpiltOf.f k bt460.1 bt460.2.1 bt460.2.2.1 bt460.2.2.2.1 bt460.2.2.2.2.1 bt460.2.2.2.2.2.1 bt460.2.2.2.2.2.2).bind fun bt487 => ((spec_SpiltOf.f k bt460.1 bt460.2.1 bt460.2.2.1 bt460.2.2.2.1 bt460.2.2.2.2.1 bt460.2.2.2.2.2.1 bt460.2.2.2.2.2.2).bind fun bt489 => (if (bt471.2 != bt475.2) = true then (laws_FnSiphonsKeepWater.j0 k l1 bt460.2.2.2.2.2.2 bt471.1 bt471.2 bt479.1 bt487.1 true bt460.1 bt460.2.1 bt460.2.2.1 bt460.2.2.2.1 bt460.2.2.2.2.1 bt460.2.2.2.2.2.1) else ((laws_eSame.f k bt471.1 bt475.1).bind fun t491 => (if t491 = true then (if (bt479.2 != bt483.2) = true then (laws_FnSiphonsKeepWater.j0 k l1 bt460.2.2.2.2.2.2 bt471.1 bt471.2 bt479.1 bt487.1 true bt460.1 bt460.2.1 bt460.2.2.1 bt460.2.2.2.1 bt460.2.2.2.2.1 bt460.2.2.2.2.2.1) else ((laws_eLevels.f k bt479.1 bt483.1).bind fun t492 => (if t492 = true then (if (bt487.2 != bt489.2) = true then (laws_FnSiphonsKeepWater.j0 k l1 bt460.2.2.2.2.2.2 bt471.1 bt471.2 bt479.1 bt487.1 true bt460.1 bt460.2.1 bt460.2.2.1 bt460.2.2.2.1 bt460.2.2.2.2.1 bt460.2.2.2.2.2.1) else (if bt487.1 = bt489.1 then (if (bt479.2 != bt471.2) = true then (laws_FnSiphonsKeepWater.j0 k l1 bt460.2.2.2.2.2.2 bt471.1 bt471.2 bt479.1 bt487.1 true bt460.1 bt460.2.1 bt460.2.2.1 bt460.2.2.2.1 bt460.2.2.2.2.1 bt460.2.2.2.2.2.1) else (laws_FnSiphonsKeepWater.j0 k l1 bt460.2.2.2.2.2.2 bt471.1 bt471.2 bt479.1 bt487.1 (bt487.2 != bt471.2) bt460.1 bt460.2.1 bt460.2.2.1 bt460.2.2.2.1 bt460.2.2.2.2.1 bt460.2.2.2.2.2.1)) else (laws_FnSiphonsKeepWater.j0 k l1 bt460.2.2.2.2.2.2 bt471.1 bt471.2 bt479.1 bt487.1 true bt460.1 bt460.2.1 bt460.2.2.1 bt460.2.2.2.1 bt460.2.2.2.2.1 bt460.2.2.2.2.2.1))) else (laws_FnSiphonsKeepWater.j0 k l1 bt460.2.2.2.2.2.2 bt471.1 bt471.2 bt479.1 bt487.1 true bt460.1 bt460.2.1 bt460.2.2.1 bt460.2.2.2.1 bt460.2.2.2.2.1 bt460.2.2.2.2.2.1)))) else (laws_FnSiphonsKeepWater.j0 k l1 bt460.2.2.2.2.2.2 bt471.1 bt471.2 bt479.1 bt487.1 true bt460.1 bt460.2.1 bt460.2.2.1 bt460.2.2.2.1 bt460.2.2.2.2.1 bt460.2.2.2.2.2.1))))))))))))) = some r := h
 clear h
 replace H := Option.bind_eq_some_iff.mp H
 obtain ⟨t459, A30, H⟩ := H
 (try dsimp only at H)
 have A3 := Aside0.mk A30
 clear A30
 by_cases c4 : t459 = true
 ·subst c4
  have H1 : (some true) = some r := by rw [if_pos rfl] at H; exact H
  clear H
  have H := H1
  clear H1
  obtain rfl := Option.some.inj H
  go_enter Try.func8, Try.ntmps8
  go_wp2_with (first | ((with_reducible refine gate_callee (f := 10) rfl ?_); refine gl 55 Try.func10 #[.slice A0 l0.length c0, .slice A1 l1.length c1] ?_; (with_reducible refine (laws_big.calls _ _ l0 _ _ l1 true _ ?side1 ?side2 ?side3 ?side4 A3.out).mono ?_); (case side1 => repeat (first | exact HR0.out | (with_reducible refine Kd.C_alloc ?_ _) | (with_reducible refine Kd.C_drewN ?_ _) | (with_reducible refine Kd.C_drew ?_))); (case side2 => exact HC0.out); (case side3 => repeat (first | exact HR1.out | (with_reducible refine Kd.C_alloc ?_ _) | (with_reducible refine Kd.C_drewN ?_ _) | (with_reducible refine Kd.C_drew ?_))); (case side4 => exact HC1.out); rintro e w' ⟨rfl, ⟨nd, rfl⟩⟩; refine ⟨_, rfl, ?_⟩))
  go_ret
  exact ⟨by first | rfl | (simp [errW_none, errW_some] <;> rfl) | (simp [*, errW_none, errW_some] <;> rfl), bw HB⟩
 replace c4 := Bool.eq_false_iff.mpr c4
 subst c4
 have H1 : ((spec_DrawOutsOf.f k l0).bind fun bt460 => ((impl_OutsOf.f k bt460.1 bt460.2.1 bt460.2.2.1 bt460.2.2.2.1 bt460.2.2.2.2.1 bt460.2.2.2.2.2.1 bt460.2.2.2.2.2.2).bind fun bt471 => ((spec_OutsOf.f k bt460.1 bt460.2.1 bt460.2.2.1 bt460.2.2.2.1 bt460.2.2.2.2.1 bt460.2.2.2.2.2.1 bt460.2.2.2.2.2.2).bind fun bt475 => ((impl_LevelsOf.f k bt460.1 bt460.2.1 bt460.2.2.1 bt460.2.2.2.1 bt460.2.2.2.2.1 bt460.2.2.2.2.2.1 bt460.2.2.2.2.2.2).bind fun bt479 => ((spec_LevelsOf.f k bt460.1 bt460.2.1 bt460.2.2.1 bt460.2.2.2.1 bt460.2.2.2.2.1 bt460.2.2.2.2.2.1 bt460.2.2.2.2.2.2).bind fun bt483 => ((impl_SpiltOf.f k bt460.1 bt460.2.1 bt460.2.2.1 bt460.2.2.2.1 bt460.2.2.2.2.1 bt460.2.2.2.2.2.1 bt460.2.2.2.2.2.2).bind fun bt487 => ((spec_SpiltOf.f k bt460.1 bt460.2.1 bt460.2.2.1 bt460.2.2.2.1 bt460.2.2.2.2.1 bt460.2.2.2.2.2.1 bt460.2.2.2.2.2.2).bind fun bt489 => (if (bt471.2 != bt475.2) = true then (laws_FnSiphonsKeepWater.j0 k l1 bt460.2.2.2.2.2.2 bt471.1 bt471.2 bt479.1 bt487.1 true bt460.1 bt460.2.1 bt460.2.2.1 bt460.2.2.2.1 bt460.2.2.2.2.1 bt460.2.2.2.2.2.1) else ((laws_eSame.f k bt471.1 bt475.1).bind fun t491 => (if t491 = true then (if (bt479.2 != bt483.2) = true then (laws_FnSiphonsKeepWater.j0 k l1 bt460.2.2.2.2.2.2 bt471.1 bt471.2 bt479.1 bt487.1 true bt460.1 bt460.2.1 bt460.2.2.1 bt460.2.2.2.1 bt460.2.2.2.2.1 bt460.2.2.2.2.2.1) else ((laws_eLevels.f k bt479.1 bt483.1).bind fun t492 => (if t492 = true then (if (bt487.2 != bt489.2) = true then (laws_FnSiphonsKeepWater.j0 k l1 bt460.2.2.2.2.2.2 bt471.1 bt471.2 bt479.1 bt487.1 true bt460.1 bt460.2.1 bt460.2.2.1 bt460.2.2.2.1 bt460.2.2.2.2.1 bt460.2.2.2.2.2.1) else (if bt487.1 = bt489.1 then (if (bt479.2 != bt471.2) = true then (laws_FnSiphonsKeepWater.j0 k l1 bt460.2.2.2.2.2.2 bt471.1 bt471.2 bt479.1 bt487.1 true bt460.1 bt460.2.1 bt460.2.2.1 bt460.2.2.2.1 bt460.2.2.2.2.1 bt460.2.2.2.2.2.1) else (laws_FnSiphonsKeepWater.j0 k l1 bt460.2.2.2.2.2.2 bt471.1 bt471.2 bt479.1 bt487.1 (bt487.2 != bt471.2) bt460.1 bt460.2.1 bt460.2.2.1 bt460.2.2.2.1 bt460.2.2.2.2.1 bt460.2.2.2.2.2.1)) else (laws_FnSiphonsKeepWater.j0 k l1 bt460.2.2.2.2.2.2 bt471.1 bt471.2 bt479.1 bt487.1 true bt460.1 bt460.2.1 bt460.2.2.1 bt460.2.2.2.1 bt460.2.2.2.2.1 bt460.2.2.2.2.2.1))) else (laws_FnSiphonsKeepWater.j0 k l1 bt460.2.2.2.2.2.2 bt471.1 bt471.2 bt479.1 bt487.1 true bt460.1 bt460.2.1 bt460.2.2.1 bt460.2.2.2.1 bt460.2.2.2.2.1 bt460.2.2.2.2.2.1)))) else (laws_FnSiphonsKeepWater.j0 k l1 bt460.2.2.2.2.2.2 bt471.1 bt471.2 bt479.1 bt487.1 true bt460.1 bt460.2.1 bt460.2.2.1 bt460.2.2.2.1 bt460.2.2.2.2.1 bt460.2.2.2.2.2.1))))))))))) = some r := by rw [if_neg (show ¬ (false = true) by decide)] at H; exact H
 clear H
 have H := H1
 clear H1
 replace H := Option.bind_eq_some_iff.mp H
 obtain ⟨⟨t460, t461, t462, t463, t464, t465, t466⟩, A50, H⟩ := H
 (try dsimp only at H)
 have A5 := Aside0.mk A50
 clear A50
 replace H := Option.bind_eq_some_iff.mp H
 obtain ⟨⟨t471, t474⟩, A60, H⟩ := H
 (try dsimp only at H)
 have A6 := Aside0.mk A60
 clear A60
 replace H := Option.bind_eq_some_iff.mp H
 obtain ⟨⟨t475, t478⟩, A70, H⟩ := H
 (try dsimp only at H)
 have A7 := Aside0.mk A70
 clear A70
 replace H := Option.bind_eq_some_iff.mp H
 obtain ⟨⟨t479, t482⟩, A80, H⟩ := H
 (try dsimp only at H)
 have A8 := Aside0.mk A80
 clear A80
 replace H := Option.bind_eq_some_iff.mp H
 obtain ⟨⟨t483, t486⟩, A90, H⟩ := H
 (try dsimp only at H)
 have A9 := Aside0.mk A90
 clear A90
 replace H := Option.bind_eq_some_iff.mp H
 obtain ⟨⟨t487, t488⟩, A100, H⟩ := H
 (try dsimp only at H)
 have A10 := Aside0.mk A100
 clear A100
 replace H := Option.bind_eq_some_iff.mp H
 obtain ⟨⟨t489, t490⟩, A110, H⟩ := H
 (try dsimp only at H)
 have A11 := Aside0.mk A110
 clear A110
 have HC12 := Aside0.mk H
 clear H
 go_enter Try.func8, Try.ntmps8
 go_upto_region 10 with (first | ((with_reducible refine gate_callee (f := 10) rfl ?_); refine gl 55 Try.func10 #[.slice A0 l0.length c0, .slice A1 l1.length c1] ?_; (with_reducible refine (laws_big.calls _ _ l0 _ _ l1 false _ ?side1 ?side2 ?side3 ?side4 A3.out).mono ?_); (case side1 => repeat (first | exact HR0.out | (with_reducible refine Kd.C_alloc ?_ _) | (with_reducible refine Kd.C_drewN ?_ _) | (with_reducible refine Kd.C_drew ?_))); (case side2 => exact HC0.out); (case side3 => repeat (first | exact HR1.out | (with_reducible refine Kd.C_alloc ?_ _) | (with_reducible refine Kd.C_drewN ?_ _) | (with_reducible refine Kd.C_drew ?_))); (case side4 => exact HC1.out); rintro e w' ⟨rfl, ⟨nd, rfl⟩⟩; refine ⟨_, rfl, ?_⟩) | ((with_reducible refine gate_callee (f := 98) rfl ?_); refine gl 58 Try.func98 #[.slice A0 l0.length c0] ?_; (with_reducible refine (spec_DrawOutsOf.calls k _ _ l0 t460 t461 t462 t463 t464 t465 t466 _ ?side1 ?side2 A5.out).mono ?_); (case side1 => repeat (first | exact HR0.out | (with_reducible refine Kd.C_alloc ?_ _) | (with_reducible refine Kd.C_drewN ?_ _) | (with_reducible refine Kd.C_drew ?_))); (case side2 => exact HC0.out); rintro e w13 ⟨v467, rfl, ho0, hb⟩; refine ⟨_, rfl, ?_⟩; have HO468 := lo ho0 HB; replace HB := bs HB hb; (try clear hb); (try clear ho0)) | ((with_reducible refine gate_dst (N := 5) rfl ?_); (try (refine gate_guard (by rfl) ?_; dsimp only)); refine bx 5 #[.int .i64 0, .int .i64 0, .int .i64 0, .int .i64 0] 100 ?_; intro gb469 hg w14 hbox hb; replace HO468 := rb HO468 hb; have BK469 := Aside0.mk (hbox); have GW469 := ge HB hg; have GE469 := ge HB hg; replace HB := bs HB hb; clear hb hbox hg) | ((with_reducible refine gate_dst (N := 6) rfl ?_); (try (refine gate_guard (by rfl) ?_; dsimp only)); refine bx 6 #[.int .i64 0, .bool false] 102 ?_; intro gb470 hg w15 hbox hb; replace HO468 := rb HO468 hb; have BK470 := Aside0.mk (hbox); have GW470 := ge HB hg; have GE470 := ge HB hg; replace HB := bs HB hb; have NB469_470 := nl BK469 hg; have NB470_469 := nr BK469 hg; replace BK469 := bb BK469 hb; clear hb hbox hg; have hnb16 := NB469_470.out; have hnc16 := NB470_469.out; have hcz17_0 := bc0 BK469; have hcz17_1 := bc1 BK469; have hcz17_2 := bc2 BK469; have hcz17_3 := bc3 BK469; have hfz17_0 := blk_frozen BK469.out 0; have hfz17_1 := blk_frozen BK469.out 1; have hfz17_2 := blk_frozen BK469.out 2; have hfz17_3 := blk_frozen BK469.out 3; have hcz18_0 := bc0 BK470; have hcz18_1 := bc1 BK470; have hfz18_0 := blk_frozen BK470.out 0; have hfz18_1 := blk_frozen BK470.out 1; obtain ⟨Ao19, co19, eo19⟩ := Kd.R_slice HO468.out; subst eo19) | ((with_reducible refine gate_callee (f := 99) rfl ?_); refine gl 66 Try.func99 #[.agg #[.int .i64 t460, .int .i64 t461, .int .i64 t462, .int .i64 t463], .agg #[.int .i64 t464, .bool t465], .slice Ao19 t466.length co19] ?_; (with_reducible refine (impl_OutsOf.calls k t460 t461 t462 t463 t464 t465 _ _ t466 t471 t474 _ ?side1 ?side2 A6.out).mono ?_); (case side1 => refine (Kd.R_reads' (e := 3) (base := w.heap.size) (ok := fun k_ => True) (n := t466.length) (c := co19) ?_).2.2; exact (by exact (Kd.R_mono (Kd.R_mono (Kd.R_far (p := ⟨gb470, 1, none⟩) (Kd.R_far (p := ⟨gb470, 0, none⟩) (Kd.R_far (p := ⟨gb469, 3, none⟩) (Kd.R_far (p := ⟨gb469, 2, none⟩) (Kd.R_far (p := ⟨gb469, 1, none⟩) (Kd.R_far (p := ⟨gb469, 0, none⟩) (Kd.R_types (Kd.R_types HO468.out BK469.out (by decide)) BK470.out (by decide)) (fun _ hk => hk.1.2) (.int .i64 t460)) (fun _ hk => hk.1.2) (.int .i64 t461)) (fun _ hk => hk.1.2) (.int .i64 t462)) (fun _ hk => hk.1.2) (.int .i64 t463)) (fun _ hk => hk.2) (.int .i64 t464)) (fun _ hk => hk.2) (.bool t465)) (fun _ h_ => h_.1)) (fun _ h_ => h_.1)))); (case side2 => exact (Kd.R_reads' HO468.out).2.1); rintro e w20 ⟨v472, rfl, ho0, hb⟩; refine ⟨_, rfl, ?_⟩; have HO473 := Aside0.mk (Kd.R_lower (Kd.R_new' ho0 (Kd.R_lt (by exact (Kd.R_mono (Kd.R_mono (Kd.R_far (p := ⟨gb470, 1, none⟩) (Kd.R_far (p := ⟨gb470, 0, none⟩) (Kd.R_far (p := ⟨gb469, 3, none⟩) (Kd.R_far (p := ⟨gb469, 2, none⟩) (Kd.R_far (p := ⟨gb469, 1, none⟩) (Kd.R_far (p := ⟨gb469, 0, none⟩) (Kd.R_types (Kd.R_types HO468.out BK469.out (by decide)) BK470.out (by decide)) (fun _ hk => hk.1.2) (.int .i64 t460)) (fun _ hk => hk.1.2) (.int .i64 t461)) (fun _ hk => hk.1.2) (.int .i64 t462)) (fun _ hk => hk.1.2) (.int .i64 t463)) (fun _ hk => hk.2) (.int .i64 t464)) (fun _ hk => hk.2) (.bool t465)) (fun _ h_ => h_.1)) (fun _ h_ => h_.1))))) (below_size (bw HB))); replace HO468 := Aside0.mk (Kd.R_elder' (by exact (Kd.R_mono (Kd.R_mono (Kd.R_far (p := ⟨gb470, 1, none⟩) (Kd.R_far (p := ⟨gb470, 0, none⟩) (Kd.R_far (p := ⟨gb469, 3, none⟩) (Kd.R_far (p := ⟨gb469, 2, none⟩) (Kd.R_far (p := ⟨gb469, 1, none⟩) (Kd.R_far (p := ⟨gb469, 0, none⟩) (Kd.R_types (Kd.R_types HO468.out BK469.out (by decide)) BK470.out (by decide)) (fun _ hk => hk.1.2) (.int .i64 t460)) (fun _ hk => hk.1.2) (.int .i64 t461)) (fun _ hk => hk.1.2) (.int .i64 t462)) (fun _ hk => hk.1.2) (.int .i64 t463)) (fun _ hk => hk.2) (.int .i64 t464)) (fun _ hk => hk.2) (.bool t465)) (fun _ h_ => h_.1)) (fun _ h_ => h_.1))) (Kd.R_base ho0) hb); replace BK469 := Aside0.mk (blk_below (g := gb469) (o := .cells #[.int .i64 t460, .int .i64 t461, .int .i64 t462, .int .i64 t463] 100 (0, 0)) (by refine blk_far ?_ NB469_470.out _; refine blk_far ?_ NB469_470.out _; refine blk_put (cs := #[.int .i64 t460, .int .i64 t461, .int .i64 t462, .int .i64 0]) ?_ 3 _ rfl; refine blk_put (cs := #[.int .i64 t460, .int .i64 t461, .int .i64 0, .int .i64 0]) ?_ 2 _ rfl; refine blk_put (cs := #[.int .i64 t460, .int .i64 0, .int .i64 0, .int .i64 0]) ?_ 1 _ rfl; refine blk_put (cs := #[.int .i64 0, .int .i64 0, .int .i64 0, .int .i64 0]) ?_ 0 _ rfl; exact bk BK469) hb); replace BK470 := Aside0.mk (blk_below (g := gb470) (o := .cells #[.int .i64 t464, .bool t465] 102 (0, 0)) (by refine blk_put (cs := #[.int .i64 t464, .bool false]) ?_ 1 _ rfl; refine blk_put (cs := #[.int .i64 0, .bool false]) ?_ 0 _ rfl; exact bk BK470) hb); replace HB := bs HB hb; (try clear hb); (try clear ho0); have hcz21_0 := bc0 BK469; have hcz21_1 := bc1 BK469; have hcz21_2 := bc2 BK469; have hcz21_3 := bc3 BK469; have hfz21_0 := blk_frozen BK469.out 0; have hfz21_1 := blk_frozen BK469.out 1; have hfz21_2 := blk_frozen BK469.out 2; have hfz21_3 := blk_frozen BK469.out 3; have hcz22_0 := bc0 BK470; have hcz22_1 := bc1 BK470; have hfz22_0 := blk_frozen BK470.out 0; have hfz22_1 := blk_frozen BK470.out 1) | ((with_reducible refine gate_callee (f := 100) rfl ?_); refine gl 73 Try.func100 #[.agg #[.int .i64 t460, .int .i64 t461, .int .i64 t462, .int .i64 t463], .agg #[.int .i64 t464, .bool t465], .slice Ao19 t466.length co19] ?_; (with_reducible refine (spec_OutsOf.calls k t460 t461 t462 t463 t464 t465 _ _ t466 t475 t478 _ ?side1 ?side2 A7.out).mono ?_); (case side1 => exact cr HO468); (case side2 => exact (Kd.R_reads' HO468.out).2.1); rintro e w23 ⟨v476, rfl, ho0, hb⟩; refine ⟨_, rfl, ?_⟩; have HO477 := Aside0.mk (Kd.R_lower (Kd.R_new' (Kd.R_new' ho0 (Kd.R_lt (rk HO468))) (Kd.R_lt (rk HO473))) (below_size (bw HB))); replace HO468 := Aside0.mk (Kd.R_elder' (rk HO468) (Kd.R_base ho0) hb); replace HO473 := Aside0.mk (Kd.R_elder' (rk HO473) (Kd.R_base ho0) hb); replace BK469 := bb BK469 hb; replace BK470 := bb BK470 hb; replace HB := bs HB hb; (try clear hb); (try clear ho0); have hcz24_0 := bc0 BK469; have hcz24_1 := bc1 BK469; have hcz24_2 := bc2 BK469; have hcz24_3 := bc3 BK469; have hfz24_0 := blk_frozen BK469.out 0; have hfz24_1 := blk_frozen BK469.out 1; have hfz24_2 := blk_frozen BK469.out 2; have hfz24_3 := blk_frozen BK469.out 3; have hcz25_0 := bc0 BK470; have hcz25_1 := bc1 BK470; have hfz25_0 := blk_frozen BK470.out 0; have hfz25_1 := blk_frozen BK470.out 1) | ((with_reducible refine gate_callee (f := 101) rfl ?_); refine gl 80 Try.func101 #[.agg #[.int .i64 t460, .int .i64 t461, .int .i64 t462, .int .i64 t463], .agg #[.int .i64 t464, .bool t465], .slice Ao19 t466.length co19] ?_; (with_reducible refine (impl_LevelsOf.calls k t460 t461 t462 t463 t464 t465 _ _ t466 t479 t482 _ ?side1 ?side2 A8.out).mono ?_); (case side1 => exact cr HO468); (case side2 => exact (Kd.R_reads' HO468.out).2.1); rintro e w26 ⟨v480, rfl, ho0, hb⟩; refine ⟨_, rfl, ?_⟩; replace HO468 := rb HO468 hb; replace HO473 := rb HO473 hb; replace HO477 := rb HO477 hb; have HO481 := Aside0.mk (Kd.R_lower (Kd.R_newB ho0 (g := gb470) (o := .cells #[.int .i64 t464, .bool t465] 102 (0, 0)) (bk BK470)) (below_size (bw HB))); replace BK469 := bb BK469 hb; replace BK470 := bb BK470 hb; replace HB := bs HB hb; (try clear hb); (try clear ho0); have hcz27_0 := bc0 BK469; have hcz27_1 := bc1 BK469; have hcz27_2 := bc2 BK469; have hcz27_3 := bc3 BK469; have hfz27_0 := blk_frozen BK469.out 0; have hfz27_1 := blk_frozen BK469.out 1; have hfz27_2 := blk_frozen BK469.out 2; have hfz27_3 := blk_frozen BK469.out 3; have hcz28_0 := bc0 BK470; have hcz28_1 := bc1 BK470; have hfz28_0 := blk_frozen BK470.out 0; have hfz28_1 := blk_frozen BK470.out 1) | ((with_reducible refine gate_callee (f := 102) rfl ?_); refine gl 87 Try.func102 #[.agg #[.int .i64 t460, .int .i64 t461, .int .i64 t462, .int .i64 t463], .agg #[.int .i64 t464, .bool t465], .slice Ao19 t466.length co19] ?_; (with_reducible refine (spec_LevelsOf.calls k t460 t461 t462 t463 t464 t465 _ _ t466 t483 t486 _ ?side1 ?side2 A9.out).mono ?_); (case side1 => exact cr HO468); (case side2 => exact (Kd.R_reads' HO468.out).2.1); rintro e w29 ⟨v484, rfl, ho0, hb⟩; refine ⟨_, rfl, ?_⟩; replace HO468 := rb HO468 hb; replace HO473 := rb HO473 hb; replace HO477 := rb HO477 hb; have HO485 := Aside0.mk (Kd.R_lower (Kd.R_newB (Kd.R_new' ho0 (Kd.R_lt (rk HO481))) (g := gb470) (o := .cells #[.int .i64 t464, .bool t465] 102 (0, 0)) (bk BK470)) (below_size (bw HB))); replace HO481 := Aside0.mk (Kd.R_elder' (rk HO481) (Kd.R_base ho0) hb); replace BK469 := bb BK469 hb; replace BK470 := bb BK470 hb; replace HB := bs HB hb; (try clear hb); (try clear ho0); have hcz30_0 := bc0 BK469; have hcz30_1 := bc1 BK469; have hcz30_2 := bc2 BK469; have hcz30_3 := bc3 BK469; have hfz30_0 := blk_frozen BK469.out 0; have hfz30_1 := blk_frozen BK469.out 1; have hfz30_2 := blk_frozen BK469.out 2; have hfz30_3 := blk_frozen BK469.out 3; have hcz31_0 := bc0 BK470; have hcz31_1 := bc1 BK470; have hfz31_0 := blk_frozen BK470.out 0; have hfz31_1 := blk_frozen BK470.out 1) | ((with_reducible refine gate_callee (f := 103) rfl ?_); refine gl 94 Try.func103 #[.agg #[.int .i64 t460, .int .i64 t461, .int .i64 t462, .int .i64 t463], .agg #[.int .i64 t464, .bool t465], .slice Ao19 t466.length co19] ?_; (with_reducible refine (impl_SpiltOf.calls k t460 t461 t462 t463 t464 t465 _ _ t466 t487 t488 _ ?side1 ?side2 A10.out).mono ?_); (case side1 => exact cr HO468); (case side2 => exact (Kd.R_reads' HO468.out).2.1); rintro e w32 ⟨rfl, hb⟩; refine ⟨_, rfl, ?_⟩; replace HO468 := rb HO468 hb; replace HO473 := rb HO473 hb; replace HO477 := rb HO477 hb; replace HO481 := rb HO481 hb; replace HO485 := rb HO485 hb; replace BK469 := bb BK469 hb; replace BK470 := bb BK470 hb; replace HB := bs HB hb; (try clear hb); have hcz33_0 := bc0 BK469; have hcz33_1 := bc1 BK469; have hcz33_2 := bc2 BK469; have hcz33_3 := bc3 BK469; have hfz33_0 := blk_frozen BK469.out 0; have hfz33_1 := blk_frozen BK469.out 1; have hfz33_2 := blk_frozen BK469.out 2; have hfz33_3 := blk_frozen BK469.out 3; have hcz34_0 := bc0 BK470; have hcz34_1 := bc1 BK470; have hfz34_0 := blk_frozen BK470.out 0; have hfz34_1 := blk_frozen BK470.out 1) | ((with_reducible refine gate_callee (f := 104) rfl ?_); refine gl 101 Try.func104 #[.agg #[.int .i64 t460, .int .i64 t461, .int .i64 t462, .int .i64 t463], .agg #[.int .i64 t464, .bool t465], .slice Ao19 t466.length co19] ?_; (with_reducible refine (spec_SpiltOf.calls k t460 t461 t462 t463 t464 t465 _ _ t466 t489 t490 _ ?side1 ?side2 A11.out).mono ?_); (case side1 => exact cr HO468); (case side2 => exact (Kd.R_reads' HO468.out).2.1); rintro e w35 ⟨rfl, hb⟩; refine ⟨_, rfl, ?_⟩; replace HO468 := rb HO468 hb; replace HO473 := rb HO473 hb; replace HO477 := rb HO477 hb; replace HO481 := rb HO481 hb; replace HO485 := rb HO485 hb; replace BK469 := bb BK469 hb; replace BK470 := bb BK470 hb; replace HB := bs HB hb; (try clear hb)))
 (try simp only [Act.put, List.setIfInBounds_toArray, List.set_cons_zero, List.set_cons_succ])
 refine cutF (rl [53, 131, 3, 200] false) (fun u_ wc => ∃ (kq : Nat) (x143_11 : Bool), (u_ 143) = .bool x143_11 ∧ Aside0 (laws_FnSiphonsKeepWater.j0 kq l1 t466 t471 t474 t479 t487 x143_11 t460 t461 t462 t463 t464 t465 = some r) ∧ Aside0 (kq ≤ k) ∧ Aside0 (Kd.R (Kd.int .i64) 3 wc w.heap.size (fun k_ => some k_ ≠ (v472 : Value).ownBlock) (.slice Ao19 t466.length co19) t466) ∧ Aside0 (Kd.R (Kd.int .i64) 3 wc w.heap.size (fun k_ => some k_ ≠ ((.slice Ao19 t466.length co19) : Value).ownBlock) v472 t471) ∧ Aside0 (Kd.R k102 102 wc w.heap.size (fun k_ => k_ ≠ gb470) v480 t479) ∧ Aside0 (wc.heap[gb469]? = some (.cells #[.int .i64 t460, .int .i64 t461, .int .i64 t462, .int .i64 t463] 100 (0, 0))) ∧ Aside0 (wc.heap[gb470]? = some (.cells #[.int .i64 t464, .bool t465] 102 (0, 0))) ∧ Aside0 (Below w.heap.size w wc)) ?first1 ?rest1
 case first1 =>
  as_aux_lemma =>
   intro J_ K_ hJ_ hK_
   have H := HC12.out
   clear HC12
   by_cases c36 : (t474 != t478) = true
   ·rw [if_pos c36] at H
    have c36b0 : (t474 != t478) = true := c36
    (try (have c36b1 : decide (t474 = t478) = false := by simpa using c36))
    (try (have c36b2 : (t474 == t478) = false := by simpa using c36))
    (try (have c36b3 : ¬ (t474 = t478) := by simpa using c36))
    clear c36
    (first | rw [c36b0] | (simp only [i64_w, i32_w]; rw [c36b0]) | skip)
    exact absurd H (by rw [hrt.out]; cases k <;> simp [laws_FnSiphonsKeepWater.j0])
   rw [if_neg c36] at H
   have c36b0 : (t474 != t478) = false := by simpa using c36
   (try (have c36b1 : decide (t474 = t478) = true := by simpa using c36))
   (try (have c36b2 : (t474 == t478) = true := by simpa using c36))
   clear c36
   (first | rw [c36b0] | (simp only [i64_w, i32_w]; rw [c36b0]) | skip)
   replace H := Option.bind_eq_some_iff.mp H
   obtain ⟨t491, A370, H⟩ := H
   (try dsimp only at H)
   have A37 := Aside0.mk A370
   clear A370
   by_cases c38 : t491 = true
   rotate_left
   ·replace c38 := Bool.eq_false_iff.mpr c38
    subst c38
    have H1 : (laws_FnSiphonsKeepWater.j0 k l1 t466 t471 t474 t479 t487 true t460 t461 t462 t463 t464 t465) = some r := by rw [if_neg (show ¬ (false = true) by decide)] at H; exact H
    clear H
    have H := H1
    clear H1
    exact absurd H (by rw [hrt.out]; cases k <;> simp [laws_FnSiphonsKeepWater.j0])
   subst c38
   have H1 : (if (t482 != t486) = true then (laws_FnSiphonsKeepWater.j0 k l1 t466 t471 t474 t479 t487 true t460 t461 t462 t463 t464 t465) else ((laws_eLevels.f k t479 t483).bind fun t492 => (if t492 = true then (if (t488 != t490) = true then (laws_FnSiphonsKeepWater.j0 k l1 t466 t471 t474 t479 t487 true t460 t461 t462 t463 t464 t465) else (if t487 = t489 then (if (t482 != t474) = true then (laws_FnSiphonsKeepWater.j0 k l1 t466 t471 t474 t479 t487 true t460 t461 t462 t463 t464 t465) else (laws_FnSiphonsKeepWater.j0 k l1 t466 t471 t474 t479 t487 (t488 != t474) t460 t461 t462 t463 t464 t465)) else (laws_FnSiphonsKeepWater.j0 k l1 t466 t471 t474 t479 t487 true t460 t461 t462 t463 t464 t465))) else (laws_FnSiphonsKeepWater.j0 k l1 t466 t471 t474 t479 t487 true t460 t461 t462 t463 t464 t465)))) = some r := by rw [if_pos rfl] at H; exact H
   clear H
   have H := H1
   clear H1
   by_cases c39 : (t482 != t486) = true
   ·rw [if_pos c39] at H
    have c39b0 : (t482 != t486) = true := c39
    (try (have c39b1 : decide (t482 = t486) = false := by simpa using c39))
    (try (have c39b2 : (t482 == t486) = false := by simpa using c39))
    (try (have c39b3 : ¬ (t482 = t486) := by simpa using c39))
    clear c39
    exact absurd H (by rw [hrt.out]; cases k <;> simp [laws_FnSiphonsKeepWater.j0])
   rw [if_neg c39] at H
   have c39b0 : (t482 != t486) = false := by simpa using c39
   (try (have c39b1 : decide (t482 = t486) = true := by simpa using c39))
   (try (have c39b2 : (t482 == t486) = true := by simpa using c39))
   clear c39
   replace H := Option.bind_eq_some_iff.mp H
   obtain ⟨t492, A400, H⟩ := H
   (try dsimp only at H)
   have A40 := Aside0.mk A400
   clear A400
   by_cases c41 : t492 = true
   rotate_left
   ·replace c41 := Bool.eq_false_iff.mpr c41
    subst c41
    have H1 : (laws_FnSiphonsKeepWater.j0 k l1 t466 t471 t474 t479 t487 true t460 t461 t462 t463 t464 t465) = some r := by rw [if_neg (show ¬ (false = true) by decide)] at H; exact H
    clear H
    have H := H1
    clear H1
    exact absurd H (by rw [hrt.out]; cases k <;> simp [laws_FnSiphonsKeepWater.j0])
   subst c41
   have H1 : (if (t488 != t490) = true then (laws_FnSiphonsKeepWater.j0 k l1 t466 t471 t474 t479 t487 true t460 t461 t462 t463 t464 t465) else (if t487 = t489 then (if (t482 != t474) = true then (laws_FnSiphonsKeepWater.j0 k l1 t466 t471 t474 t479 t487 true t460 t461 t462 t463 t464 t465) else (laws_FnSiphonsKeepWater.j0 k l1 t466 t471 t474 t479 t487 (t488 != t474) t460 t461 t462 t463 t464 t465)) else (laws_FnSiphonsKeepWater.j0 k l1 t466 t471 t474 t479 t487 true t460 t461 t462 t463 t464 t465))) = some r := by rw [if_pos rfl] at H; exact H
   clear H
   have H := H1
   clear H1
   by_cases c42 : (t488 != t490) = true
   ·rw [if_pos c42] at H
    have c42b0 : (t488 != t490) = true := c42
    (try (have c42b1 : decide (t488 = t490) = false := by simpa using c42))
    (try (have c42b2 : (t488 == t490) = false := by simpa using c42))
    (try (have c42b3 : ¬ (t488 = t490) := by simpa using c42))
    clear c42
    exact absurd H (by rw [hrt.out]; cases k <;> simp [laws_FnSiphonsKeepWater.j0])
   rw [if_neg c42] at H
   have c42b0 : (t488 != t490) = false := by simpa using c42
   (try (have c42b1 : decide (t488 = t490) = true := by simpa using c42))
   (try (have c42b2 : (t488 == t490) = true := by simpa using c42))
   clear c42
   by_cases c43 : t487 = t489
   rotate_left
   ·rw [if_neg c43] at H
    have c43b0 : (t487 == t489) = false := beq_eq_false_iff_ne.mpr c43
    have c43b1 : (t487 != t489) = true := bne_iff_ne.mpr c43
    exact absurd H (by rw [hrt.out]; cases k <;> simp [laws_FnSiphonsKeepWater.j0])
   rw [if_pos c43] at H
   have c43b0 : (t487 == t489) = true := beq_iff_eq.mpr c43
   have c43b1 : (t487 != t489) = false := bne_eq_false_iff_eq.mpr c43
   clear c43
   by_cases c44 : (t482 != t474) = true
   ·rw [if_pos c44] at H
    have c44b0 : (t482 != t474) = true := c44
    (try (have c44b1 : decide (t482 = t474) = false := by simpa using c44))
    (try (have c44b2 : (t482 == t474) = false := by simpa using c44))
    (try (have c44b3 : ¬ (t482 = t474) := by simpa using c44))
    clear c44
    exact absurd H (by rw [hrt.out]; cases k <;> simp [laws_FnSiphonsKeepWater.j0])
   rw [if_neg c44] at H
   have c44b0 : (t482 != t474) = false := by simpa using c44
   (try (have c44b1 : decide (t482 = t474) = true := by simpa using c44))
   (try (have c44b2 : (t482 == t474) = true := by simpa using c44))
   clear c44
   have H' := Aside0.mk H
   clear H
   obtain ⟨Ao45, co45, eo45⟩ := Kd.R_slice HO473.out
   subst eo45
   obtain ⟨Ao46, co46, eo46⟩ := Kd.R_slice HO477.out
   subst eo46
   go_wp2_with (first | (go_at_call 29; (with_reducible refine (laws_eSame.calls k _ _ t471 _ _ t475 true _ ?side1 ?side2 ?side3 ?side4 A37.out).mono ?_); (case side1 => exact cr HO473); (case side2 => exact (Kd.R_reads' HO473.out).2.1); (case side3 => exact cr HO477); (case side4 => exact (Kd.R_reads' HO477.out).2.1); rintro e w' ⟨rfl, ⟨nd, rfl⟩⟩; obtain ⟨Ao47, co47, eo47⟩ := Kd.R_slice HO481.out; subst eo47; obtain ⟨Ao48, co48, eo48⟩ := Kd.R_slice HO485.out; subst eo48) | (go_at_call 105; (with_reducible refine (laws_eLevels.calls k _ _ t479 _ _ t483 true _ ?side1 ?side2 ?side3 ?side4 A40.out).mono ?_); (case side1 => exact cr HO481); (case side2 => exact (Kd.R_reads' HO481.out).2.1); (case side3 => exact cr HO485); (case side4 => exact (Kd.R_reads' HO485.out).2.1); rintro e w' ⟨rfl, ⟨nd, rfl⟩⟩))
   (refine Met.intro ?_; go_step; refine Cut_mk (by kernel_rfl) ?rel2)
   case rel2 => exact ⟨_, ((t488 != t474)), (by first | rfl | (simp; done) | (simp [*]; done)), H', ⟨by first | exact Nat.le_refl _ | (omega)⟩, ⟨by exact Kd.R_mono HO468.out (fun _ hk => hk.1.2)⟩, ⟨by exact Kd.R_mono HO473.out (fun _ hk => hk.1.2)⟩, ⟨by exact Kd.R_mono HO481.out (fun _ hk => hk.1.2)⟩, ⟨bk BK469⟩, ⟨bk BK470⟩, ⟨bw HB⟩⟩
 case rest1 =>
   intro u_ wc hcut l_ hl_; (simp only [rl, List.reduceReplicate, List.cons_append, List.nil_append, List.append_nil, Bool.not_true, Bool.not_false, fu, Nat.reduceAdd] at hl_); subst hl_; generalize u_ 143 = v143 at hcut ⊢
   clear HC12
   (try clear c1); (try clear c4); (try clear hcz17_0); (try clear hcz17_1); (try clear hcz17_2); (try clear hcz17_3); (try clear hcz18_0); (try clear hcz18_1); (try clear hcz21_0); (try clear hcz21_1); (try clear hcz21_2); (try clear hcz21_3); (try clear hcz22_0); (try clear hcz22_1); (try clear hcz24_0); (try clear hcz24_1); (try clear hcz24_2); (try clear hcz24_3); (try clear hcz25_0); (try clear hcz25_1); (try clear hcz27_0); (try clear hcz27_1); (try clear hcz27_2); (try clear hcz27_3); (try clear hcz28_0); (try clear hcz28_1); (try clear hcz30_0); (try clear hcz30_1); (try clear hcz30_2); (try clear hcz30_3); (try clear hcz31_0); (try clear hcz31_1); (try clear hcz33_0); (try clear hcz33_1); (try clear hcz33_2); (try clear hcz33_3); (try clear hcz34_0); (try clear hcz34_1); (try clear hfz17_0); (try clear hfz17_1); (try clear hfz17_2); (try clear hfz17_3); (try clear hfz18_0); (try clear hfz18_1); (try clear hfz21_0); (try clear hfz21_1); (try clear hfz21_2); (try clear hfz21_3); (try clear hfz22_0); (try clear hfz22_1); (try clear hfz24_0); (try clear hfz24_1); (try clear hfz24_2); (try clear hfz24_3); (try clear hfz25_0); (try clear hfz25_1); (try clear hfz27_0); (try clear hfz27_1); (try clear hfz27_2); (try clear hfz27_3); (try clear hfz28_0); (try clear hfz28_1); (try clear hfz30_0); (try clear hfz30_1); (try clear hfz30_2); (try clear hfz30_3); (try clear hfz31_0); (try clear hfz31_1); (try clear hfz33_0); (try clear hfz33_1); (try clear hfz33_2); (try clear hfz33_3); (try clear hfz34_0); (try clear hfz34_1)
   obtain ⟨kq, x143_11, rfl, HA, HJ11, HO_7, HO_8, HO_12, BK469, BK470, HB⟩ := hcut
   cases kq with
   | zero => exact absurd HA.out (by simp [laws_FnSiphonsKeepWater.j0])
   | succ kj11 =>
    have H := HA.out
    clear HA
    simp only [laws_FnSiphonsKeepWater.j0] at H
    by_cases c49 : x143_11 = true
    ·subst c49
     have H1 : (some false) = some r := by rw [if_pos rfl] at H; exact H
     clear H
     have H := H1
     clear H1
     exact absurd ((Option.some.inj H).trans hrt.out) (by decide)
    replace c49 := Bool.eq_false_iff.mpr c49
    subst c49
    have H1 : (if t474 = true then (if (t471.length : Int) = (t466.length : Int) then (if (t479.length : Int) = (wrap64 ((t471.length : Int) + 1)) then (if 0 < (t479.length : Int) then (if (!(((rd_T102 t479 0).f0) == t464) || (!(((rd_T102 t479 0).f1) == t465))) = true then (laws_FnSiphonsKeepWater.j1 kj11 l1 t466 t471 t479 t487 true t460 t461 t462 t463) else ((laws_eSum.f kj11 t466).bind fun t494 => ((laws_eSum.f kj11 t471).bind fun t495 => (if 0 ≤ (t471.length : Int) then (if (t471.length : Int) < (t479.length : Int) then (laws_FnSiphonsKeepWater.j1 kj11 l1 t466 t471 t479 t487 (t494 != (wrap64 ((wrap64 ((wrap64 (t495 + t487)) + ((rd_T102 t479 (t471.length : Int)).f0))) - t464))) t460 t461 t462 t463) else (none)) else (none))))) else (none)) else (laws_FnSiphonsKeepWater.j1 kj11 l1 t466 t471 t479 t487 true t460 t461 t462 t463)) else (laws_FnSiphonsKeepWater.j1 kj11 l1 t466 t471 t479 t487 true t460 t461 t462 t463)) else (laws_FnSiphonsKeepWater.j3 kj11 l1)) = some r := by rw [if_neg (show ¬ (false = true) by decide)] at H; exact H
    clear H
    have H := H1
    clear H1
    have HC50 := Aside0.mk H
    clear H
    go_upto_if 144 with (fail)
    refine cutF (rl [4, 1, 15, 9, 24, 334] false) (fun u_ wc => ∃ (kq : Nat), Aside0 (laws_FnSiphonsKeepWater.j3 kq l1 = some r) ∧ Aside0 (kq ≤ kj11) ∧ Aside0 (wc.heap[gb469]? = some (.cells #[.int .i64 t460, .int .i64 t461, .int .i64 t462, .int .i64 t463] 100 (0, 0))) ∧ Aside0 (wc.heap[gb470]? = some (.cells #[.int .i64 t464, .bool t465] 102 (0, 0))) ∧ Aside0 (Below w.heap.size w wc)) ?first3 ?rest3
    case first3 =>
     as_aux_lemma =>
      intro J_ K_ hJ_ hK_
      have H := HC50.out
      clear HC50
      by_cases c51 : t474 = true
      rotate_left
      ·replace c51 := Bool.eq_false_iff.mpr c51
       subst c51
       have H1 : (laws_FnSiphonsKeepWater.j3 kj11 l1) = some r := by rw [if_neg (show ¬ (false = true) by decide)] at H; exact H
       clear H
       have H := H1
       clear H1
       have H' := Aside0.mk H
       clear H
       go_wp2
       (refine Met.intro ?_; go_step; refine Cut_mk (by kernel_rfl) ?rel4)
       case rel4 => exact ⟨_, H', ⟨by first | exact Nat.le_refl _ | exact Nat.le_of_succ_le HJ11.out | (have := HJ11.out; omega)⟩, ⟨bk BK469⟩, ⟨bk BK470⟩, ⟨bw HB⟩⟩
      subst c51
      have H1 : (if (t471.length : Int) = (t466.length : Int) then (if (t479.length : Int) = (wrap64 ((t471.length : Int) + 1)) then (if 0 < (t479.length : Int) then (if (!(((rd_T102 t479 0).f0) == t464) || (!(((rd_T102 t479 0).f1) == t465))) = true then (laws_FnSiphonsKeepWater.j1 kj11 l1 t466 t471 t479 t487 true t460 t461 t462 t463) else ((laws_eSum.f kj11 t466).bind fun t494 => ((laws_eSum.f kj11 t471).bind fun t495 => (if 0 ≤ (t471.length : Int) then (if (t471.length : Int) < (t479.length : Int) then (laws_FnSiphonsKeepWater.j1 kj11 l1 t466 t471 t479 t487 (t494 != (wrap64 ((wrap64 ((wrap64 (t495 + t487)) + ((rd_T102 t479 (t471.length : Int)).f0))) - t464))) t460 t461 t462 t463) else (none)) else (none))))) else (none)) else (laws_FnSiphonsKeepWater.j1 kj11 l1 t466 t471 t479 t487 true t460 t461 t462 t463)) else (laws_FnSiphonsKeepWater.j1 kj11 l1 t466 t471 t479 t487 true t460 t461 t462 t463)) = some r := by rw [if_pos rfl] at H; exact H
      clear H
      have H := H1
      clear H1
      have HC52 := Aside0.mk H
      clear H
      go_upto_region 13 with (fail)
      refine cutF (rl [53, 131, 3, 200] false) (fun u_ wc => ∃ (kq : Nat) (x183_51 : Bool), (u_ 183) = .bool x183_51 ∧ Aside0 (laws_FnSiphonsKeepWater.j1 kq l1 t466 t471 t479 t487 x183_51 t460 t461 t462 t463 = some r) ∧ Aside0 (kq ≤ kj11) ∧ Aside0 (Kd.R (Kd.int .i64) 3 wc w.heap.size (fun k_ => some k_ ≠ (v472 : Value).ownBlock) (.slice Ao19 t466.length co19) t466) ∧ Aside0 (Kd.R (Kd.int .i64) 3 wc w.heap.size (fun k_ => some k_ ≠ ((.slice Ao19 t466.length co19) : Value).ownBlock) v472 t471) ∧ Aside0 (Kd.R k102 102 wc w.heap.size (fun k_ => k_ ≠ gb470) v480 t479) ∧ Aside0 (wc.heap[gb469]? = some (.cells #[.int .i64 t460, .int .i64 t461, .int .i64 t462, .int .i64 t463] 100 (0, 0))) ∧ Aside0 (wc.heap[gb470]? = some (.cells #[.int .i64 t464, .bool t465] 102 (0, 0))) ∧ Aside0 (Below w.heap.size w wc)) ?first5 ?rest5
      case first5 =>
       as_aux_lemma =>
        intro J_ K_ hJ_ hK_
        have H := HC52.out
        clear HC52
        by_cases c53 : (t471.length : Int) = (t466.length : Int)
        rotate_left
        ·rw [if_neg c53] at H
         have c53b0 : ((t471.length : Int) == (t466.length : Int)) = false := beq_eq_false_iff_ne.mpr c53
         have c53b1 : ((t471.length : Int) != (t466.length : Int)) = true := bne_iff_ne.mpr c53
         have c53b2 : (t471.length == t466.length) = false := by first | simpa using c53 | (simp at c53 ⊢; omega)
         (first | rw [c53b0] | (simp only [i64_w, i32_w]; rw [c53b0]) | skip)
         exact absurd H (by rw [hrt.out]; cases kj11 <;> simp [laws_FnSiphonsKeepWater.j1])
        rw [if_pos c53] at H
        have c53b0 : ((t471.length : Int) == (t466.length : Int)) = true := beq_iff_eq.mpr c53
        have c53b1 : ((t471.length : Int) != (t466.length : Int)) = false := bne_eq_false_iff_eq.mpr c53
        have c53b2 : (t471.length == t466.length) = true := by first | simpa using c53 | (simp at c53 ⊢; omega)
        clear c53
        (first | rw [c53b0] | (simp only [i64_w, i32_w]; rw [c53b0]) | skip)
        by_cases c54 : (t479.length : Int) = (wrap64 ((t471.length : Int) + 1))
        rotate_left
        ·rw [if_neg c54] at H
         have c54b0 : ((t479.length : Int) == (wrap64 ((t471.length : Int) + 1))) = false := beq_eq_false_iff_ne.mpr c54
         have c54b1 : ((t479.length : Int) != (wrap64 ((t471.length : Int) + 1))) = true := bne_iff_ne.mpr c54
         exact absurd H (by rw [hrt.out]; cases kj11 <;> simp [laws_FnSiphonsKeepWater.j1])
        rw [if_pos c54] at H
        have c54b0 : ((t479.length : Int) == (wrap64 ((t471.length : Int) + 1))) = true := beq_iff_eq.mpr c54
        have c54b1 : ((t479.length : Int) != (wrap64 ((t471.length : Int) + 1))) = false := bne_eq_false_iff_eq.mpr c54
        clear c54
        by_cases c55 : 0 < (t479.length : Int)
        rotate_left
        ·rw [if_neg c55] at H
         exact absurd H (by simp)
        rw [if_pos c55] at H
        have c55b0 : decide (0 < (t479.length : Int)) = true := decide_eq_true c55
        have c55b1 : decide (0 < t479.length) = true := decide_eq_true (by omega)
        clear c55
        by_cases c56 : (!(((rd_T102 t479 0).f0) == t464) || (!(((rd_T102 t479 0).f1) == t465))) = true
        ·rw [if_pos c56] at H
         have c56b0 : (!(((rd_T102 t479 0).f0) == t464) || (!(((rd_T102 t479 0).f1) == t465))) = true := c56
         clear c56
         exact absurd H (by rw [hrt.out]; cases kj11 <;> simp [laws_FnSiphonsKeepWater.j1])
        rw [if_neg c56] at H
        have c56b0 : (!(((rd_T102 t479 0).f0) == t464) || (!(((rd_T102 t479 0).f1) == t465))) = false := by simpa using c56
        clear c56
        replace H := Option.bind_eq_some_iff.mp H
        obtain ⟨t494, A570, H⟩ := H
        (try dsimp only at H)
        have A57 := Aside0.mk A570
        clear A570
        replace H := Option.bind_eq_some_iff.mp H
        obtain ⟨t495, A580, H⟩ := H
        (try dsimp only at H)
        have A58 := Aside0.mk A580
        clear A580
        by_cases c59 : 0 ≤ (t471.length : Int)
        rotate_left
        ·rw [if_neg c59] at H
         exact absurd H (by simp)
        rw [if_pos c59] at H
        have c59b0 : decide (0 ≤ (t471.length : Int)) = true := decide_eq_true c59
        have c59b1 : decide (0 ≤ t471.length) = true := decide_eq_true (by omega)
        clear c59
        by_cases c60 : (t471.length : Int) < (t479.length : Int)
        rotate_left
        ·rw [if_neg c60] at H
         exact absurd H (by simp)
        rw [if_pos c60] at H
        have c60b0 : decide ((t471.length : Int) < (t479.length : Int)) = true := decide_eq_true c60
        have c60b1 : decide (t471.length < t479.length) = true := decide_eq_true (Int.ofNat_lt.mp c60)
        clear c60
        have H' := Aside0.mk H
        clear H
        try go_wp2
        replace HO_7 := Aside0.mk (Kd.R_drew HO_7.out)
        replace HO_8 := Aside0.mk (Kd.R_drew HO_8.out)
        replace HO_12 := Aside0.mk (Kd.R_drew HO_12.out)
        replace BK469 := Aside0.mk (blk_drew BK469.out)
        replace BK470 := Aside0.mk (blk_drew BK470.out)
        replace HB := Aside0.mk (below_drew1 HB.out)
        obtain ⟨Ao62, co62, eo62⟩ := Kd.R_slice HO_8.out
        (first | subst eo62 | (injection eo62 with f1_ f2_ f3_; have f4_ := f1_.symm; have f5_ := f3_.symm; clear f1_ f2_ f3_; subst f4_; subst f5_))
        obtain ⟨Ao63, co63, eo63⟩ := Kd.R_slice HO_12.out
        (first | subst eo63 | (injection eo63 with f1_ f2_ f3_; have f4_ := f1_.symm; have f5_ := f3_.symm; clear f1_ f2_ f3_; subst f4_; subst f5_))
        have p493 : 0 ≤ (0 : Int) := (by omega)
        have q493 : 0 < (t479.length : Int) := of_decide_eq_true ‹_›
        obtain ⟨ad493, e493, hx493_0, hx493_1⟩ := at_T102 (Kd.R_reads' HO_12.out).2.2 0 p493 q493
        cases e493
        have qi493 : (0 < t479.length) = True := eq_true (by omega)
        (try rw [show ((0 : Int)).toNat = 0 from rfl] at hx493_0)
        (try rw [show 0 * 2 = 0 from rfl] at hx493_0)
        (try rw [Addr.add_zero'] at hx493_0)
        (try rw [show ((0 : Int)).toNat = 0 from rfl] at hx493_1)
        (try rw [show 0 * 2 = 0 from rfl] at hx493_1)
        (try rw [Addr.add_zero'] at hx493_1)
        replace p493 := eq_true p493
        replace q493 := eq_true q493
        have p496 : 0 ≤ ((t471.length : Int) : Int) := of_decide_eq_true ‹_›
        have q496 : (t471.length : Int) < (t479.length : Int) := of_decide_eq_true ‹_›
        obtain ⟨ad496, e496, hx496_0, hx496_1⟩ := at_T102 (Kd.R_reads' HO_12.out).2.2 (t471.length : Int) p496 q496
        obtain rfl : ad493 = ad496 := (by injection e496)
        (try simp only [Go.IntWalk.toNatUp] at hx496_0)
        (try simp only [Go.IntWalk.toNatUp] at hx496_1)
        replace p496 := eq_true p496
        replace q496 := eq_true q496
        refine start_ (n := 39) (S := fun w' => w'.cell? ⟨gb470, 0, none⟩ = some (.int .i64 t464) ∧ w'.cell? ⟨gb470, 1, none⟩ = some (.bool t465) ∧ w'.cell? ad493 = some (.int .i64 ((rd_T102 t479 0).f0)) ∧ w'.cell? ⟨ad493.block, ad493.off + 1, none⟩ = some (.bool ((rd_T102 t479 0).f1)) ∧ w'.cell? (ad493.add (t471.length * 2)) = some (.int .i64 ((rd_T102 t479 (t471.length : Int)).f0)) ∧ w'.cell? ⟨(ad493.add (t471.length * 2)).block, (ad493.add (t471.length * 2)).off + 1, none⟩ = some (.bool ((rd_T102 t479 (t471.length : Int)).f1))) (ds := []) (bl 39 0) (by kernel_rfl) rfl rfl ⟨bc0 BK470, bc1 BK470, hx493_0, hx493_1, hx496_0, hx496_1⟩ (fun hHeld => ?_); refine with_tabW laws_FnSiphonsKeepWater.tab13 laws_FnSiphonsKeepWater.bits13 (fun HT_ HW_ => ?_)
        generalize wc.drew = w61 at HO_7 HO_8 HO_12 BK469 BK470 HB hx493_0 hx493_1 hx496_0 hx496_1 hHeld ⊢
        refine pu 0 145 (bl 39 1) HT_.out (v := ?_) (a' := ?_) ?_ ?_ ?_
        rotate_left; (intro w'; go_simp; with_reducible rfl); rotate_left; (simp only [sqa, sqb, sqc, sqd, i64_w, i32_w]; rfl)
        refine pu 1 146 (bl 39 3) HT_.out (v := ?_) (a' := ?_) ?_ ?_ ?_
        rotate_left; (intro w'; go_simp; with_reducible rfl); rotate_left; (simp only [sqa, sqb, sqc, sqd, i64_w, i32_w]; rfl)
        refine pu 2 147 (bl 39 7) HT_.out (v := ?_) (a' := ?_) ?_ ?_ ?_
        rotate_left; (intro w'; go_simp; with_reducible rfl); rotate_left; (simp only [sqa, sqb, sqc, sqd, i64_w, i32_w]; rfl)
        refine pu 3 148 (bl 39 15) HT_.out (v := ?_) (a' := ?_) ?_ ?_ ?_
        rotate_left; (intro w'; go_simp; with_reducible rfl); rotate_left; (simp only [sqa, sqb, sqc, sqd, i64_w, i32_w]; rfl)
        refine pu 4 149 (bl 39 31) HT_.out (v := ?_) (a' := ?_) ?_ ?_ ?_
        rotate_left; (intro w'; go_simp; with_reducible rfl); rotate_left; (simp only [sqa, sqb, sqc, sqd, i64_w, i32_w]; rfl)
        refine pu 5 150 (bl 39 63) HT_.out (v := ?_) (a' := ?_) ?_ ?_ ?_
        rotate_left; (intro w'; go_simp; with_reducible rfl); rotate_left; (simp only [sqa, sqb, sqc, sqd, i64_w, i32_w]; rfl)
        refine pu 6 151 (bl 39 127) HT_.out (v := ?_) (a' := ?_) ?_ ?_ ?_
        rotate_left; (intro w'; go_simp; with_reducible rfl); rotate_left; (simp only [sqa, sqb, sqc, sqd, i64_w, i32_w]; rfl)
        refine pu 7 152 (bl 39 255) HT_.out (v := ?_) (a' := ?_) ?_ ?_ ?_
        rotate_left; (intro w'; go_simp; with_reducible rfl); rotate_left; (simp only [sqa, sqb, sqc, sqd, i64_w, i32_w]; rfl)
        refine pu 8 153 (bl 39 511) HT_.out (v := ?_) (a' := ?_) ?_ ?_ ?_
        rotate_left; (intro w'; go_simp; with_reducible rfl); rotate_left; (simp only [sqa, sqb, sqc, sqd, i64_w, i32_w]; rfl)
        refine pu 9 154 (bl 39 1023) HT_.out (v := ?_) (a' := ?_) ?_ ?_ ?_
        rotate_left; (intro w'; go_simp; with_reducible rfl); rotate_left; (simp only [sqa, sqb, sqc, sqd, i64_w, i32_w]; rfl)
        refine pu 10 155 (bl 39 2047) HT_.out (v := ?_) (a' := ?_) ?_ ?_ ?_
        rotate_left; (intro w'; go_simp; with_reducible rfl); rotate_left; (simp only [sqa, sqb, sqc, sqd, i64_w, i32_w]; rfl)
        refine pu 11 156 (bl 39 4095) HT_.out (v := ?_) (a' := ?_) ?_ ?_ ?_
        rotate_left; (intro w'; go_simp; with_reducible rfl); rotate_left; (simp only [sqa, sqb, sqc, sqd, i64_w, i32_w]; rfl)
        refine pu 12 157 (bl 39 8191) HT_.out (v := ?_) (a' := ?_) ?_ ?_ ?_
        rotate_left; (intro w'; go_simp; with_reducible rfl); rotate_left; (simp only [sqa, sqb, sqc, sqd, i64_w, i32_w]; rfl)
        refine pu 13 158 (bl 39 16383) HT_.out (v := ?_) (a' := ?_) ?_ ?_ ?_
        rotate_left; (intro w'; go_simp; with_reducible rfl); rotate_left; (simp only [sqa, sqb, sqc, sqd, i64_w, i32_w]; rfl)
        refine pu 14 159 (bl 39 32767) HT_.out (v := ?_) (a' := ?_) ?_ ?_ ?_
        rotate_left; (intro w'; go_simp; with_reducible rfl); rotate_left; (simp only [sqa, sqb, sqc, sqd, i64_w, i32_w]; rfl)
        refine pu 15 160 (bl 39 65535) HT_.out (v := ?_) (a' := ?_) ?_ ?_ ?_
        rotate_left; (intro w'; go_simp; with_reducible rfl); rotate_left; (simp only [sqa, sqb, sqc, sqd, i64_w, i32_w]; rfl)
        refine tk 16 161 (bl 39 131071) HT_.out HW_.out hHeld (v := ?_) (a' := ?_) ?_ ?_ ?_
        rotate_left; (rintro w' ⟨s0, s1, s2, s3, s4, s5⟩; go_simp; with_reducible rfl); rotate_left; (simp only [sqa, sqb, sqc, sqd, i64_w, i32_w]; rfl)
        refine tk 17 162 (bl 39 262143) HT_.out HW_.out hHeld (v := ?_) (a' := ?_) ?_ ?_ ?_
        rotate_left; (rintro w' ⟨s0, s1, s2, s3, s4, s5⟩; go_simp; with_reducible rfl); rotate_left; (simp only [sqa, sqb, sqc, sqd, i64_w, i32_w]; rfl)
        refine pu 18 163 (bl 39 524287) HT_.out (v := ?_) (a' := ?_) ?_ ?_ ?_
        rotate_left; (intro w'; go_simp; with_reducible rfl); rotate_left; (simp only [sqa, sqb, sqc, sqd, i64_w, i32_w]; rfl)
        refine pu 19 164 (bl 39 1048575) HT_.out (v := ?_) (a' := ?_) ?_ ?_ ?_
        rotate_left; (intro w'; go_simp; with_reducible rfl); rotate_left; (simp only [sqa, sqb, sqc, sqd, i64_w, i32_w]; rfl)
        refine pu 20 165 (bl 39 2097151) HT_.out (v := ?_) (a' := ?_) ?_ ?_ ?_
        rotate_left; (intro w'; go_simp; with_reducible rfl); rotate_left; (simp only [sqa, sqb, sqc, sqd, i64_w, i32_w]; rfl)
        refine pu 21 166 (bl 39 4194303) HT_.out (v := ?_) (a' := ?_) ?_ ?_ ?_
        rotate_left; (intro w'; go_simp; with_reducible rfl); rotate_left; (simp only [sqa, sqb, sqc, sqd, i64_w, i32_w]; rfl)
        refine pu 23 168 (bl 39 12582911) HT_.out (v := ?_) (a' := ?_) ?_ ?_ ?_
        rotate_left; (intro w'; go_simp; with_reducible rfl); rotate_left; (simp only [sqa, sqb, sqc, sqd, i64_w, i32_w]; rfl)
        refine pu 25 170 (bl 39 46137343) HT_.out (v := ?_) (a' := ?_) ?_ ?_ ?_
        rotate_left; (intro w'; go_simp; with_reducible rfl); rotate_left; (simp only [sqa, sqb, sqc, sqd, i64_w, i32_w]; rfl)
        refine pu 27 172 (bl 39 180355071) HT_.out (v := ?_) (a' := ?_) ?_ ?_ ?_
        rotate_left; (intro w'; go_simp; with_reducible rfl); rotate_left; (simp only [sqa, sqb, sqc, sqd, i64_w, i32_w]; rfl)
        refine pu 28 173 (bl 39 448790527) HT_.out (v := ?_) (a' := ?_) ?_ ?_ ?_
        rotate_left; (intro w'; go_simp; with_reducible rfl); rotate_left; (simp only [sqa, sqb, sqc, sqd, i64_w, i32_w]; rfl)
        refine pu 29 174 (bl 39 985661439) HT_.out (v := ?_) (a' := ?_) ?_ ?_ ?_
        rotate_left; (intro w'; go_simp; with_reducible rfl); rotate_left; (simp only [sqa, sqb, sqc, sqd, i64_w, i32_w]; rfl)
        refine pu 30 175 (bl 39 2059403263) HT_.out (v := ?_) (a' := ?_) ?_ ?_ ?_
        rotate_left; (intro w'; go_simp; with_reducible rfl); rotate_left; (simp only [sqa, sqb, sqc, sqd, i64_w, i32_w]; rfl)
        refine pu 31 176 (bl 39 4206886911) HT_.out (v := ?_) (a' := ?_) ?_ ?_ ?_
        rotate_left; (intro w'; go_simp; with_reducible rfl); rotate_left; (simp only [sqa, sqb, sqc, sqd, i64_w, i32_w]; rfl)
        refine pu 34 179 (bl 39 21386756095) HT_.out (v := ?_) (a' := ?_) ?_ ?_ ?_
        rotate_left; (intro w'; go_simp; with_reducible rfl); rotate_left; (simp only [sqa, sqb, sqc, sqd, i64_w, i32_w]; rfl)
        refine tk 32 177 (bl 39 25681723391) HT_.out HW_.out hHeld (v := ?_) (a' := ?_) ?_ ?_ ?_
        rotate_left; (rintro w' ⟨s0, s1, s2, s3, s4, s5⟩; go_simp; with_reducible rfl); rotate_left; (simp only [sqa, sqb, sqc, sqd, i64_w, i32_w]; rfl)
        refine tk 35 180 (bl 39 60041461759) HT_.out HW_.out hHeld (v := ?_) (a' := ?_) ?_ ?_ ?_
        rotate_left; (rintro w' ⟨s0, s1, s2, s3, s4, s5⟩; go_simp; with_reducible rfl); rotate_left; (simp only [sqa, sqb, sqc, sqd, i64_w, i32_w]; rfl)
        refine on 22 167 (bl 39 60045656063) HT_.out (fun K hK => ?_)
        refine gs Try.func61 #[.slice Ao19 t466.length co19] ?_
        with_reducible refine (laws_eSum.calls kj11 _ _ t466 t494 _ ?side1 ?side2 A57.out).mono ?_
        (case side1 => exact cr HO_7)
        (case side2 => exact (Kd.R_reads' HO_7.out).2.1)
        rintro e w' ⟨rfl, ⟨nd, rfl⟩⟩
        refine ⟨_, rfl, ?_⟩
        refine hK.out _ _ ⟨bc0 BK470, bc1 BK470, hHeld.2.2.1, hHeld.2.2.2.1, hHeld.2.2.2.2.1, hHeld.2.2.2.2.2⟩ (fun hHeld => ?_)
        clear hK K
        refine norm_ (a' := ?_) ?_ ?_; rotate_left; (show Act.put _ (some 167) _ = _; simp only [sqa, sqb, sqc, sqd, i64_w, i32_w]; rfl)
        refine on 24 169 (bl 39 60062433279) HT_.out (fun K hK => ?_)
        refine gs Try.func61 #[.slice Ao62 t471.length co62] ?_
        with_reducible refine (laws_eSum.calls kj11 _ _ t471 t495 _ ?side1 ?side2 A58.out).mono ?_
        (case side1 => exact cr HO_8)
        (case side2 => exact (Kd.R_reads' HO_8.out).2.1)
        rintro e w' ⟨rfl, ⟨nd, rfl⟩⟩
        refine ⟨_, rfl, ?_⟩
        refine hK.out _ _ ⟨bc0 BK470, bc1 BK470, hHeld.2.2.1, hHeld.2.2.2.1, hHeld.2.2.2.2.1, hHeld.2.2.2.2.2⟩ (fun hHeld => ?_)
        clear hK K
        refine norm_ (a' := ?_) ?_ ?_; rotate_left; (show Act.put _ (some 169) _ = _; simp only [sqa, sqb, sqc, sqd, i64_w, i32_w]; rfl)
        refine pu 26 171 (bl 39 60129542143) HT_.out (v := ?_) (a' := ?_) ?_ ?_ ?_
        rotate_left; (intro w'; go_simp; with_reducible rfl); rotate_left; (simp only [sqa, sqb, sqc, sqd, i64_w, i32_w]; rfl)
        refine pu 33 178 (bl 39 68719476735) HT_.out (v := ?_) (a' := ?_) ?_ ?_ ?_
        rotate_left; (intro w'; go_simp; with_reducible rfl); rotate_left; (simp only [sqa, sqb, sqc, sqd, i64_w, i32_w]; rfl)
        refine pu 36 181 (bl 39 137438953471) HT_.out (v := ?_) (a' := ?_) ?_ ?_ ?_
        rotate_left; (intro w'; go_simp; with_reducible rfl); rotate_left; (simp only [sqa, sqb, sqc, sqd, i64_w, i32_w]; rfl)
        refine pu 37 182 (bl 39 274877906943) HT_.out (v := ?_) (a' := ?_) ?_ ?_ ?_
        rotate_left; (intro w'; go_simp; with_reducible rfl); rotate_left; (simp only [sqa, sqb, sqc, sqd, i64_w, i32_w]; rfl)
        refine pu 38 183 (bl 39 549755813887) HT_.out (v := ?_) (a' := ?_) ?_ ?_ ?_
        rotate_left; (intro w'; go_simp; with_reducible rfl); rotate_left; (simp only [sqa, sqb, sqc, sqd, i64_w, i32_w]; rfl)
        refine done_ (done_of HT_.out (by kernel_rfl)) ?_
        try go_wp2
        (refine Met.intro ?_; go_step; refine Cut_mk (by kernel_rfl) ?rel6)
        case rel6 => exact ⟨_, ((t494 != (wrap64 ((wrap64 ((wrap64 (t495 + t487)) + ((rd_T102 t479 (t471.length : Int)).f0))) - t464)))), (by first | rfl | (simp; done) | (simp [*]; done)), H', ⟨by first | exact Nat.le_refl _ | exact Nat.le_of_succ_le HJ11.out | (have := HJ11.out; omega)⟩, ⟨rk HO_7⟩, ⟨rk HO_8⟩, ⟨rk HO_12⟩, ⟨bk BK469⟩, ⟨bk BK470⟩, ⟨bw HB⟩⟩
      case rest5 =>
        intro u_ wc hcut l_ hl_; (simp only [rl, List.reduceReplicate, List.cons_append, List.nil_append, List.append_nil, Bool.not_true, Bool.not_false, fu, Nat.reduceAdd] at hl_); subst hl_; generalize u_ 183 = v183 at hcut ⊢
        clear HC52
        (try clear c1); (try clear c4); (try clear c49); (try clear c51); (try clear hcz17_0); (try clear hcz17_1); (try clear hcz17_2); (try clear hcz17_3); (try clear hcz18_0); (try clear hcz18_1); (try clear hcz21_0); (try clear hcz21_1); (try clear hcz21_2); (try clear hcz21_3); (try clear hcz22_0); (try clear hcz22_1); (try clear hcz24_0); (try clear hcz24_1); (try clear hcz24_2); (try clear hcz24_3); (try clear hcz25_0); (try clear hcz25_1); (try clear hcz27_0); (try clear hcz27_1); (try clear hcz27_2); (try clear hcz27_3); (try clear hcz28_0); (try clear hcz28_1); (try clear hcz30_0); (try clear hcz30_1); (try clear hcz30_2); (try clear hcz30_3); (try clear hcz31_0); (try clear hcz31_1); (try clear hcz33_0); (try clear hcz33_1); (try clear hcz33_2); (try clear hcz33_3); (try clear hcz34_0); (try clear hcz34_1); (try clear hfz17_0); (try clear hfz17_1); (try clear hfz17_2); (try clear hfz17_3); (try clear hfz18_0); (try clear hfz18_1); (try clear hfz21_0); (try clear hfz21_1); (try clear hfz21_2); (try clear hfz21_3); (try clear hfz22_0); (try clear hfz22_1); (try clear hfz24_0); (try clear hfz24_1); (try clear hfz24_2); (try clear hfz24_3); (try clear hfz25_0); (try clear hfz25_1); (try clear hfz27_0); (try clear hfz27_1); (try clear hfz27_2); (try clear hfz27_3); (try clear hfz28_0); (try clear hfz28_1); (try clear hfz30_0); (try clear hfz30_1); (try clear hfz30_2); (try clear hfz30_3); (try clear hfz31_0); (try clear hfz31_1); (try clear hfz33_0); (try clear hfz33_1); (try clear hfz33_2); (try clear hfz33_3); (try clear hfz34_0); (try clear hfz34_1)
        obtain ⟨kq, x183_51, rfl, HA, HJ51, HO_7, HO_8, HO_12, BK469, BK470, HB⟩ := hcut
        cases kq with
        | zero => exact absurd HA.out (by simp [laws_FnSiphonsKeepWater.j1])
        | succ kj51 =>
         have H := HA.out
         clear HA
         simp only [laws_FnSiphonsKeepWater.j1] at H
         by_cases c64 : x183_51 = true
         ·subst c64
          have H1 : (some false) = some r := by rw [if_pos rfl] at H; exact H
          clear H
          have H := H1
          clear H1
          exact absurd ((Option.some.inj H).trans hrt.out) (by decide)
         replace c64 := Bool.eq_false_iff.mpr c64
         subst c64
         have H1 : (laws_FnSiphonsKeepWater.l0 kj51 l1 t471 t479 t487 0 t466 (t466.length : Int) 0 t460 t461 t462 t463) = some r := by rw [if_neg (show ¬ (false = true) by decide)] at H; exact H
         clear H
         have H := H1
         clear H1
         have H' := Aside0.mk H
         clear H
         go_wp2
         try simp only [Act.put, List.setIfInBounds_toArray, List.set_cons_zero, List.set_cons_succ]
         refine loopF (rl [4, 1, 15, 9, 157, 71, 130] false) kj51 (fun kq u_ w' => ∃ (x20_3 : Int) (x186_3 : Int), (u_ 20) = .int .i64 x20_3 ∧ (u_ 186) = .int .i64 x186_3 ∧ Aside0 (laws_FnSiphonsKeepWater.l0 kq l1 t471 t479 t487 x20_3 t466 (t466.length : Int) x186_3 t460 t461 t462 t463 = some r) ∧ Aside0 (kq ≤ kj51) ∧ Aside0 (Kd.R (Kd.int .i64) 3 w' w.heap.size (fun k_ => some k_ ≠ ((.slice Ao19 t466.length co19) : Value).ownBlock) v472 t471) ∧ Aside0 (Kd.R k102 102 w' w.heap.size (fun k_ => k_ ≠ gb470) v480 t479) ∧ Aside0 (Kd.R (Kd.int .i64) 3 w' w.heap.size (fun k_ => some k_ ≠ (v472 : Value).ownBlock) (.slice Ao19 t466.length co19) t466) ∧ Aside0 (w'.heap[gb469]? = some (.cells #[.int .i64 t460, .int .i64 t461, .int .i64 t462, .int .i64 t463] 100 (0, 0))) ∧ Aside0 (w'.heap[gb470]? = some (.cells #[.int .i64 t464, .bool t465] 102 (0, 0))) ∧ Aside0 (Below w.heap.size w w')) ?atStart7 ?round7
         case atStart7 => exact ⟨(0), (0), (by first | rfl | (simp; done) | (simp [*]; done)), (by first | rfl | (simp; done) | (simp [*]; done)), H', ⟨Nat.le_refl _⟩, ⟨rk HO_8⟩, ⟨rk HO_12⟩, ⟨rk HO_7⟩, ⟨bk BK469⟩, ⟨bk BK470⟩, ⟨bw HB⟩⟩
         case round7 =>
          intro gk u_ wr hrel l_ hl_; (simp only [rl, List.reduceReplicate, List.cons_append, List.nil_append, List.append_nil, Bool.not_true, Bool.not_false, fu, Nat.reduceAdd] at hl_); subst hl_; generalize u_ 20 = v20 at hrel ⊢; generalize u_ 186 = v186 at hrel ⊢
          intro J_ K_ hJ_ hK_
          clear H'
          (try clear c1); (try clear c4); (try clear c49); (try clear c51); (try clear c64); (try clear hcz17_0); (try clear hcz17_1); (try clear hcz17_2); (try clear hcz17_3); (try clear hcz18_0); (try clear hcz18_1); (try clear hcz21_0); (try clear hcz21_1); (try clear hcz21_2); (try clear hcz21_3); (try clear hcz22_0); (try clear hcz22_1); (try clear hcz24_0); (try clear hcz24_1); (try clear hcz24_2); (try clear hcz24_3); (try clear hcz25_0); (try clear hcz25_1); (try clear hcz27_0); (try clear hcz27_1); (try clear hcz27_2); (try clear hcz27_3); (try clear hcz28_0); (try clear hcz28_1); (try clear hcz30_0); (try clear hcz30_1); (try clear hcz30_2); (try clear hcz30_3); (try clear hcz31_0); (try clear hcz31_1); (try clear hcz33_0); (try clear hcz33_1); (try clear hcz33_2); (try clear hcz33_3); (try clear hcz34_0); (try clear hcz34_1); (try clear hfz17_0); (try clear hfz17_1); (try clear hfz17_2); (try clear hfz17_3); (try clear hfz18_0); (try clear hfz18_1); (try clear hfz21_0); (try clear hfz21_1); (try clear hfz21_2); (try clear hfz21_3); (try clear hfz22_0); (try clear hfz22_1); (try clear hfz24_0); (try clear hfz24_1); (try clear hfz24_2); (try clear hfz24_3); (try clear hfz25_0); (try clear hfz25_1); (try clear hfz27_0); (try clear hfz27_1); (try clear hfz27_2); (try clear hfz27_3); (try clear hfz28_0); (try clear hfz28_1); (try clear hfz30_0); (try clear hfz30_1); (try clear hfz30_2); (try clear hfz30_3); (try clear hfz31_0); (try clear hfz31_1); (try clear hfz33_0); (try clear hfz33_1); (try clear hfz33_2); (try clear hfz33_3); (try clear hfz34_0); (try clear hfz34_1)
          obtain ⟨x20_3, x186_3, rfl, rfl, HA, HK3, HO_8, HO_12, HO_184, BK469, BK470, HB⟩ := hrel
          cases gk with
          | zero => exact absurd HA.out (by simp [laws_FnSiphonsKeepWater.l0])
          | succ k3 =>
           have H := HA.out
           clear HA
           simp only [laws_FnSiphonsKeepWater.l0] at H
           by_cases c65 : x186_3 < (t466.length : Int)
           rotate_left
           ·rw [if_neg c65] at H
            have c65b0 : decide (x186_3 < (t466.length : Int)) = false := decide_eq_false c65
            clear c65
            by_cases c113 : x20_3 = t487
            rotate_left
            ·rw [if_neg c113] at H
             have c113b0 : (x20_3 == t487) = false := beq_eq_false_iff_ne.mpr c113
             have c113b1 : (x20_3 != t487) = true := bne_iff_ne.mpr c113
             exact absurd ((Option.some.inj H).trans hrt.out) (by decide)
            rw [if_pos c113] at H
            have c113b0 : (x20_3 == t487) = true := beq_iff_eq.mpr c113
            have c113b1 : (x20_3 != t487) = false := bne_eq_false_iff_eq.mpr c113
            clear c113
            have H' := Aside0.mk H
            clear H
            go_wp2
            (refine Met.intro ?_; go_step; refine Cut_mk (by kernel_rfl) ?rel8)
            case rel8 => exact ⟨_, H', ⟨by first | exact Nat.le_refl _ | exact Nat.le_of_succ_le HK3.out | exact Nat.le_of_succ_le (Nat.le_trans HK3.out (Nat.le_of_succ_le HJ51.out)) | exact Nat.le_of_succ_le (Nat.le_trans (Nat.le_trans HK3.out (Nat.le_of_succ_le HJ51.out)) (Nat.le_of_succ_le HJ11.out)) | exact Nat.le_of_succ_le HJ51.out | exact Nat.le_of_succ_le (Nat.le_trans HJ51.out (Nat.le_of_succ_le HJ11.out)) | exact Nat.le_of_succ_le HJ11.out | (have := HJ11.out; have := HJ51.out; have := HK3.out; omega)⟩, ⟨bk BK469⟩, ⟨bk BK470⟩, ⟨bw HB⟩⟩
           rw [if_pos c65] at H
           have c65b0 : decide (x186_3 < (t466.length : Int)) = true := decide_eq_true c65
           clear c65
           by_cases c66 : 0 ≤ x186_3
           rotate_left
           ·rw [if_neg c66] at H
            exact absurd H (by simp)
           rw [if_pos c66] at H
           have c66b0 : decide (0 ≤ x186_3) = true := decide_eq_true c66
           clear c66
           by_cases c67 : x186_3 < (t466.length : Int)
           rotate_left
           ·rw [if_neg c67] at H
            exact absurd H (by simp)
           rw [if_pos c67] at H
           have c67b0 : decide (x186_3 < (t466.length : Int)) = true := decide_eq_true c67
           clear c67
           by_cases c68 : x186_3 < (t479.length : Int)
           rotate_left
           ·rw [if_neg c68] at H
            exact absurd H (by simp)
           rw [if_pos c68] at H
           have c68b0 : decide (x186_3 < (t479.length : Int)) = true := decide_eq_true c68
           clear c68
           replace H := Option.bind_eq_some_iff.mp H
           obtain ⟨⟨t499, t500, t501, t502, t503⟩, A690, H⟩ := H
           (try dsimp only at H)
           have A69 := Aside0.mk A690
           clear A690
           replace H := Option.bind_eq_some_iff.mp H
           obtain ⟨⟨t505, t506⟩, A700, H⟩ := H
           (try dsimp only at H)
           have A70 := Aside0.mk A700
           clear A700
           by_cases c71 : t503 = true
           rotate_left
           ·replace c71 := Bool.eq_false_iff.mpr c71
            subst c71
            have H1 : (some false) = some r := by rw [if_neg (show ¬ (false = true) by decide)] at H; exact H
            clear H
            have H := H1
            clear H1
            exact absurd ((Option.some.inj H).trans hrt.out) (by decide)
           subst c71
           have H1 : (if 0 ≤ (wrap64 (x186_3 + 1)) then (if (wrap64 (x186_3 + 1)) < (t479.length : Int) then (if (!(t499 == ((rd_T102 t479 (wrap64 (x186_3 + 1))).f0)) || (!(t500 == ((rd_T102 t479 (wrap64 (x186_3 + 1))).f1)))) = true then (some false) else (if x186_3 < (t471.length : Int) then (if t501 = (rd t471 x186_3) then (if t501 > t463 then (some false) else (if t506 = true then (if t505 = true then (if t500 = true then (if t499 ≤ t461 then (some false) else (laws_FnSiphonsKeepWater.l0 k3 l1 t471 t479 t487 (wrap64 (x20_3 + t502)) t466 (t466.length : Int) (wrap64 (x186_3 + 1)) t460 t461 t462 t463)) else (laws_FnSiphonsKeepWater.l0 k3 l1 t471 t479 t487 (wrap64 (x20_3 + t502)) t466 (t466.length : Int) (wrap64 (x186_3 + 1)) t460 t461 t462 t463)) else (some false)) else (some false))) else (some false)) else (none))) else (none)) else (none)) = some r := by rw [if_pos rfl] at H; exact H
           clear H
           have H := H1
           clear H1
           obtain ⟨ji72, hji72⟩ : ∃ j_ : Int, (wrap64 (x186_3 + 1)) = j_ := ⟨_, rfl⟩
           replace H : (if 0 ≤ (ji72) then (if (ji72) < (t479.length : Int) then (if (!(t499 == ((rd_T102 t479 (ji72)).f0)) || (!(t500 == ((rd_T102 t479 (ji72)).f1)))) = true then (some false) else (if x186_3 < (t471.length : Int) then (if t501 = (rd t471 x186_3) then (if t501 > t463 then (some false) else (if t506 = true then (if t505 = true then (if t500 = true then (if t499 ≤ t461 then (some false) else (laws_FnSiphonsKeepWater.l0 k3 l1 t471 t479 t487 (wrap64 (x20_3 + t502)) t466 (t466.length : Int) ji72 t460 t461 t462 t463)) else (laws_FnSiphonsKeepWater.l0 k3 l1 t471 t479 t487 (wrap64 (x20_3 + t502)) t466 (t466.length : Int) ji72 t460 t461 t462 t463)) else (some false)) else (some false))) else (some false)) else (none))) else (none)) else (none)) = some r := by first | (rw [hji72] at H; exact H) | (simp only [hji72] at H ⊢; exact H)
           (try rw [hji72] at A69)
           (try rw [hji72] at A70)
           have hji72w : (IntKind.i64.wrap (x186_3 + 1)) = ji72 := (i64_w _).trans hji72
           by_cases c73 : 0 ≤ (ji72)
           rotate_left
           ·rw [if_neg c73] at H
            exact absurd H (by simp)
           rw [if_pos c73] at H
           have c73b0 : decide (0 ≤ (ji72)) = true := decide_eq_true c73
           clear c73
           by_cases c74 : (ji72) < (t479.length : Int)
           rotate_left
           ·rw [if_neg c74] at H
            exact absurd H (by simp)
           rw [if_pos c74] at H
           have c74b0 : decide ((ji72) < (t479.length : Int)) = true := decide_eq_true c74
           clear c74
           by_cases c75 : (!(t499 == ((rd_T102 t479 (ji72)).f0)) || (!(t500 == ((rd_T102 t479 (ji72)).f1)))) = true
           ·rw [if_pos c75] at H
            have c75b0 : (!(t499 == ((rd_T102 t479 (ji72)).f0)) || (!(t500 == ((rd_T102 t479 (ji72)).f1)))) = true := c75
            clear c75
            exact absurd ((Option.some.inj H).trans hrt.out) (by decide)
           rw [if_neg c75] at H
           have c75b0 : (!(t499 == ((rd_T102 t479 (ji72)).f0)) || (!(t500 == ((rd_T102 t479 (ji72)).f1)))) = false := by simpa using c75
           clear c75
           by_cases c76 : x186_3 < (t471.length : Int)
           rotate_left
           ·rw [if_neg c76] at H
            exact absurd H (by simp)
           rw [if_pos c76] at H
           have c76b0 : decide (x186_3 < (t471.length : Int)) = true := decide_eq_true c76
           clear c76
           by_cases c77 : t501 = (rd t471 x186_3)
           rotate_left
           ·rw [if_neg c77] at H
            have c77b0 : (t501 == (rd t471 x186_3)) = false := beq_eq_false_iff_ne.mpr c77
            have c77b1 : (t501 != (rd t471 x186_3)) = true := bne_iff_ne.mpr c77
            exact absurd ((Option.some.inj H).trans hrt.out) (by decide)
           rw [if_pos c77] at H
           have c77b0 : (t501 == (rd t471 x186_3)) = true := beq_iff_eq.mpr c77
           have c77b1 : (t501 != (rd t471 x186_3)) = false := bne_eq_false_iff_eq.mpr c77
           clear c77
           by_cases c78 : t501 > t463
           ·rw [if_pos c78] at H
            have c78b0 : decide (t463 < t501) = true := decide_eq_true c78
            clear c78
            exact absurd ((Option.some.inj H).trans hrt.out) (by decide)
           rw [if_neg c78] at H
           have c78b0 : decide (t463 < t501) = false := decide_eq_false c78
           clear c78
           by_cases c79 : t506 = true
           rotate_left
           ·replace c79 := Bool.eq_false_iff.mpr c79
            subst c79
            have H1 : (some false) = some r := by rw [if_neg (show ¬ (false = true) by decide)] at H; exact H
            clear H
            have H := H1
            clear H1
            exact absurd ((Option.some.inj H).trans hrt.out) (by decide)
           subst c79
           have H1 : (if t505 = true then (if t500 = true then (if t499 ≤ t461 then (some false) else (laws_FnSiphonsKeepWater.l0 k3 l1 t471 t479 t487 (wrap64 (x20_3 + t502)) t466 (t466.length : Int) ji72 t460 t461 t462 t463)) else (laws_FnSiphonsKeepWater.l0 k3 l1 t471 t479 t487 (wrap64 (x20_3 + t502)) t466 (t466.length : Int) ji72 t460 t461 t462 t463)) else (some false)) = some r := by rw [if_pos rfl] at H; exact H
           clear H
           have H := H1
           clear H1
           by_cases c80 : t505 = true
           rotate_left
           ·replace c80 := Bool.eq_false_iff.mpr c80
            subst c80
            have H1 : (some false) = some r := by rw [if_neg (show ¬ (false = true) by decide)] at H; exact H
            clear H
            have H := H1
            clear H1
            exact absurd ((Option.some.inj H).trans hrt.out) (by decide)
           subst c80
           have H1 : (if t500 = true then (if t499 ≤ t461 then (some false) else (laws_FnSiphonsKeepWater.l0 k3 l1 t471 t479 t487 (wrap64 (x20_3 + t502)) t466 (t466.length : Int) ji72 t460 t461 t462 t463)) else (laws_FnSiphonsKeepWater.l0 k3 l1 t471 t479 t487 (wrap64 (x20_3 + t502)) t466 (t466.length : Int) ji72 t460 t461 t462 t463)) = some r := by rw [if_pos rfl] at H; exact H
           clear H
           have H := H1
           clear H1
           by_cases c81 : t500 = true
           rotate_left
           ·replace c81 := Bool.eq_false_iff.mpr c81
            subst c81
            have c75b2 : (!(t499 == ((rd_T102 t479 ji72).f0)) || (rd_T102 t479 ji72).f1) = false := by simpa using c75b0
            have H1 : (laws_FnSiphonsKeepWater.l0 k3 l1 t471 t479 t487 (wrap64 (x20_3 + t502)) t466 (t466.length : Int) ji72 t460 t461 t462 t463) = some r := by rw [if_neg (show ¬ (false = true) by decide)] at H; exact H
            clear H
            have H := H1
            clear H1
            have H' := Aside0.mk H
            clear H
            have p497 : 0 ≤ (x186_3 : Int) := of_decide_eq_true ‹_›
            have q497 : x186_3 < (t466.length : Int) := of_decide_eq_true ‹_›
            obtain ⟨ad497, e497, hx497_0⟩ := Kd.at_int (Kd.R_reads' HO_184.out).2.2 x186_3 p497 q497
            cases e497
            replace p497 := eq_true p497
            replace q497 := eq_true q497
            try go_wp2
            replace HO_8 := Aside0.mk (Kd.R_drew HO_8.out)
            replace HO_12 := Aside0.mk (Kd.R_drew HO_12.out)
            replace HO_184 := Aside0.mk (Kd.R_drew HO_184.out)
            replace BK469 := Aside0.mk (blk_drew BK469.out)
            replace BK470 := Aside0.mk (blk_drew BK470.out)
            replace HB := Aside0.mk (below_drew1 HB.out)
            obtain ⟨Ao99, co99, eo99⟩ := Kd.R_slice HO_12.out
            (first | subst eo99 | (injection eo99 with f1_ f2_ f3_; have f4_ := f1_.symm; have f5_ := f3_.symm; clear f1_ f2_ f3_; subst f4_; subst f5_))
            have p498 : 0 ≤ (x186_3 : Int) := of_decide_eq_true ‹_›
            have q498 : x186_3 < (t479.length : Int) := of_decide_eq_true ‹_›
            obtain ⟨ad498, e498, hx498_0, hx498_1⟩ := at_T102 (Kd.R_reads' HO_12.out).2.2 x186_3 p498 q498
            cases e498
            replace p498 := eq_true p498
            replace q498 := eq_true q498
            refine start_ (n := 17) (S := fun w' => w'.cell? ⟨gb469, 0, none⟩ = some (.int .i64 t460) ∧ w'.cell? ⟨gb469, 1, none⟩ = some (.int .i64 t461) ∧ w'.cell? ⟨gb469, 2, none⟩ = some (.int .i64 t462) ∧ w'.cell? ⟨gb469, 3, none⟩ = some (.int .i64 t463) ∧ w'.cell? (ad498.add ((x186_3).toNat * 2)) = some (.int .i64 ((rd_T102 t479 x186_3).f0)) ∧ w'.cell? ⟨(ad498.add ((x186_3).toNat * 2)).block, (ad498.add ((x186_3).toNat * 2)).off + 1, none⟩ = some (.bool ((rd_T102 t479 x186_3).f1))) (ds := []) (bl 17 0) (by kernel_rfl) rfl rfl ⟨bc0 BK469, bc1 BK469, bc2 BK469, bc3 BK469, hx498_0, hx498_1⟩ (fun hHeld => ?_); refine with_tabW laws_FnSiphonsKeepWater.tab19 laws_FnSiphonsKeepWater.bits19 (fun HT_ HW_ => ?_)
            generalize wr.drew = w98 at HO_8 HO_12 HO_184 BK469 BK470 HB hx498_0 hx498_1 hHeld ⊢
            refine pu 1 193 (bl 17 2) HT_.out (v := ?_) (a' := ?_) ?_ ?_ ?_
            rotate_left; (intro w'; go_simp; with_reducible rfl); rotate_left; (simp only [sqa, sqb, sqc, sqd, i64_w, i32_w]; rfl)
            refine pu 2 194 (bl 17 6) HT_.out (v := ?_) (a' := ?_) ?_ ?_ ?_
            rotate_left; (intro w'; go_simp; with_reducible rfl); rotate_left; (simp only [sqa, sqb, sqc, sqd, i64_w, i32_w]; rfl)
            refine pu 3 195 (bl 17 14) HT_.out (v := ?_) (a' := ?_) ?_ ?_ ?_
            rotate_left; (intro w'; go_simp; with_reducible rfl); rotate_left; (simp only [sqa, sqb, sqc, sqd, i64_w, i32_w]; rfl)
            refine pu 5 197 (bl 17 46) HT_.out (v := ?_) (a' := ?_) ?_ ?_ ?_
            rotate_left; (intro w'; go_simp; with_reducible rfl); rotate_left; (simp only [sqa, sqb, sqc, sqd, i64_w, i32_w]; rfl)
            refine tk 0 192 (bl 17 47) HT_.out HW_.out hHeld (v := ?_) (a' := ?_) ?_ ?_ ?_
            rotate_left; (rintro w' ⟨s0, s1, s2, s3, s4, s5⟩; go_simp; with_reducible rfl); rotate_left; (simp only [sqa, sqb, sqc, sqd, i64_w, i32_w]; rfl)
            refine tk 4 196 (bl 17 63) HT_.out HW_.out hHeld (v := ?_) (a' := ?_) ?_ ?_ ?_
            rotate_left; (rintro w' ⟨s0, s1, s2, s3, s4, s5⟩; go_simp; with_reducible rfl); rotate_left; (simp only [sqa, sqb, sqc, sqd, i64_w, i32_w]; rfl)
            refine join_ (σ := Nat) 4 (bl 17 8191) (fun s_ => [(198, .tuple #[.agg #[.int .i64 t499, .bool false], .int .i64 t501, .int .i64 t502, .bool true]), (23, .pointer (some ⟨s_, 0, none⟩)), (191, .tuple #[.agg #[.int .i64 t499, .bool false], .int .i64 t501, .int .i64 t502, .bool true]), (199, .agg #[.int .i64 t499, .bool false]), (200, .int .i64 t501), (201, .int .i64 t502), (202, .bool true)]) (fun s_ w' => (w'.cell? ⟨gb469, 0, none⟩ = some (.int .i64 t460) ∧ w'.cell? ⟨gb469, 1, none⟩ = some (.int .i64 t461) ∧ w'.cell? ⟨gb469, 2, none⟩ = some (.int .i64 t462) ∧ w'.cell? ⟨gb469, 3, none⟩ = some (.int .i64 t463) ∧ w'.cell? (ad498.add ((x186_3).toNat * 2)) = some (.int .i64 ((rd_T102 t479 x186_3).f0)) ∧ w'.cell? ⟨(ad498.add ((x186_3).toNat * 2)).block, (ad498.add ((x186_3).toNat * 2)).off + 1, none⟩ = some (.bool ((rd_T102 t479 x186_3).f1))) ∧ (Kd.R k102 102 w' w.heap.size (fun k_ => k_ ≠ gb470 ∧ k_ ≠ s_) (.slice (some ad498) t479.length co99) t479) ∧ (Kd.R (Kd.int .i64) 3 w' w.heap.size (fun k_ => some k_ ≠ (v472 : Value).ownBlock) (.slice (some ad497) t466.length co19) t466) ∧ (Kd.R (Kd.int .i64) 3 w' w.heap.size (fun k_ => some k_ ≠ (.slice (some ad497) t466.length co19 : Value).ownBlock) v472 t471) ∧ (w'.heap[gb469]? = some (.cells #[.int .i64 t460, .int .i64 t461, .int .i64 t462, .int .i64 t463] 100 (0, 0))) ∧ (w'.heap[gb470]? = some (.cells #[.int .i64 t464, .bool t465] 102 (0, 0))) ∧ (w'.heap[s_]? = some (.cells #[.int .i64 0, .bool false] 102 (0, 0))) ∧ (w.heap.size ≤ s_) ∧ (w.heap.size ≤ s_) ∧ (gb469 ≠ s_) ∧ (s_ ≠ gb469) ∧ (gb470 ≠ s_) ∧ (s_ ≠ gb470) ∧ (Below w.heap.size w w')) ?_ ?_
            rotate_left
            ·intro hCont
             refine two_ (i := 6) (j := 12) (Ni := some 198) (Nj := some 23) (bl 17 127) (bl 17 4159) rfl rfl rfl rfl (two_of HT_.out (by kernel_rfl)) (by decide) (by decide) (fun K hK => ?_) (fun K hK => ?_)
             ·skip
              refine gs Try.func106 #[.agg #[.int .i64 t460, .int .i64 t461, .int .i64 t462, .int .i64 t463], .agg #[.int .i64 ((rd_T102 t479 x186_3).f0), .bool ((rd_T102 t479 x186_3).f1)], .int .i64 (rd t466 x186_3)] ?_
              with_reducible refine (impl_TickSiphon.calls t460 t461 t462 t463 ((rd_T102 t479 x186_3).f0) ((rd_T102 t479 x186_3).f1) (rd t466 x186_3) t499 false t501 t502 true _ A69.out).mono ?_
              rintro e w100 ⟨rfl, hb⟩
              have HS4_ := (hb.cell (World.block_lt_of_cell? _ _ (hHeld.2.2.2.2.1))).trans (hHeld.2.2.2.2.1)
              have HS5_ := (hb.cell (World.block_lt_of_cell? _ _ (hHeld.2.2.2.2.2))).trans (hHeld.2.2.2.2.2)
              refine ⟨_, rfl, ?_⟩
              replace HO_8 := rb HO_8 hb
              replace HO_12 := rb HO_12 hb
              replace HO_184 := rb HO_184 hb
              replace BK469 := bb BK469 hb
              replace BK470 := bb BK470 hb
              replace HB := bs HB hb
              (try clear hb); (try clear hk)
              refine hK.out _ _ ⟨bc0 BK469, bc1 BK469, bc2 BK469, bc3 BK469, HS4_, HS5_⟩ (fun hHeld => ?_)
              clear hK K
              refine norm_ (a' := ?_) ?_ ?_; rotate_left; (show Act.put _ (some 198) _ = _; simp only [sqa, sqb, sqc, sqd, i64_w, i32_w]; rfl)
              refine pu 7 191 (bl 17 255) HT_.out (v := ?_) (a' := ?_) ?_ ?_ ?_
              rotate_left; (intro w'; go_simp; with_reducible rfl); rotate_left; (simp only [sqa, sqb, sqc, sqd, i64_w, i32_w]; rfl)
              refine pu 8 199 (bl 17 511) HT_.out (v := ?_) (a' := ?_) ?_ ?_ ?_
              rotate_left; (intro w'; go_simp; with_reducible rfl); rotate_left; (simp only [sqa, sqb, sqc, sqd, i64_w, i32_w]; rfl)
              refine pu 9 200 (bl 17 1023) HT_.out (v := ?_) (a' := ?_) ?_ ?_ ?_
              rotate_left; (intro w'; go_simp; with_reducible rfl); rotate_left; (simp only [sqa, sqb, sqc, sqd, i64_w, i32_w]; rfl)
              refine pu 10 201 (bl 17 2047) HT_.out (v := ?_) (a' := ?_) ?_ ?_ ?_
              rotate_left; (intro w'; go_simp; with_reducible rfl); rotate_left; (simp only [sqa, sqb, sqc, sqd, i64_w, i32_w]; rfl)
              refine pu 11 202 (bl 17 4095) HT_.out (v := ?_) (a' := ?_) ?_ ?_ ?_
              rotate_left; (intro w'; go_simp; with_reducible rfl); rotate_left; (simp only [sqa, sqb, sqc, sqd, i64_w, i32_w]; rfl)
              refine on 12 23 (bl 17 8191) HT_.out (fun K hK => ?_)
              refine box_step ?hg (N := 23) ?hd (cs := #[.int .i64 0, .bool false]) (t := 102) ?hr ?_; (case hd => rfl); (case hg => rfl); (case hr => first | (go_simp; done) | (go_simp; rfl))
              intro gb504 hg w101 hbox hb
              have HS4_ := (hb.cell (World.block_lt_of_cell? _ _ (hHeld.2.2.2.2.1))).trans (hHeld.2.2.2.2.1)
              have HS5_ := (hb.cell (World.block_lt_of_cell? _ _ (hHeld.2.2.2.2.2))).trans (hHeld.2.2.2.2.2)
              replace HO_8 := rb HO_8 hb
              replace HO_12 := Aside0.mk (Kd.R_below (Kd.R_elderB (rk HO_12) gb504 (Nat.le_of_eq hg.symm)) hb)
              replace HO_184 := rb HO_184 hb
              have BK504 := Aside0.mk (hbox)
              have GW504 := ge HB hg
              have GE504 := ge HB hg
              replace HB := bs HB hb
              have NB469_504 := nl BK469 hg
              have NB504_469 := nr BK469 hg
              replace BK469 := bb BK469 hb
              have NB470_504 := nl BK470 hg
              have NB504_470 := nr BK470 hg
              replace BK470 := bb BK470 hb
              clear hb hbox hg
              refine hK.out _ _ ⟨bc0 BK469, bc1 BK469, bc2 BK469, bc3 BK469, HS4_, HS5_⟩ (fun hHeld => ?_)
              clear hK K
              refine norm_ (a' := ?_) ?_ ?_; rotate_left; (show Act.put _ (some 23) _ = _; simp only [sqa, sqb, sqc, sqd, i64_w, i32_w]; rfl)
              exact norm_ (by simp only [putAll, Act.put, List.setIfInBounds_toArray, List.set_cons_zero, List.set_cons_succ]) (hCont (gb504) _ ⟨hHeld, (rk HO_12), (rk HO_184), (rk HO_8), (bk BK469), (bk BK470), (bk BK504), GW504.out, GE504.out, NB469_504.out, NB504_469.out, NB470_504.out, NB504_470.out, (bw HB)⟩)
             ·skip
              refine box_step ?hg (N := 23) ?hd (cs := #[.int .i64 0, .bool false]) (t := 102) ?hr ?_; (case hd => rfl); (case hg => rfl); (case hr => first | (go_simp; done) | (go_simp; rfl))
              intro gb504 hg w100 hbox hb
              have HS4_ := (hb.cell (World.block_lt_of_cell? _ _ (hHeld.2.2.2.2.1))).trans (hHeld.2.2.2.2.1)
              have HS5_ := (hb.cell (World.block_lt_of_cell? _ _ (hHeld.2.2.2.2.2))).trans (hHeld.2.2.2.2.2)
              replace HO_8 := rb HO_8 hb
              replace HO_12 := Aside0.mk (Kd.R_below (Kd.R_elderB (rk HO_12) gb504 (Nat.le_of_eq hg.symm)) hb)
              replace HO_184 := rb HO_184 hb
              have BK504 := Aside0.mk (hbox)
              have GW504 := ge HB hg
              have GE504 := ge HB hg
              replace HB := bs HB hb
              have NB469_504 := nl BK469 hg
              have NB504_469 := nr BK469 hg
              replace BK469 := bb BK469 hb
              have NB470_504 := nl BK470 hg
              have NB504_470 := nr BK470 hg
              replace BK470 := bb BK470 hb
              clear hb hbox hg
              refine hK.out _ _ ⟨bc0 BK469, bc1 BK469, bc2 BK469, bc3 BK469, HS4_, HS5_⟩ (fun hHeld => ?_)
              clear hK K
              refine norm_ (a' := ?_) ?_ ?_; rotate_left; (show Act.put _ (some 23) _ = _; simp only [sqa, sqb, sqc, sqd, i64_w, i32_w]; rfl)
              refine on 6 198 (bl 17 4223) HT_.out (fun K hK => ?_)
              refine gs Try.func106 #[.agg #[.int .i64 t460, .int .i64 t461, .int .i64 t462, .int .i64 t463], .agg #[.int .i64 ((rd_T102 t479 x186_3).f0), .bool ((rd_T102 t479 x186_3).f1)], .int .i64 (rd t466 x186_3)] ?_
              with_reducible refine (impl_TickSiphon.calls t460 t461 t462 t463 ((rd_T102 t479 x186_3).f0) ((rd_T102 t479 x186_3).f1) (rd t466 x186_3) t499 false t501 t502 true _ A69.out).mono ?_
              rintro e w101 ⟨rfl, hb⟩
              have HS4_ := (hb.cell (World.block_lt_of_cell? _ _ (hHeld.2.2.2.2.1))).trans (hHeld.2.2.2.2.1)
              have HS5_ := (hb.cell (World.block_lt_of_cell? _ _ (hHeld.2.2.2.2.2))).trans (hHeld.2.2.2.2.2)
              refine ⟨_, rfl, ?_⟩
              replace HO_8 := rb HO_8 hb
              replace HO_12 := rb HO_12 hb
              replace HO_184 := rb HO_184 hb
              replace BK469 := bb BK469 hb
              replace BK470 := bb BK470 hb
              replace BK504 := bb BK504 hb
              replace HB := bs HB hb
              (try clear hb); (try clear hk)
              refine hK.out _ _ ⟨bc0 BK469, bc1 BK469, bc2 BK469, bc3 BK469, HS4_, HS5_⟩ (fun hHeld => ?_)
              clear hK K
              refine norm_ (a' := ?_) ?_ ?_; rotate_left; (show Act.put _ (some 198) _ = _; simp only [sqa, sqb, sqc, sqd, i64_w, i32_w]; rfl)
              refine pu 7 191 (bl 17 4351) HT_.out (v := ?_) (a' := ?_) ?_ ?_ ?_
              rotate_left; (intro w'; go_simp; with_reducible rfl); rotate_left; (simp only [sqa, sqb, sqc, sqd, i64_w, i32_w]; rfl)
              refine pu 8 199 (bl 17 4607) HT_.out (v := ?_) (a' := ?_) ?_ ?_ ?_
              rotate_left; (intro w'; go_simp; with_reducible rfl); rotate_left; (simp only [sqa, sqb, sqc, sqd, i64_w, i32_w]; rfl)
              refine pu 9 200 (bl 17 5119) HT_.out (v := ?_) (a' := ?_) ?_ ?_ ?_
              rotate_left; (intro w'; go_simp; with_reducible rfl); rotate_left; (simp only [sqa, sqb, sqc, sqd, i64_w, i32_w]; rfl)
              refine pu 10 201 (bl 17 6143) HT_.out (v := ?_) (a' := ?_) ?_ ?_ ?_
              rotate_left; (intro w'; go_simp; with_reducible rfl); rotate_left; (simp only [sqa, sqb, sqc, sqd, i64_w, i32_w]; rfl)
              refine pu 11 202 (bl 17 8191) HT_.out (v := ?_) (a' := ?_) ?_ ?_ ?_
              rotate_left; (intro w'; go_simp; with_reducible rfl); rotate_left; (simp only [sqa, sqb, sqc, sqd, i64_w, i32_w]; rfl)
              exact norm_ (by simp only [putAll, Act.put, List.setIfInBounds_toArray, List.set_cons_zero, List.set_cons_succ]) (hCont (gb504) _ ⟨hHeld, (rk HO_12), (rk HO_184), (rk HO_8), (bk BK469), (bk BK470), (bk BK504), GW504.out, GE504.out, NB469_504.out, NB504_469.out, NB470_504.out, NB504_470.out, (bw HB)⟩)
            rintro gb504 w102 ⟨hS_, h0_, h1_, h2_, h3_, h4_, h5_, h6_, h7_, h8_, h9_, h10_, h11_, h12_⟩
            replace HO_12 := Aside0.mk h0_
            replace HO_184 := Aside0.mk h1_
            replace HO_8 := Aside0.mk h2_
            replace BK469 := Aside0.mk h3_
            replace BK470 := Aside0.mk h4_
            have BK504 := Aside0.mk h5_
            have GW504 := GeC.mk h6_
            have GE504 := GeC.mk h7_
            have NB469_504 := NeC.mk h8_
            have NB504_469 := NeC.mk h9_
            have NB470_504 := NeC.mk h10_
            have NB504_470 := NeC.mk h11_
            replace HB := Aside0.mk h12_
            clear h0_ h1_ h2_ h3_ h4_ h5_ h6_ h7_ h8_ h9_ h10_ h11_ h12_
            have hHeld : w102.cell? ⟨gb469, 0, none⟩ = some (.int .i64 t460) ∧ w102.cell? ⟨gb469, 1, none⟩ = some (.int .i64 t461) ∧ w102.cell? ⟨gb469, 2, none⟩ = some (.int .i64 t462) ∧ w102.cell? ⟨gb469, 3, none⟩ = some (.int .i64 t463) ∧ w102.cell? (ad498.add ((x186_3).toNat * 2)) = some (.int .i64 ((rd_T102 t479 x186_3).f0)) ∧ w102.cell? ⟨(ad498.add ((x186_3).toNat * 2)).block, (ad498.add ((x186_3).toNat * 2)).off + 1, none⟩ = some (.bool ((rd_T102 t479 x186_3).f1)) := hS_
            refine norm_ (a' := ?_) ?_ ?_
            rotate_left
            ·simp only [putAll, Act.put, List.setIfInBounds_toArray, List.set_cons_zero, List.set_cons_succ]
             rfl
            refine one_ (i := 13) (N := none) (bl 17 16383) rfl rfl (one_of HT_.out (by kernel_rfl)) (by decide) (fun K hK => ?_)
            have hs103 : w102.cell? ⟨gb504, 0, none⟩ = some (.int .i64 0) := bc0 BK504
            have hfs103 := blk_frozen BK504.out 0
            have hns103_0 := NB469_504.out
            have hns103_1 := NB470_504.out
            have hms103_0 := NB504_469.out
            have hms103_1 := NB504_470.out
            have hs104 : w102.cell? ⟨gb504, 1, none⟩ = some (.bool false) := bc1 BK504
            have hfs104 := blk_frozen BK504.out 1
            have hns104_0 := NB469_504.out
            have hns104_1 := NB470_504.out
            have hms104_0 := NB504_469.out
            have hms104_1 := NB504_470.out
            refine skip_ (w1 := ?_) (by rfl) rfl ?_ ?_
            rotate_left
            ·go_simp
             rfl
            refine hK.out _ _ ⟨((cell_far (p := ⟨gb504, _, none⟩) NB469_504.out _).trans (((cell_far (p := ⟨gb504, _, none⟩) NB469_504.out _).trans (hHeld.1)))), ((cell_far (p := ⟨gb504, _, none⟩) NB469_504.out _).trans (((cell_far (p := ⟨gb504, _, none⟩) NB469_504.out _).trans (hHeld.2.1)))), ((cell_far (p := ⟨gb504, _, none⟩) NB469_504.out _).trans (((cell_far (p := ⟨gb504, _, none⟩) NB469_504.out _).trans (hHeld.2.2.1)))), ((cell_far (p := ⟨gb504, _, none⟩) NB469_504.out _).trans (((cell_far (p := ⟨gb504, _, none⟩) NB469_504.out _).trans (hHeld.2.2.2.1)))), ((cell_far (p := ⟨gb504, _, none⟩) (by first | exact Kd.own_blk (Kd.R_away HO_12.out (fun _ hk => hk.2)) | (rw [add_block]; exact Kd.own_blk (Kd.R_away HO_12.out (fun _ hk => hk.2))) | (show (Addr.add _ _).block ≠ _; rw [add_block]; exact Kd.own_blk (Kd.R_away HO_12.out (fun _ hk => hk.2))) | (dsimp only; exact Kd.own_blk (Kd.R_away HO_12.out (fun _ hk => hk.2)))) _).trans (((cell_far (p := ⟨gb504, _, none⟩) (by first | exact Kd.own_blk (Kd.R_away HO_12.out (fun _ hk => hk.2)) | (rw [add_block]; exact Kd.own_blk (Kd.R_away HO_12.out (fun _ hk => hk.2))) | (show (Addr.add _ _).block ≠ _; rw [add_block]; exact Kd.own_blk (Kd.R_away HO_12.out (fun _ hk => hk.2))) | (dsimp only; exact Kd.own_blk (Kd.R_away HO_12.out (fun _ hk => hk.2)))) _).trans (hHeld.2.2.2.2.1)))), ((cell_far (p := ⟨gb504, _, none⟩) (by first | exact Kd.own_blk (Kd.R_away HO_12.out (fun _ hk => hk.2)) | (rw [add_block]; exact Kd.own_blk (Kd.R_away HO_12.out (fun _ hk => hk.2))) | (show (Addr.add _ _).block ≠ _; rw [add_block]; exact Kd.own_blk (Kd.R_away HO_12.out (fun _ hk => hk.2))) | (dsimp only; exact Kd.own_blk (Kd.R_away HO_12.out (fun _ hk => hk.2)))) _).trans (((cell_far (p := ⟨gb504, _, none⟩) (by first | exact Kd.own_blk (Kd.R_away HO_12.out (fun _ hk => hk.2)) | (rw [add_block]; exact Kd.own_blk (Kd.R_away HO_12.out (fun _ hk => hk.2))) | (show (Addr.add _ _).block ≠ _; rw [add_block]; exact Kd.own_blk (Kd.R_away HO_12.out (fun _ hk => hk.2))) | (dsimp only; exact Kd.own_blk (Kd.R_away HO_12.out (fun _ hk => hk.2)))) _).trans (hHeld.2.2.2.2.2))))⟩ (fun hHeld => ?_)
            clear hK K
            refine pu 14 24 (bl 17 32767) HT_.out (v := ?_) (a' := ?_) ?_ ?_ ?_
            rotate_left; (intro w'; go_simp; with_reducible rfl); rotate_left; (simp only [sqa, sqb, sqc, sqd, i64_w, i32_w]; rfl)
            refine pu 15 25 (bl 17 65535) HT_.out (v := ?_) (a' := ?_) ?_ ?_ ?_
            rotate_left; (intro w'; go_simp; with_reducible rfl); rotate_left; (simp only [sqa, sqb, sqc, sqd, i64_w, i32_w]; rfl)
            refine pu 16 26 (bl 17 131071) HT_.out (v := ?_) (a' := ?_) ?_ ?_ ?_
            rotate_left; (intro w'; go_simp; with_reducible rfl); rotate_left; (simp only [sqa, sqb, sqc, sqd, i64_w, i32_w]; rfl)
            refine done_ (done_of HT_.out (by kernel_rfl)) ?_
            have hnb105 := NB469_470.out
            have hnc105 := NB470_469.out
            have hnb106 := NB469_504.out
            have hnc106 := NB504_469.out
            have hcz107_0 := bc0 BK469
            have hcz107_1 := bc1 BK469
            have hcz107_2 := bc2 BK469
            have hcz107_3 := bc3 BK469
            have hfz107_0 := blk_frozen BK469.out 0
            have hfz107_1 := blk_frozen BK469.out 1
            have hfz107_2 := blk_frozen BK469.out 2
            have hfz107_3 := blk_frozen BK469.out 3
            have hnb108 := NB504_470.out
            have hnc108 := NB470_504.out
            have hcz109_0 := bc0 BK504
            have hcz109_1 := bc1 BK504
            have hfz109_0 := blk_frozen BK504.out 0
            have hfz109_1 := blk_frozen BK504.out 1
            try go_wp2_with (first | ((with_reducible refine gate_callee (f := 107) rfl ?_); refine gl 206 Try.func107 #[.agg #[.int .i64 t460, .int .i64 t461, .int .i64 t462, .int .i64 t463], .agg #[.int .i64 t499, .bool false]] ?_; (with_reducible refine (impl_IsSiphonLevel.calls t460 t461 t462 t463 t499 false true true _ A70.out).mono ?_); rintro e w110 ⟨rfl, hb⟩; refine ⟨_, rfl, ?_⟩; replace HO_8 := Aside0.mk (Kd.R_below (by exact (Kd.R_mono (Kd.R_far (p := ⟨gb504, 1, none⟩) (Kd.R_far (p := ⟨gb504, 0, none⟩) (Kd.R_types HO_8.out BK504.out (by decide)) (fun _ hk => hk.2) (.int .i64 t499)) (fun _ hk => hk.2) (.bool false)) (fun _ h_ => h_.1))) hb); replace HO_12 := Aside0.mk (Kd.R_below (by exact (Kd.R_mono (Kd.R_far (p := ⟨gb504, 1, none⟩) (Kd.R_far (p := ⟨gb504, 0, none⟩) (Kd.R_mono HO_12.out (fun k_ hk => (⟨hk, hk.2⟩ : _ ∧ k_ ≠ gb504))) (fun _ hk => hk.2) (.int .i64 t499)) (fun _ hk => hk.2) (.bool false)) (fun _ h_ => h_.1))) hb); replace HO_184 := Aside0.mk (Kd.R_below (by exact (Kd.R_mono (Kd.R_far (p := ⟨gb504, 1, none⟩) (Kd.R_far (p := ⟨gb504, 0, none⟩) (Kd.R_types HO_184.out BK504.out (by decide)) (fun _ hk => hk.2) (.int .i64 t499)) (fun _ hk => hk.2) (.bool false)) (fun _ h_ => h_.1))) hb); replace BK469 := bb BK469 hb; replace BK470 := bb BK470 hb; replace BK504 := Aside0.mk (blk_below (g := gb504) (o := .cells #[.int .i64 t499, .bool false] 102 (0, 0)) (by refine blk_put (cs := #[.int .i64 t499, .bool false]) ?_ 1 _ rfl; refine blk_put (cs := #[.int .i64 0, .bool false]) ?_ 0 _ rfl; exact bk BK504) hb); replace HB := bs HB hb; (try clear hb)))
            replace HO_8 := Aside0.mk (Kd.R_drew HO_8.out)
            replace HO_12 := Aside0.mk (Kd.R_drew HO_12.out)
            replace HO_184 := Aside0.mk (Kd.R_drew HO_184.out)
            replace BK469 := Aside0.mk (blk_drew BK469.out)
            replace BK470 := Aside0.mk (blk_drew BK470.out)
            replace BK504 := Aside0.mk (blk_drew BK504.out)
            replace HB := Aside0.mk (below_drew1 HB.out)
            have p507 : 0 ≤ ((ji72) : Int) := of_decide_eq_true ‹_›
            have q507 : (ji72) < (t479.length : Int) := of_decide_eq_true ‹_›
            obtain ⟨ad507, e507, hx507_0, hx507_1⟩ := at_T102 (Kd.R_reads' HO_12.out).2.2 (ji72) p507 q507
            obtain rfl : ad498 = ad507 := (by injection e507)
            replace p507 := eq_true p507
            replace q507 := eq_true q507
            obtain ⟨Ao112, co112, eo112⟩ := Kd.R_slice HO_8.out
            (first | subst eo112 | (injection eo112 with f1_ f2_ f3_; have f4_ := f1_.symm; have f5_ := f3_.symm; clear f1_ f2_ f3_; subst f4_; subst f5_))
            have p508 : 0 ≤ (x186_3 : Int) := of_decide_eq_true ‹_›
            have q508 : x186_3 < (t471.length : Int) := of_decide_eq_true ‹_›
            obtain ⟨ad508, e508, hx508_0⟩ := Kd.at_int (Kd.R_reads' HO_8.out).2.2 x186_3 p508 q508
            cases e508
            replace p508 := eq_true p508
            replace q508 := eq_true q508
            refine start_ (n := 44) (S := fun w' => w'.cell? ⟨gb504, 0, none⟩ = some (.int .i64 t499) ∧ w'.cell? ⟨gb504, 1, none⟩ = some (.bool false) ∧ w'.cell? ⟨gb469, 0, none⟩ = some (.int .i64 t460) ∧ w'.cell? ⟨gb469, 1, none⟩ = some (.int .i64 t461) ∧ w'.cell? ⟨gb469, 2, none⟩ = some (.int .i64 t462) ∧ w'.cell? ⟨gb469, 3, none⟩ = some (.int .i64 t463) ∧ w'.cell? (ad498.add (((ji72)).toNat * 2)) = some (.int .i64 ((rd_T102 t479 (ji72)).f0)) ∧ w'.cell? ⟨(ad498.add (((ji72)).toNat * 2)).block, (ad498.add (((ji72)).toNat * 2)).off + 1, none⟩ = some (.bool ((rd_T102 t479 (ji72)).f1)) ∧ w'.cell? (ad508.add (x186_3).toNat) = some (.int .i64 (rd t471 x186_3))) (ds := []) (bl 44 0) (by kernel_rfl) rfl rfl ⟨bc0 BK504, bc1 BK504, bc0 BK469, bc1 BK469, bc2 BK469, bc3 BK469, hx507_0, hx507_1, hx508_0⟩ (fun hHeld => ?_); refine with_tabW laws_FnSiphonsKeepWater.tab21 laws_FnSiphonsKeepWater.bits21 (fun HT_ HW_ => ?_)
            generalize w110.drew = w111 at HO_8 HO_12 HO_184 BK469 BK470 BK504 HB hx507_0 hx507_1 hx508_0 hHeld ⊢
            refine pu 0 209 (bl 44 1) HT_.out (v := ?_) (a' := ?_) ?_ ?_ ?_
            rotate_left; (intro w'; go_simp; with_reducible rfl); rotate_left; (simp only [sqa, sqb, sqc, sqd, i64_w, i32_w]; rfl)
            refine pu 1 210 (bl 44 3) HT_.out (v := ?_) (a' := ?_) ?_ ?_ ?_
            rotate_left; (intro w'; go_simp; with_reducible rfl); rotate_left; (simp only [sqa, sqb, sqc, sqd, i64_w, i32_w]; rfl)
            refine pu 2 211 (bl 44 7) HT_.out (v := ?_) (a' := ?_) ?_ ?_ ?_
            rotate_left; (intro w'; go_simp; with_reducible rfl); rotate_left; (simp only [sqa, sqb, sqc, sqd, i64_w, i32_w]; rfl)
            refine pu 4 213 (bl 44 23) HT_.out (v := ?_) (a' := ?_) ?_ ?_ ?_
            rotate_left; (intro w'; go_simp; with_reducible rfl); rotate_left; (simp only [sqa, sqb, sqc, sqd, i64_w, i32_w]; rfl)
            refine pu 5 214 (bl 44 55) HT_.out (v := ?_) (a' := ?_) ?_ ?_ ?_
            rotate_left; (intro w'; go_simp; with_reducible rfl); rotate_left; (simp only [sqa, sqb, sqc, sqd, i64_w, i32_w]; rfl)
            refine pu 6 215 (bl 44 119) HT_.out (v := ?_) (a' := ?_) ?_ ?_ ?_
            rotate_left; (intro w'; go_simp; with_reducible rfl); rotate_left; (simp only [sqa, sqb, sqc, sqd, i64_w, i32_w]; rfl)
            refine pu 7 216 (bl 44 247) HT_.out (v := ?_) (a' := ?_) ?_ ?_ ?_
            rotate_left; (intro w'; go_simp; with_reducible rfl); rotate_left; (simp only [sqa, sqb, sqc, sqd, i64_w, i32_w]; rfl)
            refine tk 3 212 (bl 44 255) HT_.out HW_.out hHeld (v := ?_) (a' := ?_) ?_ ?_ ?_
            rotate_left; (rintro w' ⟨s0, s1, s2, s3, s4, s5, s6, s7, s8⟩; go_simp; with_reducible rfl); rotate_left; (simp only [sqa, sqb, sqc, sqd, i64_w, i32_w]; rfl)
            refine tk 8 217 (bl 44 511) HT_.out HW_.out hHeld (v := ?_) (a' := ?_) ?_ ?_ ?_
            rotate_left; (rintro w' ⟨s0, s1, s2, s3, s4, s5, s6, s7, s8⟩; go_simp; with_reducible rfl); rotate_left; (simp only [sqa, sqb, sqc, sqd, i64_w, i32_w]; rfl)
            refine pu 9 218 (bl 44 1023) HT_.out (v := ?_) (a' := ?_) ?_ ?_ ?_
            rotate_left; (intro w'; go_simp; with_reducible rfl); rotate_left; (simp only [sqa, sqb, sqc, sqd, i64_w, i32_w]; rfl)
            refine pu 10 219 (bl 44 2047) HT_.out (v := ?_) (a' := ?_) ?_ ?_ ?_
            rotate_left; (intro w'; go_simp; with_reducible rfl); rotate_left; (simp only [sqa, sqb, sqc, sqd, i64_w, i32_w]; rfl)
            refine pu 11 220 (bl 44 4095) HT_.out (v := ?_) (a' := ?_) ?_ ?_ ?_
            rotate_left; (intro w'; go_simp; with_reducible rfl); rotate_left; (simp only [sqa, sqb, sqc, sqd, i64_w, i32_w]; rfl)
            refine pu 12 221 (bl 44 8191) HT_.out (v := ?_) (a' := ?_) ?_ ?_ ?_
            rotate_left; (intro w'; go_simp; with_reducible rfl); rotate_left; (simp only [sqa, sqb, sqc, sqd, i64_w, i32_w]; rfl)
            refine pu 13 222 (bl 44 16383) HT_.out (v := ?_) (a' := ?_) ?_ ?_ ?_
            rotate_left; (intro w'; go_simp; with_reducible rfl); rotate_left; (simp only [sqa, sqb, sqc, sqd, i64_w, i32_w]; rfl)
            refine pu 14 223 (bl 44 32767) HT_.out (v := ?_) (a' := ?_) ?_ ?_ ?_
            rotate_left; (intro w'; go_simp; with_reducible rfl); rotate_left; (simp only [sqa, sqb, sqc, sqd, i64_w, i32_w]; rfl)
            refine pu 15 224 (bl 44 65535) HT_.out (v := ?_) (a' := ?_) ?_ ?_ ?_
            rotate_left; (intro w'; go_simp; with_reducible rfl); rotate_left; (simp only [sqa, sqb, sqc, sqd, i64_w, i32_w]; rfl)
            refine tk 16 225 (bl 44 131071) HT_.out HW_.out hHeld (v := ?_) (a' := ?_) ?_ ?_ ?_
            rotate_left; (rintro w' ⟨s0, s1, s2, s3, s4, s5, s6, s7, s8⟩; go_simp; with_reducible rfl); rotate_left; (simp only [sqa, sqb, sqc, sqd, i64_w, i32_w]; rfl)
            refine pu 17 226 (bl 44 262143) HT_.out (v := ?_) (a' := ?_) ?_ ?_ ?_
            rotate_left; (intro w'; go_simp; with_reducible rfl); rotate_left; (simp only [sqa, sqb, sqc, sqd, i64_w, i32_w]; rfl)
            refine pu 18 227 (bl 44 524287) HT_.out (v := ?_) (a' := ?_) ?_ ?_ ?_
            rotate_left; (intro w'; go_simp; with_reducible rfl); rotate_left; (simp only [sqa, sqb, sqc, sqd, i64_w, i32_w]; rfl)
            refine pu 19 228 (bl 44 1048575) HT_.out (v := ?_) (a' := ?_) ?_ ?_ ?_
            rotate_left; (intro w'; go_simp; with_reducible rfl); rotate_left; (simp only [sqa, sqb, sqc, sqd, i64_w, i32_w]; rfl)
            refine pu 20 229 (bl 44 2097151) HT_.out (v := ?_) (a' := ?_) ?_ ?_ ?_
            rotate_left; (intro w'; go_simp; with_reducible rfl); rotate_left; (simp only [sqa, sqb, sqc, sqd, i64_w, i32_w]; rfl)
            refine pu 21 230 (bl 44 4194303) HT_.out (v := ?_) (a' := ?_) ?_ ?_ ?_
            rotate_left; (intro w'; go_simp; with_reducible rfl); rotate_left; (simp only [sqa, sqb, sqc, sqd, i64_w, i32_w]; rfl)
            refine tk 22 231 (bl 44 8388607) HT_.out HW_.out hHeld (v := ?_) (a' := ?_) ?_ ?_ ?_
            rotate_left; (rintro w' ⟨s0, s1, s2, s3, s4, s5, s6, s7, s8⟩; go_simp; with_reducible rfl); rotate_left; (simp only [sqa, sqb, sqc, sqd, i64_w, i32_w]; rfl)
            refine pu 23 232 (bl 44 16777215) HT_.out (v := ?_) (a' := ?_) ?_ ?_ ?_
            rotate_left; (intro w'; go_simp; with_reducible rfl); rotate_left; (simp only [sqa, sqb, sqc, sqd, i64_w, i32_w]; rfl)
            refine pu 24 233 (bl 44 33554431) HT_.out (v := ?_) (a' := ?_) ?_ ?_ ?_
            rotate_left; (intro w'; go_simp; with_reducible rfl); rotate_left; (simp only [sqa, sqb, sqc, sqd, i64_w, i32_w]; rfl)
            refine pu 25 234 (bl 44 67108863) HT_.out (v := ?_) (a' := ?_) ?_ ?_ ?_
            rotate_left; (intro w'; go_simp; with_reducible rfl); rotate_left; (simp only [sqa, sqb, sqc, sqd, i64_w, i32_w]; rfl)
            refine pu 26 235 (bl 44 134217727) HT_.out (v := ?_) (a' := ?_) ?_ ?_ ?_
            rotate_left; (intro w'; go_simp; with_reducible rfl); rotate_left; (simp only [sqa, sqb, sqc, sqd, i64_w, i32_w]; rfl)
            refine pu 27 236 (bl 44 268435455) HT_.out (v := ?_) (a' := ?_) ?_ ?_ ?_
            rotate_left; (intro w'; go_simp; with_reducible rfl); rotate_left; (simp only [sqa, sqb, sqc, sqd, i64_w, i32_w]; rfl)
            refine pu 28 237 (bl 44 536870911) HT_.out (v := ?_) (a' := ?_) ?_ ?_ ?_
            rotate_left; (intro w'; go_simp; with_reducible rfl); rotate_left; (simp only [sqa, sqb, sqc, sqd, i64_w, i32_w]; rfl)
            refine pu 29 238 (bl 44 1073741823) HT_.out (v := ?_) (a' := ?_) ?_ ?_ ?_
            rotate_left; (intro w'; go_simp; with_reducible rfl); rotate_left; (simp only [sqa, sqb, sqc, sqd, i64_w, i32_w]; rfl)
            refine pu 30 239 (bl 44 2147483647) HT_.out (v := ?_) (a' := ?_) ?_ ?_ ?_
            rotate_left; (intro w'; go_simp; with_reducible rfl); rotate_left; (simp only [sqa, sqb, sqc, sqd, i64_w, i32_w]; rfl)
            refine pu 31 240 (bl 44 4294967295) HT_.out (v := ?_) (a' := ?_) ?_ ?_ ?_
            rotate_left; (intro w'; go_simp; with_reducible rfl); rotate_left; (simp only [sqa, sqb, sqc, sqd, i64_w, i32_w]; rfl)
            refine pu 32 241 (bl 44 8589934591) HT_.out (v := ?_) (a' := ?_) ?_ ?_ ?_
            rotate_left; (intro w'; go_simp; with_reducible rfl); rotate_left; (simp only [sqa, sqb, sqc, sqd, i64_w, i32_w]; rfl)
            refine pu 33 242 (bl 44 17179869183) HT_.out (v := ?_) (a' := ?_) ?_ ?_ ?_
            rotate_left; (intro w'; go_simp; with_reducible rfl); rotate_left; (simp only [sqa, sqb, sqc, sqd, i64_w, i32_w]; rfl)
            refine pu 34 243 (bl 44 34359738367) HT_.out (v := ?_) (a' := ?_) ?_ ?_ ?_
            rotate_left; (intro w'; go_simp; with_reducible rfl); rotate_left; (simp only [sqa, sqb, sqc, sqd, i64_w, i32_w]; rfl)
            refine tk 35 244 (bl 44 68719476735) HT_.out HW_.out hHeld (v := ?_) (a' := ?_) ?_ ?_ ?_
            rotate_left; (rintro w' ⟨s0, s1, s2, s3, s4, s5, s6, s7, s8⟩; go_simp; with_reducible rfl); rotate_left; (simp only [sqa, sqb, sqc, sqd, i64_w, i32_w]; rfl)
            refine pu 36 245 (bl 44 137438953471) HT_.out (v := ?_) (a' := ?_) ?_ ?_ ?_
            rotate_left; (intro w'; go_simp; with_reducible rfl); rotate_left; (simp only [sqa, sqb, sqc, sqd, i64_w, i32_w]; rfl)
            refine pure_ (i := 37) (N := some 246) (v := undef) (a' := ?_) (bl 44 274877906943) rfl rfl (any_of HT_.out (by kernel_rfl)) (fun _ _ _ h => h) (Or.inr ⟨by rfl, rfl⟩) ?_ ?_
            rotate_left
            ·simp only [sqa, sqb, sqc, sqd, i64_w, i32_w]
             rfl
            refine pure_ (i := 38) (N := some 247) (v := undef) (a' := ?_) (bl 44 549755813887) rfl rfl (any_of HT_.out (by kernel_rfl)) (fun _ _ _ h => h) (Or.inr ⟨by rfl, rfl⟩) ?_ ?_
            rotate_left
            ·simp only [sqa, sqb, sqc, sqd, i64_w, i32_w]
             rfl
            refine pure_ (i := 39) (N := some 248) (v := undef) (a' := ?_) (bl 44 1099511627775) rfl rfl (any_of HT_.out (by kernel_rfl)) (fun _ _ _ h => h) (Or.inr ⟨by rfl, rfl⟩) ?_ ?_
            rotate_left
            ·simp only [sqa, sqb, sqc, sqd, i64_w, i32_w]
             rfl
            refine pure_ (i := 40) (N := some 249) (v := undef) (a' := ?_) (bl 44 2199023255551) rfl rfl (any_of HT_.out (by kernel_rfl)) (fun _ _ _ h => h) (Or.inr ⟨by rfl, rfl⟩) ?_ ?_
            rotate_left
            ·simp only [sqa, sqb, sqc, sqd, i64_w, i32_w]
             rfl
            refine pure_ (i := 41) (N := some 250) (v := undef) (a' := ?_) (bl 44 4398046511103) rfl rfl (any_of HT_.out (by kernel_rfl)) (fun _ _ _ h => h) (Or.inr ⟨by rfl, rfl⟩) ?_ ?_
            rotate_left
            ·simp only [sqa, sqb, sqc, sqd, i64_w, i32_w]
             rfl
            refine pu 42 251 (bl 44 8796093022207) HT_.out (v := ?_) (a' := ?_) ?_ ?_ ?_
            rotate_left; (intro w'; go_simp; with_reducible rfl); rotate_left; (simp only [sqa, sqb, sqc, sqd, i64_w, i32_w]; rfl)
            refine pu 43 252 (bl 44 17592186044415) HT_.out (v := ?_) (a' := ?_) ?_ ?_ ?_
            rotate_left; (intro w'; go_simp; with_reducible rfl); rotate_left; (simp only [sqa, sqb, sqc, sqd, i64_w, i32_w]; rfl)
            refine done_ (done_of HT_.out (by kernel_rfl)) ?_
            try go_wp2
            (refine Handed.intro k3 ?measure9 ?_; rotate_left; go_step; refine LoopI_mk (by kernel_rfl) ?rel9)
            case measure9 => have := HJ11.out; have := HJ51.out; have := HK3.out; omega
            case rel9 => exact ⟨(wrap64 (x20_3 + t502)), (ji72), (by first | rfl | (simp; done) | (simp [*]; done)), (by first | rfl | (simp; done) | (simp only [← hji72] <;> (first | rfl | simp)) | (simp [*]; done)), H', ⟨by have := HJ11.out; have := HJ51.out; have := HK3.out; omega⟩, ⟨rk HO_8⟩, ⟨by exact Kd.R_mono HO_12.out (fun _ hk => hk.1)⟩, ⟨rk HO_184⟩, ⟨bk BK469⟩, ⟨bk BK470⟩, ⟨bw HB⟩⟩
           subst c81
           have c75b2 : (!(t499 == ((rd_T102 t479 ji72).f0)) || !(rd_T102 t479 ji72).f1) = false := by simpa using c75b0
           have H1 : (if t499 ≤ t461 then (some false) else (laws_FnSiphonsKeepWater.l0 k3 l1 t471 t479 t487 (wrap64 (x20_3 + t502)) t466 (t466.length : Int) ji72 t460 t461 t462 t463)) = some r := by rw [if_pos rfl] at H; exact H
           clear H
           have H := H1
           clear H1
           by_cases c82 : t499 ≤ t461
           ·rw [if_pos c82] at H
            have c82b0 : decide (t499 ≤ t461) = true := decide_eq_true c82
            clear c82
            exact absurd ((Option.some.inj H).trans hrt.out) (by decide)
           rw [if_neg c82] at H
           have c82b0 : decide (t499 ≤ t461) = false := decide_eq_false c82
           clear c82
           have H' := Aside0.mk H
           clear H
           have p497 : 0 ≤ (x186_3 : Int) := of_decide_eq_true ‹_›
           have q497 : x186_3 < (t466.length : Int) := of_decide_eq_true ‹_›
           obtain ⟨ad497, e497, hx497_0⟩ := Kd.at_int (Kd.R_reads' HO_184.out).2.2 x186_3 p497 q497
           cases e497
           replace p497 := eq_true p497
           replace q497 := eq_true q497
           try go_wp2
           replace HO_8 := Aside0.mk (Kd.R_drew HO_8.out)
           replace HO_12 := Aside0.mk (Kd.R_drew HO_12.out)
           replace HO_184 := Aside0.mk (Kd.R_drew HO_184.out)
           replace BK469 := Aside0.mk (blk_drew BK469.out)
           replace BK470 := Aside0.mk (blk_drew BK470.out)
           replace HB := Aside0.mk (below_drew1 HB.out)
           obtain ⟨Ao84, co84, eo84⟩ := Kd.R_slice HO_12.out
           (first | subst eo84 | (injection eo84 with f1_ f2_ f3_; have f4_ := f1_.symm; have f5_ := f3_.symm; clear f1_ f2_ f3_; subst f4_; subst f5_))
           have p498 : 0 ≤ (x186_3 : Int) := of_decide_eq_true ‹_›
           have q498 : x186_3 < (t479.length : Int) := of_decide_eq_true ‹_›
           obtain ⟨ad498, e498, hx498_0, hx498_1⟩ := at_T102 (Kd.R_reads' HO_12.out).2.2 x186_3 p498 q498
           cases e498
           replace p498 := eq_true p498
           replace q498 := eq_true q498
           refine start_ (n := 17) (S := fun w' => w'.cell? ⟨gb469, 0, none⟩ = some (.int .i64 t460) ∧ w'.cell? ⟨gb469, 1, none⟩ = some (.int .i64 t461) ∧ w'.cell? ⟨gb469, 2, none⟩ = some (.int .i64 t462) ∧ w'.cell? ⟨gb469, 3, none⟩ = some (.int .i64 t463) ∧ w'.cell? (ad498.add ((x186_3).toNat * 2)) = some (.int .i64 ((rd_T102 t479 x186_3).f0)) ∧ w'.cell? ⟨(ad498.add ((x186_3).toNat * 2)).block, (ad498.add ((x186_3).toNat * 2)).off + 1, none⟩ = some (.bool ((rd_T102 t479 x186_3).f1))) (ds := []) (bl 17 0) (by kernel_rfl) rfl rfl ⟨bc0 BK469, bc1 BK469, bc2 BK469, bc3 BK469, hx498_0, hx498_1⟩ (fun hHeld => ?_); refine with_tabW laws_FnSiphonsKeepWater.tab19 laws_FnSiphonsKeepWater.bits19 (fun HT_ HW_ => ?_)
           generalize wr.drew = w83 at HO_8 HO_12 HO_184 BK469 BK470 HB hx498_0 hx498_1 hHeld ⊢
           refine pu 1 193 (bl 17 2) HT_.out (v := ?_) (a' := ?_) ?_ ?_ ?_
           rotate_left; (intro w'; go_simp; with_reducible rfl); rotate_left; (simp only [sqa, sqb, sqc, sqd, i64_w, i32_w]; rfl)
           refine pu 2 194 (bl 17 6) HT_.out (v := ?_) (a' := ?_) ?_ ?_ ?_
           rotate_left; (intro w'; go_simp; with_reducible rfl); rotate_left; (simp only [sqa, sqb, sqc, sqd, i64_w, i32_w]; rfl)
           refine pu 3 195 (bl 17 14) HT_.out (v := ?_) (a' := ?_) ?_ ?_ ?_
           rotate_left; (intro w'; go_simp; with_reducible rfl); rotate_left; (simp only [sqa, sqb, sqc, sqd, i64_w, i32_w]; rfl)
           refine pu 5 197 (bl 17 46) HT_.out (v := ?_) (a' := ?_) ?_ ?_ ?_
           rotate_left; (intro w'; go_simp; with_reducible rfl); rotate_left; (simp only [sqa, sqb, sqc, sqd, i64_w, i32_w]; rfl)
           refine tk 0 192 (bl 17 47) HT_.out HW_.out hHeld (v := ?_) (a' := ?_) ?_ ?_ ?_
           rotate_left; (rintro w' ⟨s0, s1, s2, s3, s4, s5⟩; go_simp; with_reducible rfl); rotate_left; (simp only [sqa, sqb, sqc, sqd, i64_w, i32_w]; rfl)
           refine tk 4 196 (bl 17 63) HT_.out HW_.out hHeld (v := ?_) (a' := ?_) ?_ ?_ ?_
           rotate_left; (rintro w' ⟨s0, s1, s2, s3, s4, s5⟩; go_simp; with_reducible rfl); rotate_left; (simp only [sqa, sqb, sqc, sqd, i64_w, i32_w]; rfl)
           refine join_ (σ := Nat) 4 (bl 17 8191) (fun s_ => [(198, .tuple #[.agg #[.int .i64 t499, .bool true], .int .i64 t501, .int .i64 t502, .bool true]), (23, .pointer (some ⟨s_, 0, none⟩)), (191, .tuple #[.agg #[.int .i64 t499, .bool true], .int .i64 t501, .int .i64 t502, .bool true]), (199, .agg #[.int .i64 t499, .bool true]), (200, .int .i64 t501), (201, .int .i64 t502), (202, .bool true)]) (fun s_ w' => (w'.cell? ⟨gb469, 0, none⟩ = some (.int .i64 t460) ∧ w'.cell? ⟨gb469, 1, none⟩ = some (.int .i64 t461) ∧ w'.cell? ⟨gb469, 2, none⟩ = some (.int .i64 t462) ∧ w'.cell? ⟨gb469, 3, none⟩ = some (.int .i64 t463) ∧ w'.cell? (ad498.add ((x186_3).toNat * 2)) = some (.int .i64 ((rd_T102 t479 x186_3).f0)) ∧ w'.cell? ⟨(ad498.add ((x186_3).toNat * 2)).block, (ad498.add ((x186_3).toNat * 2)).off + 1, none⟩ = some (.bool ((rd_T102 t479 x186_3).f1))) ∧ (Kd.R k102 102 w' w.heap.size (fun k_ => k_ ≠ gb470 ∧ k_ ≠ s_) (.slice (some ad498) t479.length co84) t479) ∧ (Kd.R (Kd.int .i64) 3 w' w.heap.size (fun k_ => some k_ ≠ (v472 : Value).ownBlock) (.slice (some ad497) t466.length co19) t466) ∧ (Kd.R (Kd.int .i64) 3 w' w.heap.size (fun k_ => some k_ ≠ (.slice (some ad497) t466.length co19 : Value).ownBlock) v472 t471) ∧ (w'.heap[gb469]? = some (.cells #[.int .i64 t460, .int .i64 t461, .int .i64 t462, .int .i64 t463] 100 (0, 0))) ∧ (w'.heap[gb470]? = some (.cells #[.int .i64 t464, .bool t465] 102 (0, 0))) ∧ (w'.heap[s_]? = some (.cells #[.int .i64 0, .bool false] 102 (0, 0))) ∧ (w.heap.size ≤ s_) ∧ (w.heap.size ≤ s_) ∧ (gb469 ≠ s_) ∧ (s_ ≠ gb469) ∧ (gb470 ≠ s_) ∧ (s_ ≠ gb470) ∧ (Below w.heap.size w w')) ?_ ?_
           rotate_left
           ·intro hCont
            refine two_ (i := 6) (j := 12) (Ni := some 198) (Nj := some 23) (bl 17 127) (bl 17 4159) rfl rfl rfl rfl (two_of HT_.out (by kernel_rfl)) (by decide) (by decide) (fun K hK => ?_) (fun K hK => ?_)
            ·skip
             refine gs Try.func106 #[.agg #[.int .i64 t460, .int .i64 t461, .int .i64 t462, .int .i64 t463], .agg #[.int .i64 ((rd_T102 t479 x186_3).f0), .bool ((rd_T102 t479 x186_3).f1)], .int .i64 (rd t466 x186_3)] ?_
             with_reducible refine (impl_TickSiphon.calls t460 t461 t462 t463 ((rd_T102 t479 x186_3).f0) ((rd_T102 t479 x186_3).f1) (rd t466 x186_3) t499 true t501 t502 true _ A69.out).mono ?_
             rintro e w85 ⟨rfl, hb⟩
             have HS4_ := (hb.cell (World.block_lt_of_cell? _ _ (hHeld.2.2.2.2.1))).trans (hHeld.2.2.2.2.1)
             have HS5_ := (hb.cell (World.block_lt_of_cell? _ _ (hHeld.2.2.2.2.2))).trans (hHeld.2.2.2.2.2)
             refine ⟨_, rfl, ?_⟩
             replace HO_8 := rb HO_8 hb
             replace HO_12 := rb HO_12 hb
             replace HO_184 := rb HO_184 hb
             replace BK469 := bb BK469 hb
             replace BK470 := bb BK470 hb
             replace HB := bs HB hb
             (try clear hb); (try clear hk)
             refine hK.out _ _ ⟨bc0 BK469, bc1 BK469, bc2 BK469, bc3 BK469, HS4_, HS5_⟩ (fun hHeld => ?_)
             clear hK K
             refine norm_ (a' := ?_) ?_ ?_; rotate_left; (show Act.put _ (some 198) _ = _; simp only [sqa, sqb, sqc, sqd, i64_w, i32_w]; rfl)
             refine pu 7 191 (bl 17 255) HT_.out (v := ?_) (a' := ?_) ?_ ?_ ?_
             rotate_left; (intro w'; go_simp; with_reducible rfl); rotate_left; (simp only [sqa, sqb, sqc, sqd, i64_w, i32_w]; rfl)
             refine pu 8 199 (bl 17 511) HT_.out (v := ?_) (a' := ?_) ?_ ?_ ?_
             rotate_left; (intro w'; go_simp; with_reducible rfl); rotate_left; (simp only [sqa, sqb, sqc, sqd, i64_w, i32_w]; rfl)
             refine pu 9 200 (bl 17 1023) HT_.out (v := ?_) (a' := ?_) ?_ ?_ ?_
             rotate_left; (intro w'; go_simp; with_reducible rfl); rotate_left; (simp only [sqa, sqb, sqc, sqd, i64_w, i32_w]; rfl)
             refine pu 10 201 (bl 17 2047) HT_.out (v := ?_) (a' := ?_) ?_ ?_ ?_
             rotate_left; (intro w'; go_simp; with_reducible rfl); rotate_left; (simp only [sqa, sqb, sqc, sqd, i64_w, i32_w]; rfl)
             refine pu 11 202 (bl 17 4095) HT_.out (v := ?_) (a' := ?_) ?_ ?_ ?_
             rotate_left; (intro w'; go_simp; with_reducible rfl); rotate_left; (simp only [sqa, sqb, sqc, sqd, i64_w, i32_w]; rfl)
             refine on 12 23 (bl 17 8191) HT_.out (fun K hK => ?_)
             refine box_step ?hg (N := 23) ?hd (cs := #[.int .i64 0, .bool false]) (t := 102) ?hr ?_; (case hd => rfl); (case hg => rfl); (case hr => first | (go_simp; done) | (go_simp; rfl))
             intro gb504 hg w86 hbox hb
             have HS4_ := (hb.cell (World.block_lt_of_cell? _ _ (hHeld.2.2.2.2.1))).trans (hHeld.2.2.2.2.1)
             have HS5_ := (hb.cell (World.block_lt_of_cell? _ _ (hHeld.2.2.2.2.2))).trans (hHeld.2.2.2.2.2)
             replace HO_8 := rb HO_8 hb
             replace HO_12 := Aside0.mk (Kd.R_below (Kd.R_elderB (rk HO_12) gb504 (Nat.le_of_eq hg.symm)) hb)
             replace HO_184 := rb HO_184 hb
             have BK504 := Aside0.mk (hbox)
             have GW504 := ge HB hg
             have GE504 := ge HB hg
             replace HB := bs HB hb
             have NB469_504 := nl BK469 hg
             have NB504_469 := nr BK469 hg
             replace BK469 := bb BK469 hb
             have NB470_504 := nl BK470 hg
             have NB504_470 := nr BK470 hg
             replace BK470 := bb BK470 hb
             clear hb hbox hg
             refine hK.out _ _ ⟨bc0 BK469, bc1 BK469, bc2 BK469, bc3 BK469, HS4_, HS5_⟩ (fun hHeld => ?_)
             clear hK K
             refine norm_ (a' := ?_) ?_ ?_; rotate_left; (show Act.put _ (some 23) _ = _; simp only [sqa, sqb, sqc, sqd, i64_w, i32_w]; rfl)
             exact norm_ (by simp only [putAll, Act.put, List.setIfInBounds_toArray, List.set_cons_zero, List.set_cons_succ]) (hCont (gb504) _ ⟨hHeld, (rk HO_12), (rk HO_184), (rk HO_8), (bk BK469), (bk BK470), (bk BK504), GW504.out, GE504.out, NB469_504.out, NB504_469.out, NB470_504.out, NB504_470.out, (bw HB)⟩)
            ·skip
             refine box_step ?hg (N := 23) ?hd (cs := #[.int .i64 0, .bool false]) (t := 102) ?hr ?_; (case hd => rfl); (case hg => rfl); (case hr => first | (go_simp; done) | (go_simp; rfl))
             intro gb504 hg w85 hbox hb
             have HS4_ := (hb.cell (World.block_lt_of_cell? _ _ (hHeld.2.2.2.2.1))).trans (hHeld.2.2.2.2.1)
             have HS5_ := (hb.cell (World.block_lt_of_cell? _ _ (hHeld.2.2.2.2.2))).trans (hHeld.2.2.2.2.2)
             replace HO_8 := rb HO_8 hb
             replace HO_12 := Aside0.mk (Kd.R_below (Kd.R_elderB (rk HO_12) gb504 (Nat.le_of_eq hg.symm)) hb)
             replace HO_184 := rb HO_184 hb
             have BK504 := Aside0.mk (hbox)
             have GW504 := ge HB hg
             have GE504 := ge HB hg
             replace HB := bs HB hb
             have NB469_504 := nl BK469 hg
             have NB504_469 := nr BK469 hg
             replace BK469 := bb BK469 hb
             have NB470_504 := nl BK470 hg
             have NB504_470 := nr BK470 hg
             replace BK470 := bb BK470 hb
             clear hb hbox hg
             refine hK.out _ _ ⟨bc0 BK469, bc1 BK469, bc2 BK469, bc3 BK469, HS4_, HS5_⟩ (fun hHeld => ?_)
             clear hK K
             refine norm_ (a' := ?_) ?_ ?_; rotate_left; (show Act.put _ (some 23) _ = _; simp only [sqa, sqb, sqc, sqd, i64_w, i32_w]; rfl)
             refine on 6 198 (bl 17 4223) HT_.out (fun K hK => ?_)
             refine gs Try.func106 #[.agg #[.int .i64 t460, .int .i64 t461, .int .i64 t462, .int .i64 t463], .agg #[.int .i64 ((rd_T102 t479 x186_3).f0), .bool ((rd_T102 t479 x186_3).f1)], .int .i64 (rd t466 x186_3)] ?_
             with_reducible refine (impl_TickSiphon.calls t460 t461 t462 t463 ((rd_T102 t479 x186_3).f0) ((rd_T102 t479 x186_3).f1) (rd t466 x186_3) t499 true t501 t502 true _ A69.out).mono ?_
             rintro e w86 ⟨rfl, hb⟩
             have HS4_ := (hb.cell (World.block_lt_of_cell? _ _ (hHeld.2.2.2.2.1))).trans (hHeld.2.2.2.2.1)
             have HS5_ := (hb.cell (World.block_lt_of_cell? _ _ (hHeld.2.2.2.2.2))).trans (hHeld.2.2.2.2.2)
             refine ⟨_, rfl, ?_⟩
             replace HO_8 := rb HO_8 hb
             replace HO_12 := rb HO_12 hb
             replace HO_184 := rb HO_184 hb
             replace BK469 := bb BK469 hb
             replace BK470 := bb BK470 hb
             replace BK504 := bb BK504 hb
             replace HB := bs HB hb
             (try clear hb); (try clear hk)
             refine hK.out _ _ ⟨bc0 BK469, bc1 BK469, bc2 BK469, bc3 BK469, HS4_, HS5_⟩ (fun hHeld => ?_)
             clear hK K
             refine norm_ (a' := ?_) ?_ ?_; rotate_left; (show Act.put _ (some 198) _ = _; simp only [sqa, sqb, sqc, sqd, i64_w, i32_w]; rfl)
             refine pu 7 191 (bl 17 4351) HT_.out (v := ?_) (a' := ?_) ?_ ?_ ?_
             rotate_left; (intro w'; go_simp; with_reducible rfl); rotate_left; (simp only [sqa, sqb, sqc, sqd, i64_w, i32_w]; rfl)
             refine pu 8 199 (bl 17 4607) HT_.out (v := ?_) (a' := ?_) ?_ ?_ ?_
             rotate_left; (intro w'; go_simp; with_reducible rfl); rotate_left; (simp only [sqa, sqb, sqc, sqd, i64_w, i32_w]; rfl)
             refine pu 9 200 (bl 17 5119) HT_.out (v := ?_) (a' := ?_) ?_ ?_ ?_
             rotate_left; (intro w'; go_simp; with_reducible rfl); rotate_left; (simp only [sqa, sqb, sqc, sqd, i64_w, i32_w]; rfl)
             refine pu 10 201 (bl 17 6143) HT_.out (v := ?_) (a' := ?_) ?_ ?_ ?_
             rotate_left; (intro w'; go_simp; with_reducible rfl); rotate_left; (simp only [sqa, sqb, sqc, sqd, i64_w, i32_w]; rfl)
             refine pu 11 202 (bl 17 8191) HT_.out (v := ?_) (a' := ?_) ?_ ?_ ?_
             rotate_left; (intro w'; go_simp; with_reducible rfl); rotate_left; (simp only [sqa, sqb, sqc, sqd, i64_w, i32_w]; rfl)
             exact norm_ (by simp only [putAll, Act.put, List.setIfInBounds_toArray, List.set_cons_zero, List.set_cons_succ]) (hCont (gb504) _ ⟨hHeld, (rk HO_12), (rk HO_184), (rk HO_8), (bk BK469), (bk BK470), (bk BK504), GW504.out, GE504.out, NB469_504.out, NB504_469.out, NB470_504.out, NB504_470.out, (bw HB)⟩)
           rintro gb504 w87 ⟨hS_, h0_, h1_, h2_, h3_, h4_, h5_, h6_, h7_, h8_, h9_, h10_, h11_, h12_⟩
           replace HO_12 := Aside0.mk h0_
           replace HO_184 := Aside0.mk h1_
           replace HO_8 := Aside0.mk h2_
           replace BK469 := Aside0.mk h3_
           replace BK470 := Aside0.mk h4_
           have BK504 := Aside0.mk h5_
           have GW504 := GeC.mk h6_
           have GE504 := GeC.mk h7_
           have NB469_504 := NeC.mk h8_
           have NB504_469 := NeC.mk h9_
           have NB470_504 := NeC.mk h10_
           have NB504_470 := NeC.mk h11_
           replace HB := Aside0.mk h12_
           clear h0_ h1_ h2_ h3_ h4_ h5_ h6_ h7_ h8_ h9_ h10_ h11_ h12_
           have hHeld : w87.cell? ⟨gb469, 0, none⟩ = some (.int .i64 t460) ∧ w87.cell? ⟨gb469, 1, none⟩ = some (.int .i64 t461) ∧ w87.cell? ⟨gb469, 2, none⟩ = some (.int .i64 t462) ∧ w87.cell? ⟨gb469, 3, none⟩ = some (.int .i64 t463) ∧ w87.cell? (ad498.add ((x186_3).toNat * 2)) = some (.int .i64 ((rd_T102 t479 x186_3).f0)) ∧ w87.cell? ⟨(ad498.add ((x186_3).toNat * 2)).block, (ad498.add ((x186_3).toNat * 2)).off + 1, none⟩ = some (.bool ((rd_T102 t479 x186_3).f1)) := hS_
           refine norm_ (a' := ?_) ?_ ?_
           rotate_left
           ·simp only [putAll, Act.put, List.setIfInBounds_toArray, List.set_cons_zero, List.set_cons_succ]
            rfl
           refine one_ (i := 13) (N := none) (bl 17 16383) rfl rfl (one_of HT_.out (by kernel_rfl)) (by decide) (fun K hK => ?_)
           have hs88 : w87.cell? ⟨gb504, 0, none⟩ = some (.int .i64 0) := bc0 BK504
           have hfs88 := blk_frozen BK504.out 0
           have hns88_0 := NB469_504.out
           have hns88_1 := NB470_504.out
           have hms88_0 := NB504_469.out
           have hms88_1 := NB504_470.out
           have hs89 : w87.cell? ⟨gb504, 1, none⟩ = some (.bool false) := bc1 BK504
           have hfs89 := blk_frozen BK504.out 1
           have hns89_0 := NB469_504.out
           have hns89_1 := NB470_504.out
           have hms89_0 := NB504_469.out
           have hms89_1 := NB504_470.out
           refine skip_ (w1 := ?_) (by rfl) rfl ?_ ?_
           rotate_left
           ·go_simp
            rfl
           refine hK.out _ _ ⟨((cell_far (p := ⟨gb504, _, none⟩) NB469_504.out _).trans (((cell_far (p := ⟨gb504, _, none⟩) NB469_504.out _).trans (hHeld.1)))), ((cell_far (p := ⟨gb504, _, none⟩) NB469_504.out _).trans (((cell_far (p := ⟨gb504, _, none⟩) NB469_504.out _).trans (hHeld.2.1)))), ((cell_far (p := ⟨gb504, _, none⟩) NB469_504.out _).trans (((cell_far (p := ⟨gb504, _, none⟩) NB469_504.out _).trans (hHeld.2.2.1)))), ((cell_far (p := ⟨gb504, _, none⟩) NB469_504.out _).trans (((cell_far (p := ⟨gb504, _, none⟩) NB469_504.out _).trans (hHeld.2.2.2.1)))), ((cell_far (p := ⟨gb504, _, none⟩) (by first | exact Kd.own_blk (Kd.R_away HO_12.out (fun _ hk => hk.2)) | (rw [add_block]; exact Kd.own_blk (Kd.R_away HO_12.out (fun _ hk => hk.2))) | (show (Addr.add _ _).block ≠ _; rw [add_block]; exact Kd.own_blk (Kd.R_away HO_12.out (fun _ hk => hk.2))) | (dsimp only; exact Kd.own_blk (Kd.R_away HO_12.out (fun _ hk => hk.2)))) _).trans (((cell_far (p := ⟨gb504, _, none⟩) (by first | exact Kd.own_blk (Kd.R_away HO_12.out (fun _ hk => hk.2)) | (rw [add_block]; exact Kd.own_blk (Kd.R_away HO_12.out (fun _ hk => hk.2))) | (show (Addr.add _ _).block ≠ _; rw [add_block]; exact Kd.own_blk (Kd.R_away HO_12.out (fun _ hk => hk.2))) | (dsimp only; exact Kd.own_blk (Kd.R_away HO_12.out (fun _ hk => hk.2)))) _).trans (hHeld.2.2.2.2.1)))), ((cell_far (p := ⟨gb504, _, none⟩) (by first | exact Kd.own_blk (Kd.R_away HO_12.out (fun _ hk => hk.2)) | (rw [add_block]; exact Kd.own_blk (Kd.R_away HO_12.out (fun _ hk => hk.2))) | (show (Addr.add _ _).block ≠ _; rw [add_block]; exact Kd.own_blk (Kd.R_away HO_12.out (fun _ hk => hk.2))) | (dsimp only; exact Kd.own_blk (Kd.R_away HO_12.out (fun _ hk => hk.2)))) _).trans (((cell_far (p := ⟨gb504, _, none⟩) (by first | exact Kd.own_blk (Kd.R_away HO_12.out (fun _ hk => hk.2)) | (rw [add_block]; exact Kd.own_blk (Kd.R_away HO_12.out (fun _ hk => hk.2))) | (show (Addr.add _ _).block ≠ _; rw [add_block]; exact Kd.own_blk (Kd.R_away HO_12.out (fun _ hk => hk.2))) | (dsimp only; exact Kd.own_blk (Kd.R_away HO_12.out (fun _ hk => hk.2)))) _).trans (hHeld.2.2.2.2.2))))⟩ (fun hHeld => ?_)
           clear hK K
           refine pu 14 24 (bl 17 32767) HT_.out (v := ?_) (a' := ?_) ?_ ?_ ?_
           rotate_left; (intro w'; go_simp; with_reducible rfl); rotate_left; (simp only [sqa, sqb, sqc, sqd, i64_w, i32_w]; rfl)
           refine pu 15 25 (bl 17 65535) HT_.out (v := ?_) (a' := ?_) ?_ ?_ ?_
           rotate_left; (intro w'; go_simp; with_reducible rfl); rotate_left; (simp only [sqa, sqb, sqc, sqd, i64_w, i32_w]; rfl)
           refine pu 16 26 (bl 17 131071) HT_.out (v := ?_) (a' := ?_) ?_ ?_ ?_
           rotate_left; (intro w'; go_simp; with_reducible rfl); rotate_left; (simp only [sqa, sqb, sqc, sqd, i64_w, i32_w]; rfl)
           refine done_ (done_of HT_.out (by kernel_rfl)) ?_
           have hnb90 := NB469_470.out
           have hnc90 := NB470_469.out
           have hnb91 := NB469_504.out
           have hnc91 := NB504_469.out
           have hcz92_0 := bc0 BK469
           have hcz92_1 := bc1 BK469
           have hcz92_2 := bc2 BK469
           have hcz92_3 := bc3 BK469
           have hfz92_0 := blk_frozen BK469.out 0
           have hfz92_1 := blk_frozen BK469.out 1
           have hfz92_2 := blk_frozen BK469.out 2
           have hfz92_3 := blk_frozen BK469.out 3
           have hnb93 := NB504_470.out
           have hnc93 := NB470_504.out
           have hcz94_0 := bc0 BK504
           have hcz94_1 := bc1 BK504
           have hfz94_0 := blk_frozen BK504.out 0
           have hfz94_1 := blk_frozen BK504.out 1
           try go_wp2_with (first | ((with_reducible refine gate_callee (f := 107) rfl ?_); refine gl 206 Try.func107 #[.agg #[.int .i64 t460, .int .i64 t461, .int .i64 t462, .int .i64 t463], .agg #[.int .i64 t499, .bool true]] ?_; (with_reducible refine (impl_IsSiphonLevel.calls t460 t461 t462 t463 t499 true true true _ A70.out).mono ?_); rintro e w95 ⟨rfl, hb⟩; refine ⟨_, rfl, ?_⟩; replace HO_8 := Aside0.mk (Kd.R_below (by exact (Kd.R_mono (Kd.R_far (p := ⟨gb504, 1, none⟩) (Kd.R_far (p := ⟨gb504, 0, none⟩) (Kd.R_types HO_8.out BK504.out (by decide)) (fun _ hk => hk.2) (.int .i64 t499)) (fun _ hk => hk.2) (.bool true)) (fun _ h_ => h_.1))) hb); replace HO_12 := Aside0.mk (Kd.R_below (by exact (Kd.R_mono (Kd.R_far (p := ⟨gb504, 1, none⟩) (Kd.R_far (p := ⟨gb504, 0, none⟩) (Kd.R_mono HO_12.out (fun k_ hk => (⟨hk, hk.2⟩ : _ ∧ k_ ≠ gb504))) (fun _ hk => hk.2) (.int .i64 t499)) (fun _ hk => hk.2) (.bool true)) (fun _ h_ => h_.1))) hb); replace HO_184 := Aside0.mk (Kd.R_below (by exact (Kd.R_mono (Kd.R_far (p := ⟨gb504, 1, none⟩) (Kd.R_far (p := ⟨gb504, 0, none⟩) (Kd.R_types HO_184.out BK504.out (by decide)) (fun _ hk => hk.2) (.int .i64 t499)) (fun _ hk => hk.2) (.bool true)) (fun _ h_ => h_.1))) hb); replace BK469 := bb BK469 hb; replace BK470 := bb BK470 hb; replace BK504 := Aside0.mk (blk_below (g := gb504) (o := .cells #[.int .i64 t499, .bool true] 102 (0, 0)) (by refine blk_put (cs := #[.int .i64 t499, .bool false]) ?_ 1 _ rfl; refine blk_put (cs := #[.int .i64 0, .bool false]) ?_ 0 _ rfl; exact bk BK504) hb); replace HB := bs HB hb; (try clear hb)))
           replace HO_8 := Aside0.mk (Kd.R_drew HO_8.out)
           replace HO_12 := Aside0.mk (Kd.R_drew HO_12.out)
           replace HO_184 := Aside0.mk (Kd.R_drew HO_184.out)
           replace BK469 := Aside0.mk (blk_drew BK469.out)
           replace BK470 := Aside0.mk (blk_drew BK470.out)
           replace BK504 := Aside0.mk (blk_drew BK504.out)
           replace HB := Aside0.mk (below_drew1 HB.out)
           have p507 : 0 ≤ ((ji72) : Int) := of_decide_eq_true ‹_›
           have q507 : (ji72) < (t479.length : Int) := of_decide_eq_true ‹_›
           obtain ⟨ad507, e507, hx507_0, hx507_1⟩ := at_T102 (Kd.R_reads' HO_12.out).2.2 (ji72) p507 q507
           obtain rfl : ad498 = ad507 := (by injection e507)
           replace p507 := eq_true p507
           replace q507 := eq_true q507
           obtain ⟨Ao97, co97, eo97⟩ := Kd.R_slice HO_8.out
           (first | subst eo97 | (injection eo97 with f1_ f2_ f3_; have f4_ := f1_.symm; have f5_ := f3_.symm; clear f1_ f2_ f3_; subst f4_; subst f5_))
           have p508 : 0 ≤ (x186_3 : Int) := of_decide_eq_true ‹_›
           have q508 : x186_3 < (t471.length : Int) := of_decide_eq_true ‹_›
           obtain ⟨ad508, e508, hx508_0⟩ := Kd.at_int (Kd.R_reads' HO_8.out).2.2 x186_3 p508 q508
           cases e508
           replace p508 := eq_true p508
           replace q508 := eq_true q508
           refine start_ (n := 44) (S := fun w' => w'.cell? ⟨gb504, 0, none⟩ = some (.int .i64 t499) ∧ w'.cell? ⟨gb504, 1, none⟩ = some (.bool true) ∧ w'.cell? ⟨gb469, 0, none⟩ = some (.int .i64 t460) ∧ w'.cell? ⟨gb469, 1, none⟩ = some (.int .i64 t461) ∧ w'.cell? ⟨gb469, 2, none⟩ = some (.int .i64 t462) ∧ w'.cell? ⟨gb469, 3, none⟩ = some (.int .i64 t463) ∧ w'.cell? (ad498.add (((ji72)).toNat * 2)) = some (.int .i64 ((rd_T102 t479 (ji72)).f0)) ∧ w'.cell? ⟨(ad498.add (((ji72)).toNat * 2)).block, (ad498.add (((ji72)).toNat * 2)).off + 1, none⟩ = some (.bool ((rd_T102 t479 (ji72)).f1)) ∧ w'.cell? (ad508.add (x186_3).toNat) = some (.int .i64 (rd t471 x186_3))) (ds := []) (bl 44 0) (by kernel_rfl) rfl rfl ⟨bc0 BK504, bc1 BK504, bc0 BK469, bc1 BK469, bc2 BK469, bc3 BK469, hx507_0, hx507_1, hx508_0⟩ (fun hHeld => ?_); refine with_tabW laws_FnSiphonsKeepWater.tab21 laws_FnSiphonsKeepWater.bits21 (fun HT_ HW_ => ?_)
           generalize w95.drew = w96 at HO_8 HO_12 HO_184 BK469 BK470 BK504 HB hx507_0 hx507_1 hx508_0 hHeld ⊢
           refine pu 0 209 (bl 44 1) HT_.out (v := ?_) (a' := ?_) ?_ ?_ ?_
           rotate_left; (intro w'; go_simp; with_reducible rfl); rotate_left; (simp only [sqa, sqb, sqc, sqd, i64_w, i32_w]; rfl)
           refine pu 1 210 (bl 44 3) HT_.out (v := ?_) (a' := ?_) ?_ ?_ ?_
           rotate_left; (intro w'; go_simp; with_reducible rfl); rotate_left; (simp only [sqa, sqb, sqc, sqd, i64_w, i32_w]; rfl)
           refine pu 2 211 (bl 44 7) HT_.out (v := ?_) (a' := ?_) ?_ ?_ ?_
           rotate_left; (intro w'; go_simp; with_reducible rfl); rotate_left; (simp only [sqa, sqb, sqc, sqd, i64_w, i32_w]; rfl)
           refine pu 4 213 (bl 44 23) HT_.out (v := ?_) (a' := ?_) ?_ ?_ ?_
           rotate_left; (intro w'; go_simp; with_reducible rfl); rotate_left; (simp only [sqa, sqb, sqc, sqd, i64_w, i32_w]; rfl)
           refine pu 5 214 (bl 44 55) HT_.out (v := ?_) (a' := ?_) ?_ ?_ ?_
           rotate_left; (intro w'; go_simp; with_reducible rfl); rotate_left; (simp only [sqa, sqb, sqc, sqd, i64_w, i32_w]; rfl)
           refine pu 6 215 (bl 44 119) HT_.out (v := ?_) (a' := ?_) ?_ ?_ ?_
           rotate_left; (intro w'; go_simp; with_reducible rfl); rotate_left; (simp only [sqa, sqb, sqc, sqd, i64_w, i32_w]; rfl)
           refine pu 7 216 (bl 44 247) HT_.out (v := ?_) (a' := ?_) ?_ ?_ ?_
           rotate_left; (intro w'; go_simp; with_reducible rfl); rotate_left; (simp only [sqa, sqb, sqc, sqd, i64_w, i32_w]; rfl)
           refine tk 3 212 (bl 44 255) HT_.out HW_.out hHeld (v := ?_) (a' := ?_) ?_ ?_ ?_
           rotate_left; (rintro w' ⟨s0, s1, s2, s3, s4, s5, s6, s7, s8⟩; go_simp; with_reducible rfl); rotate_left; (simp only [sqa, sqb, sqc, sqd, i64_w, i32_w]; rfl)
           refine tk 8 217 (bl 44 511) HT_.out HW_.out hHeld (v := ?_) (a' := ?_) ?_ ?_ ?_
           rotate_left; (rintro w' ⟨s0, s1, s2, s3, s4, s5, s6, s7, s8⟩; go_simp; with_reducible rfl); rotate_left; (simp only [sqa, sqb, sqc, sqd, i64_w, i32_w]; rfl)
           refine pu 9 218 (bl 44 1023) HT_.out (v := ?_) (a' := ?_) ?_ ?_ ?_
           rotate_left; (intro w'; go_simp; with_reducible rfl); rotate_left; (simp only [sqa, sqb, sqc, sqd, i64_w, i32_w]; rfl)
           refine pu 10 219 (bl 44 2047) HT_.out (v := ?_) (a' := ?_) ?_ ?_ ?_
           rotate_left; (intro w'; go_simp; with_reducible rfl); rotate_left; (simp only [sqa, sqb, sqc, sqd, i64_w, i32_w]; rfl)
           refine pu 11 220 (bl 44 4095) HT_.out (v := ?_) (a' := ?_) ?_ ?_ ?_
           rotate_left; (intro w'; go_simp; with_reducible rfl); rotate_left; (simp only [sqa, sqb, sqc, sqd, i64_w, i32_w]; rfl)
           refine pu 12 221 (bl 44 8191) HT_.out (v := ?_) (a' := ?_) ?_ ?_ ?_
           rotate_left; (intro w'; go_simp; with_reducible rfl); rotate_left; (simp only [sqa, sqb, sqc, sqd, i64_w, i32_w]; rfl)
           refine pu 13 222 (bl 44 16383) HT_.out (v := ?_) (a' := ?_) ?_ ?_ ?_
           rotate_left; (intro w'; go_simp; with_reducible rfl); rotate_left; (simp only [sqa, sqb, sqc, sqd, i64_w, i32_w]; rfl)
           refine pu 14 223 (bl 44 32767) HT_.out (v := ?_) (a' := ?_) ?_ ?_ ?_
           rotate_left; (intro w'; go_simp; with_reducible rfl); rotate_left; (simp only [sqa, sqb, sqc, sqd, i64_w, i32_w]; rfl)
           refine pu 15 224 (bl 44 65535) HT_.out (v := ?_) (a' := ?_) ?_ ?_ ?_
           rotate_left; (intro w'; go_simp; with_reducible rfl); rotate_left; (simp only [sqa, sqb, sqc, sqd, i64_w, i32_w]; rfl)
           refine tk 16 225 (bl 44 131071) HT_.out HW_.out hHeld (v := ?_) (a' := ?_) ?_ ?_ ?_
           rotate_left; (rintro w' ⟨s0, s1, s2, s3, s4, s5, s6, s7, s8⟩; go_simp; with_reducible rfl); rotate_left; (simp only [sqa, sqb, sqc, sqd, i64_w, i32_w]; rfl)
           refine pu 17 226 (bl 44 262143) HT_.out (v := ?_) (a' := ?_) ?_ ?_ ?_
           rotate_left; (intro w'; go_simp; with_reducible rfl); rotate_left; (simp only [sqa, sqb, sqc, sqd, i64_w, i32_w]; rfl)
           refine pu 18 227 (bl 44 524287) HT_.out (v := ?_) (a' := ?_) ?_ ?_ ?_
           rotate_left; (intro w'; go_simp; with_reducible rfl); rotate_left; (simp only [sqa, sqb, sqc, sqd, i64_w, i32_w]; rfl)
           refine pu 19 228 (bl 44 1048575) HT_.out (v := ?_) (a' := ?_) ?_ ?_ ?_
           rotate_left; (intro w'; go_simp; with_reducible rfl); rotate_left; (simp only [sqa, sqb, sqc, sqd, i64_w, i32_w]; rfl)
           refine pu 20 229 (bl 44 2097151) HT_.out (v := ?_) (a' := ?_) ?_ ?_ ?_
           rotate_left; (intro w'; go_simp; with_reducible rfl); rotate_left; (simp only [sqa, sqb, sqc, sqd, i64_w, i32_w]; rfl)
           refine pu 21 230 (bl 44 4194303) HT_.out (v := ?_) (a' := ?_) ?_ ?_ ?_
           rotate_left; (intro w'; go_simp; with_reducible rfl); rotate_left; (simp only [sqa, sqb, sqc, sqd, i64_w, i32_w]; rfl)
           refine tk 22 231 (bl 44 8388607) HT_.out HW_.out hHeld (v := ?_) (a' := ?_) ?_ ?_ ?_
           rotate_left; (rintro w' ⟨s0, s1, s2, s3, s4, s5, s6, s7, s8⟩; go_simp; with_reducible rfl); rotate_left; (simp only [sqa, sqb, sqc, sqd, i64_w, i32_w]; rfl)
           refine pu 23 232 (bl 44 16777215) HT_.out (v := ?_) (a' := ?_) ?_ ?_ ?_
           rotate_left; (intro w'; go_simp; with_reducible rfl); rotate_left; (simp only [sqa, sqb, sqc, sqd, i64_w, i32_w]; rfl)
           refine pu 24 233 (bl 44 33554431) HT_.out (v := ?_) (a' := ?_) ?_ ?_ ?_
           rotate_left; (intro w'; go_simp; with_reducible rfl); rotate_left; (simp only [sqa, sqb, sqc, sqd, i64_w, i32_w]; rfl)
           refine pu 25 234 (bl 44 67108863) HT_.out (v := ?_) (a' := ?_) ?_ ?_ ?_
           rotate_left; (intro w'; go_simp; with_reducible rfl); rotate_left; (simp only [sqa, sqb, sqc, sqd, i64_w, i32_w]; rfl)
           refine pu 26 235 (bl 44 134217727) HT_.out (v := ?_) (a' := ?_) ?_ ?_ ?_
           rotate_left; (intro w'; go_simp; with_reducible rfl); rotate_left; (simp only [sqa, sqb, sqc, sqd, i64_w, i32_w]; rfl)
           refine pu 27 236 (bl 44 268435455) HT_.out (v := ?_) (a' := ?_) ?_ ?_ ?_
           rotate_left; (intro w'; go_simp; with_reducible rfl); rotate_left; (simp only [sqa, sqb, sqc, sqd, i64_w, i32_w]; rfl)
           refine pu 28 237 (bl 44 536870911) HT_.out (v := ?_) (a' := ?_) ?_ ?_ ?_
           rotate_left; (intro w'; go_simp; with_reducible rfl); rotate_left; (simp only [sqa, sqb, sqc, sqd, i64_w, i32_w]; rfl)
           refine pu 29 238 (bl 44 1073741823) HT_.out (v := ?_) (a' := ?_) ?_ ?_ ?_
           rotate_left; (intro w'; go_simp; with_reducible rfl); rotate_left; (simp only [sqa, sqb, sqc, sqd, i64_w, i32_w]; rfl)
           refine pu 30 239 (bl 44 2147483647) HT_.out (v := ?_) (a' := ?_) ?_ ?_ ?_
           rotate_left; (intro w'; go_simp; with_reducible rfl); rotate_left; (simp only [sqa, sqb, sqc, sqd, i64_w, i32_w]; rfl)
           refine pu 31 240 (bl 44 4294967295) HT_.out (v := ?_) (a' := ?_) ?_ ?_ ?_
           rotate_left; (intro w'; go_simp; with_reducible rfl); rotate_left; (simp only [sqa, sqb, sqc, sqd, i64_w, i32_w]; rfl)
           refine pu 32 241 (bl 44 8589934591) HT_.out (v := ?_) (a' := ?_) ?_ ?_ ?_
           rotate_left; (intro w'; go_simp; with_reducible rfl); rotate_left; (simp only [sqa, sqb, sqc, sqd, i64_w, i32_w]; rfl)
           refine pu 33 242 (bl 44 17179869183) HT_.out (v := ?_) (a' := ?_) ?_ ?_ ?_
           rotate_left; (intro w'; go_simp; with_reducible rfl); rotate_left; (simp only [sqa, sqb, sqc, sqd, i64_w, i32_w]; rfl)
           refine pu 34 243 (bl 44 34359738367) HT_.out (v := ?_) (a' := ?_) ?_ ?_ ?_
           rotate_left; (intro w'; go_simp; with_reducible rfl); rotate_left; (simp only [sqa, sqb, sqc, sqd, i64_w, i32_w]; rfl)
           refine tk 35 244 (bl 44 68719476735) HT_.out HW_.out hHeld (v := ?_) (a' := ?_) ?_ ?_ ?_
           rotate_left; (rintro w' ⟨s0, s1, s2, s3, s4, s5, s6, s7, s8⟩; go_simp; with_reducible rfl); rotate_left; (simp only [sqa, sqb, sqc, sqd, i64_w, i32_w]; rfl)
           refine pu 36 245 (bl 44 137438953471) HT_.out (v := ?_) (a' := ?_) ?_ ?_ ?_
           rotate_left; (intro w'; go_simp; with_reducible rfl); rotate_left; (simp only [sqa, sqb, sqc, sqd, i64_w, i32_w]; rfl)
           refine pu 37 246 (bl 44 274877906943) HT_.out (v := ?_) (a' := ?_) ?_ ?_ ?_
           rotate_left; (intro w'; go_simp; with_reducible rfl); rotate_left; (simp only [sqa, sqb, sqc, sqd, i64_w, i32_w]; rfl)
           refine pu 39 248 (bl 44 824633720831) HT_.out (v := ?_) (a' := ?_) ?_ ?_ ?_
           rotate_left; (intro w'; go_simp; with_reducible rfl); rotate_left; (simp only [sqa, sqb, sqc, sqd, i64_w, i32_w]; rfl)
           refine tk 38 247 (bl 44 1099511627775) HT_.out HW_.out hHeld (v := ?_) (a' := ?_) ?_ ?_ ?_
           rotate_left; (rintro w' ⟨s0, s1, s2, s3, s4, s5, s6, s7, s8⟩; go_simp; with_reducible rfl); rotate_left; (simp only [sqa, sqb, sqc, sqd, i64_w, i32_w]; rfl)
           refine tk 40 249 (bl 44 2199023255551) HT_.out HW_.out hHeld (v := ?_) (a' := ?_) ?_ ?_ ?_
           rotate_left; (rintro w' ⟨s0, s1, s2, s3, s4, s5, s6, s7, s8⟩; go_simp; with_reducible rfl); rotate_left; (simp only [sqa, sqb, sqc, sqd, i64_w, i32_w]; rfl)
           refine pu 41 250 (bl 44 4398046511103) HT_.out (v := ?_) (a' := ?_) ?_ ?_ ?_
           rotate_left; (intro w'; go_simp; with_reducible rfl); rotate_left; (simp only [sqa, sqb, sqc, sqd, i64_w, i32_w]; rfl)
           refine pu 42 251 (bl 44 8796093022207) HT_.out (v := ?_) (a' := ?_) ?_ ?_ ?_
           rotate_left; (intro w'; go_simp; with_reducible rfl); rotate_left; (simp only [sqa, sqb, sqc, sqd, i64_w, i32_w]; rfl)
           refine pu 43 252 (bl 44 17592186044415) HT_.out (v := ?_) (a' := ?_) ?_ ?_ ?_
           rotate_left; (intro w'; go_simp; with_reducible rfl); rotate_left; (simp only [sqa, sqb, sqc, sqd, i64_w, i32_w]; rfl)
           refine done_ (done_of HT_.out (by kernel_rfl)) ?_
           try go_wp2
           (refine Handed.intro k3 ?measure10 ?_; rotate_left; go_step; refine LoopI_mk (by kernel_rfl) ?rel10)
           case measure10 => have := HJ11.out; have := HJ51.out; have := HK3.out; omega
           case rel10 => exact ⟨(wrap64 (x20_3 + t502)), (ji72), (by first | rfl | (simp; done) | (simp [*]; done)), (by first | rfl | (simp; done) | (simp only [← hji72] <;> (first | rfl | simp)) | (simp [*]; done)), H', ⟨by have := HJ11.out; have := HJ51.out; have := HK3.out; omega⟩, ⟨rk HO_8⟩, ⟨by exact Kd.R_mono HO_12.out (fun _ hk => hk.1)⟩, ⟨rk HO_184⟩, ⟨bk BK469⟩, ⟨bk BK470⟩, ⟨bw HB⟩⟩
    case rest3 =>
      intro u_ wc hcut l_ hl_; (simp only [rl, List.reduceReplicate, List.cons_append, List.nil_append, List.append_nil, Bool.not_true, Bool.not_false, fu, Nat.reduceAdd] at hl_); subst hl_
      clear HC50
      (try clear c1)
      obtain ⟨kq, HA, HJ49, BK469, BK470, HB⟩ := hcut
      cases kq with
      | zero => exact absurd HA.out (by simp [laws_FnSiphonsKeepWater.j3])
      | succ kj49 =>
       have H := HA.out
       clear HA
       simp only [laws_FnSiphonsKeepWater.j3] at H
       replace H := Option.bind_eq_some_iff.mp H
       obtain ⟨⟨t509, t510, t511, t512, t513, t514, t515⟩, A1140, H⟩ := H
       (try dsimp only at H)
       have A114 := Aside0.mk A1140
       clear A1140
       replace H := Option.bind_eq_some_iff.mp H
       obtain ⟨⟨t518, t519, t520, t521, t522⟩, A1150, H⟩ := H
       (try dsimp only at H)
       have A115 := Aside0.mk A1150
       clear A1150
       replace H := Option.bind_eq_some_iff.mp H
       obtain ⟨⟨t524, t525, t526, t527, t528⟩, A1160, H⟩ := H
       (try dsimp only at H)
       have A116 := Aside0.mk A1160
       clear A1160
       replace H := Option.bind_eq_some_iff.mp H
       obtain ⟨⟨t530, t531, t532, t533, t534, t535⟩, A1170, H⟩ := H
       (try dsimp only at H)
       have A117 := Aside0.mk A1170
       clear A1170
       replace H := Option.bind_eq_some_iff.mp H
       obtain ⟨⟨t538, t539⟩, A1180, H⟩ := H
       (try dsimp only at H)
       have A118 := Aside0.mk A1180
       clear A1180
       replace H := Option.bind_eq_some_iff.mp H
       obtain ⟨⟨t540, t541⟩, A1190, H⟩ := H
       (try dsimp only at H)
       have A119 := Aside0.mk A1190
       clear A1190
       replace H := Option.bind_eq_some_iff.mp H
       obtain ⟨⟨t542, t543⟩, A1200, H⟩ := H
       (try dsimp only at H)
       have A120 := Aside0.mk A1200
       clear A1200
       replace H := Option.bind_eq_some_iff.mp H
       obtain ⟨⟨t544, t545⟩, A1210, H⟩ := H
       (try dsimp only at H)
       have A121 := Aside0.mk A1210
       clear A1210
       have HC122 := Aside0.mk H
       clear H
       go_upto_region 35 with (first | ((with_reducible refine gate_callee (f := 108) rfl ?_); refine gl 262 Try.func108 #[.slice A1 l1.length c1] ?_; (with_reducible refine (spec_DrawTickSiphon.calls kj49 _ _ l1 t509 t510 t511 t512 t513 t514 t515 _ ?side1 ?side2 A114.out).mono ?_); (case side1 => exact ck HR1 HB); (case side2 => exact HC1.out); rintro e w123 ⟨rfl, hb⟩; refine ⟨_, rfl, ?_⟩; replace BK469 := bb BK469 hb; replace BK470 := bb BK470 hb; replace HB := bs HB hb; (try clear hb)) | ((with_reducible refine gate_dst (N := 29) rfl ?_); (try (refine gate_guard (by rfl) ?_; dsimp only)); refine bx 29 #[.int .i64 0, .int .i64 0, .int .i64 0, .int .i64 0] 100 ?_; intro gb516 hg w124 hbox hb; have BK516 := Aside0.mk (hbox); have GW516 := ge HB hg; have GE516 := ge HB hg; replace HB := bs HB hb; have NB469_516 := nl BK469 hg; have NB516_469 := nr BK469 hg; replace BK469 := bb BK469 hb; have NB470_516 := nl BK470 hg; have NB516_470 := nr BK470 hg; replace BK470 := bb BK470 hb; clear hb hbox hg) | ((with_reducible refine gate_dst (N := 30) rfl ?_); (try (refine gate_guard (by rfl) ?_; dsimp only)); refine bx 30 #[.int .i64 0, .bool false] 102 ?_; intro gb517 hg w125 hbox hb; have BK517 := Aside0.mk (hbox); have GW517 := ge HB hg; have GE517 := ge HB hg; replace HB := bs HB hb; have NB469_517 := nl BK469 hg; have NB517_469 := nr BK469 hg; replace BK469 := bb BK469 hb; have NB470_517 := nl BK470 hg; have NB517_470 := nr BK470 hg; replace BK470 := bb BK470 hb; have NB516_517 := nl BK516 hg; have NB517_516 := nr BK516 hg; replace BK516 := bb BK516 hb; clear hb hbox hg; have hnb126 := NB516_469.out; have hnc126 := NB469_516.out; have hnb127 := NB516_470.out; have hnc127 := NB470_516.out; have hnb128 := NB516_517.out; have hnc128 := NB517_516.out; have hcz129_0 := bc0 BK516; have hcz129_1 := bc1 BK516; have hcz129_2 := bc2 BK516; have hcz129_3 := bc3 BK516; have hfz129_0 := blk_frozen BK516.out 0; have hfz129_1 := blk_frozen BK516.out 1; have hfz129_2 := blk_frozen BK516.out 2; have hfz129_3 := blk_frozen BK516.out 3; have hnb130 := NB517_469.out; have hnc130 := NB469_517.out; have hnb131 := NB517_470.out; have hnc131 := NB470_517.out; have hcz132_0 := bc0 BK517; have hcz132_1 := bc1 BK517; have hfz132_0 := blk_frozen BK517.out 0; have hfz132_1 := blk_frozen BK517.out 1) | ((with_reducible refine gate_callee (f := 106) rfl ?_); refine gl 270 Try.func106 #[.agg #[.int .i64 t509, .int .i64 t510, .int .i64 t511, .int .i64 t512], .agg #[.int .i64 t513, .bool t514], .int .i64 t515] ?_; (with_reducible refine (impl_TickSiphon.calls t509 t510 t511 t512 t513 t514 t515 t518 t519 t520 t521 t522 _ A115.out).mono ?_); rintro e w133 ⟨rfl, hb⟩; refine ⟨_, rfl, ?_⟩; replace BK469 := bb BK469 hb; replace BK470 := bb BK470 hb; replace BK516 := Aside0.mk (blk_below (g := gb516) (o := .cells #[.int .i64 t509, .int .i64 t510, .int .i64 t511, .int .i64 t512] 100 (0, 0)) (by refine blk_far ?_ NB516_517.out _; refine blk_far ?_ NB516_517.out _; refine blk_put (cs := #[.int .i64 t509, .int .i64 t510, .int .i64 t511, .int .i64 0]) ?_ 3 _ rfl; refine blk_put (cs := #[.int .i64 t509, .int .i64 t510, .int .i64 0, .int .i64 0]) ?_ 2 _ rfl; refine blk_put (cs := #[.int .i64 t509, .int .i64 0, .int .i64 0, .int .i64 0]) ?_ 1 _ rfl; refine blk_put (cs := #[.int .i64 0, .int .i64 0, .int .i64 0, .int .i64 0]) ?_ 0 _ rfl; exact bk BK516) hb); replace BK517 := Aside0.mk (blk_below (g := gb517) (o := .cells #[.int .i64 t513, .bool t514] 102 (0, 0)) (by refine blk_put (cs := #[.int .i64 t513, .bool false]) ?_ 1 _ rfl; refine blk_put (cs := #[.int .i64 0, .bool false]) ?_ 0 _ rfl; exact bk BK517) hb); replace HB := bs HB hb; (try clear hb)) | ((with_reducible refine gate_dst (N := 32) rfl ?_); (try (refine gate_guard (by rfl) ?_; dsimp only)); refine bx 32 #[.int .i64 0, .bool false] 102 ?_; intro gb523 hg w134 hbox hb; have BK523 := Aside0.mk (hbox); have GW523 := ge HB hg; have GE523 := ge HB hg; replace HB := bs HB hb; have NB469_523 := nl BK469 hg; have NB523_469 := nr BK469 hg; replace BK469 := bb BK469 hb; have NB470_523 := nl BK470 hg; have NB523_470 := nr BK470 hg; replace BK470 := bb BK470 hb; have NB516_523 := nl BK516 hg; have NB523_516 := nr BK516 hg; replace BK516 := bb BK516 hb; have NB517_523 := nl BK517 hg; have NB523_517 := nr BK517 hg; replace BK517 := bb BK517 hb; clear hb hbox hg; have hnb135 := NB523_469.out; have hnc135 := NB469_523.out; have hnb136 := NB523_470.out; have hnc136 := NB470_523.out; have hnb137 := NB523_516.out; have hnc137 := NB516_523.out; have hnb138 := NB523_517.out; have hnc138 := NB517_523.out; have hcz139_0 := bc0 BK523; have hcz139_1 := bc1 BK523; have hfz139_0 := blk_frozen BK523.out 0; have hfz139_1 := blk_frozen BK523.out 1; have hcz140_0 := bc0 BK516; have hcz140_1 := bc1 BK516; have hcz140_2 := bc2 BK516; have hcz140_3 := bc3 BK516; have hfz140_0 := blk_frozen BK516.out 0; have hfz140_1 := blk_frozen BK516.out 1; have hfz140_2 := blk_frozen BK516.out 2; have hfz140_3 := blk_frozen BK516.out 3; have hcz141_0 := bc0 BK517; have hcz141_1 := bc1 BK517; have hfz141_0 := blk_frozen BK517.out 0; have hfz141_1 := blk_frozen BK517.out 1) | ((with_reducible refine gate_callee (f := 109) rfl ?_); refine gl 279 Try.func109 #[.agg #[.int .i64 t509, .int .i64 t510, .int .i64 t511, .int .i64 t512], .agg #[.int .i64 t513, .bool t514], .int .i64 t515] ?_; (with_reducible refine (spec_TickSiphon.calls kj49 t509 t510 t511 t512 t513 t514 t515 t524 t525 t526 t527 t528 _ A116.out).mono ?_); rintro e w142 ⟨rfl, hb⟩; refine ⟨_, rfl, ?_⟩; replace BK469 := bb BK469 hb; replace BK470 := bb BK470 hb; replace BK516 := bb BK516 hb; replace BK517 := bb BK517 hb; replace BK523 := Aside0.mk (blk_below (g := gb523) (o := .cells #[.int .i64 t518, .bool t519] 102 (0, 0)) (by refine blk_put (cs := #[.int .i64 t518, .bool false]) ?_ 1 _ rfl; refine blk_put (cs := #[.int .i64 0, .bool false]) ?_ 0 _ rfl; exact bk BK523) hb); replace HB := bs HB hb; (try clear hb)) | ((with_reducible refine gate_dst (N := 36) rfl ?_); (try (refine gate_guard (by rfl) ?_; dsimp only)); refine bx 36 #[.int .i64 0, .bool false] 102 ?_; intro gb529 hg w143 hbox hb; have BK529 := Aside0.mk (hbox); have GW529 := ge HB hg; have GE529 := ge HB hg; replace HB := bs HB hb; have NB469_529 := nl BK469 hg; have NB529_469 := nr BK469 hg; replace BK469 := bb BK469 hb; have NB470_529 := nl BK470 hg; have NB529_470 := nr BK470 hg; replace BK470 := bb BK470 hb; have NB516_529 := nl BK516 hg; have NB529_516 := nr BK516 hg; replace BK516 := bb BK516 hb; have NB517_529 := nl BK517 hg; have NB529_517 := nr BK517 hg; replace BK517 := bb BK517 hb; have NB523_529 := nl BK523 hg; have NB529_523 := nr BK523 hg; replace BK523 := bb BK523 hb; clear hb hbox hg; have hnb144 := NB529_469.out; have hnc144 := NB469_529.out; have hnb145 := NB529_470.out; have hnc145 := NB470_529.out; have hnb146 := NB529_516.out; have hnc146 := NB516_529.out; have hnb147 := NB529_517.out; have hnc147 := NB517_529.out; have hnb148 := NB529_523.out; have hnc148 := NB523_529.out; have hcz149_0 := bc0 BK529; have hcz149_1 := bc1 BK529; have hfz149_0 := blk_frozen BK529.out 0; have hfz149_1 := blk_frozen BK529.out 1) | ((with_reducible refine gate_callee (f := 110) rfl ?_); refine gl 286 Try.func110 #[.slice A1 l1.length c1] ?_; (with_reducible refine (spec_DrawIsSiphonLevel.calls kj49 _ _ l1 t530 t531 t532 t533 t534 t535 _ ?side1 ?side2 A117.out).mono ?_); (case side1 => exact Kd.C_below HR1.out (bw HB)); (case side2 => exact HC1.out); rintro e w150 ⟨rfl, hb⟩; refine ⟨_, rfl, ?_⟩; replace BK469 := bb BK469 hb; replace BK470 := bb BK470 hb; replace BK516 := bb BK516 hb; replace BK517 := bb BK517 hb; replace BK523 := bb BK523 hb; replace BK529 := Aside0.mk (blk_below (g := gb529) (o := .cells #[.int .i64 t524, .bool t525] 102 (0, 0)) (by refine blk_put (cs := #[.int .i64 t524, .bool false]) ?_ 1 _ rfl; refine blk_put (cs := #[.int .i64 0, .bool false]) ?_ 0 _ rfl; exact bk BK529) hb); replace HB := bs HB hb; (try clear hb)) | ((with_reducible refine gate_dst (N := 40) rfl ?_); (try (refine gate_guard (by rfl) ?_; dsimp only)); refine bx 40 #[.int .i64 0, .int .i64 0, .int .i64 0, .int .i64 0] 100 ?_; intro gb536 hg w151 hbox hb; have BK536 := Aside0.mk (hbox); have GW536 := ge HB hg; have GE536 := ge HB hg; replace HB := bs HB hb; have NB469_536 := nl BK469 hg; have NB536_469 := nr BK469 hg; replace BK469 := bb BK469 hb; have NB470_536 := nl BK470 hg; have NB536_470 := nr BK470 hg; replace BK470 := bb BK470 hb; have NB516_536 := nl BK516 hg; have NB536_516 := nr BK516 hg; replace BK516 := bb BK516 hb; have NB517_536 := nl BK517 hg; have NB536_517 := nr BK517 hg; replace BK517 := bb BK517 hb; have NB523_536 := nl BK523 hg; have NB536_523 := nr BK523 hg; replace BK523 := bb BK523 hb; have NB529_536 := nl BK529 hg; have NB536_529 := nr BK529 hg; replace BK529 := bb BK529 hb; clear hb hbox hg) | ((with_reducible refine gate_dst (N := 41) rfl ?_); (try (refine gate_guard (by rfl) ?_; dsimp only)); refine bx 41 #[.int .i64 0, .bool false] 102 ?_; intro gb537 hg w152 hbox hb; have BK537 := Aside0.mk (hbox); have GW537 := ge HB hg; have GE537 := ge HB hg; replace HB := bs HB hb; have NB469_537 := nl BK469 hg; have NB537_469 := nr BK469 hg; replace BK469 := bb BK469 hb; have NB470_537 := nl BK470 hg; have NB537_470 := nr BK470 hg; replace BK470 := bb BK470 hb; have NB516_537 := nl BK516 hg; have NB537_516 := nr BK516 hg; replace BK516 := bb BK516 hb; have NB517_537 := nl BK517 hg; have NB537_517 := nr BK517 hg; replace BK517 := bb BK517 hb; have NB523_537 := nl BK523 hg; have NB537_523 := nr BK523 hg; replace BK523 := bb BK523 hb; have NB529_537 := nl BK529 hg; have NB537_529 := nr BK529 hg; replace BK529 := bb BK529 hb; have NB536_537 := nl BK536 hg; have NB537_536 := nr BK536 hg; replace BK536 := bb BK536 hb; clear hb hbox hg; have hnb153 := NB536_469.out; have hnc153 := NB469_536.out; have hnb154 := NB536_470.out; have hnc154 := NB470_536.out; have hnb155 := NB536_516.out; have hnc155 := NB516_536.out; have hnb156 := NB536_517.out; have hnc156 := NB517_536.out; have hnb157 := NB536_523.out; have hnc157 := NB523_536.out; have hnb158 := NB536_529.out; have hnc158 := NB529_536.out; have hnb159 := NB536_537.out; have hnc159 := NB537_536.out; have hcz160_0 := bc0 BK536; have hcz160_1 := bc1 BK536; have hcz160_2 := bc2 BK536; have hcz160_3 := bc3 BK536; have hfz160_0 := blk_frozen BK536.out 0; have hfz160_1 := blk_frozen BK536.out 1; have hfz160_2 := blk_frozen BK536.out 2; have hfz160_3 := blk_frozen BK536.out 3; have hnb161 := NB537_469.out; have hnc161 := NB469_537.out; have hnb162 := NB537_470.out; have hnc162 := NB470_537.out; have hnb163 := NB537_516.out; have hnc163 := NB516_537.out; have hnb164 := NB537_517.out; have hnc164 := NB517_537.out; have hnb165 := NB537_523.out; have hnc165 := NB523_537.out; have hnb166 := NB537_529.out; have hnc166 := NB529_537.out; have hcz167_0 := bc0 BK537; have hcz167_1 := bc1 BK537; have hfz167_0 := blk_frozen BK537.out 0; have hfz167_1 := blk_frozen BK537.out 1) | ((with_reducible refine gate_callee (f := 107) rfl ?_); refine gl 292 Try.func107 #[.agg #[.int .i64 t530, .int .i64 t531, .int .i64 t532, .int .i64 t533], .agg #[.int .i64 t534, .bool t535]] ?_; (with_reducible refine (impl_IsSiphonLevel.calls t530 t531 t532 t533 t534 t535 t538 t539 _ A118.out).mono ?_); rintro e w168 ⟨rfl, hb⟩; refine ⟨_, rfl, ?_⟩; replace BK469 := bb BK469 hb; replace BK470 := bb BK470 hb; replace BK516 := bb BK516 hb; replace BK517 := bb BK517 hb; replace BK523 := bb BK523 hb; replace BK529 := bb BK529 hb; replace BK536 := Aside0.mk (blk_below (g := gb536) (o := .cells #[.int .i64 t530, .int .i64 t531, .int .i64 t532, .int .i64 t533] 100 (0, 0)) (by refine blk_far ?_ NB536_537.out _; refine blk_far ?_ NB536_537.out _; refine blk_put (cs := #[.int .i64 t530, .int .i64 t531, .int .i64 t532, .int .i64 0]) ?_ 3 _ rfl; refine blk_put (cs := #[.int .i64 t530, .int .i64 t531, .int .i64 0, .int .i64 0]) ?_ 2 _ rfl; refine blk_put (cs := #[.int .i64 t530, .int .i64 0, .int .i64 0, .int .i64 0]) ?_ 1 _ rfl; refine blk_put (cs := #[.int .i64 0, .int .i64 0, .int .i64 0, .int .i64 0]) ?_ 0 _ rfl; exact bk BK536) hb); replace BK537 := Aside0.mk (blk_below (g := gb537) (o := .cells #[.int .i64 t534, .bool t535] 102 (0, 0)) (by refine blk_put (cs := #[.int .i64 t534, .bool false]) ?_ 1 _ rfl; refine blk_put (cs := #[.int .i64 0, .bool false]) ?_ 0 _ rfl; exact bk BK537) hb); replace HB := bs HB hb; (try clear hb); have hcz169_0 := bc0 BK536; have hcz169_1 := bc1 BK536; have hcz169_2 := bc2 BK536; have hcz169_3 := bc3 BK536; have hfz169_0 := blk_frozen BK536.out 0; have hfz169_1 := blk_frozen BK536.out 1; have hfz169_2 := blk_frozen BK536.out 2; have hfz169_3 := blk_frozen BK536.out 3; have hcz170_0 := bc0 BK537; have hcz170_1 := bc1 BK537; have hfz170_0 := blk_frozen BK537.out 0; have hfz170_1 := blk_frozen BK537.out 1) | ((with_reducible refine gate_callee (f := 111) rfl ?_); refine gl 298 Try.func111 #[.agg #[.int .i64 t530, .int .i64 t531, .int .i64 t532, .int .i64 t533], .agg #[.int .i64 t534, .bool t535]] ?_; (with_reducible refine (spec_IsSiphonLevel.calls t530 t531 t532 t533 t534 t535 t540 t541 _ A119.out).mono ?_); rintro e w171 ⟨rfl, hb⟩; refine ⟨_, rfl, ?_⟩; replace BK469 := bb BK469 hb; replace BK470 := bb BK470 hb; replace BK516 := bb BK516 hb; replace BK517 := bb BK517 hb; replace BK523 := bb BK523 hb; replace BK529 := bb BK529 hb; replace BK536 := bb BK536 hb; replace BK537 := bb BK537 hb; replace HB := bs HB hb; (try clear hb); have hcz172_0 := bc0 BK536; have hcz172_1 := bc1 BK536; have hcz172_2 := bc2 BK536; have hcz172_3 := bc3 BK536; have hfz172_0 := blk_frozen BK536.out 0; have hfz172_1 := blk_frozen BK536.out 1; have hfz172_2 := blk_frozen BK536.out 2; have hfz172_3 := blk_frozen BK536.out 3) | ((with_reducible refine gate_callee (f := 112) rfl ?_); refine gl 303 Try.func112 #[.agg #[.int .i64 t530, .int .i64 t531, .int .i64 t532, .int .i64 t533]] ?_; (with_reducible refine (impl_CapacityOf.calls t530 t531 t532 t533 t542 t543 _ A120.out).mono ?_); rintro e w173 ⟨rfl, hb⟩; refine ⟨_, rfl, ?_⟩; replace BK469 := bb BK469 hb; replace BK470 := bb BK470 hb; replace BK516 := bb BK516 hb; replace BK517 := bb BK517 hb; replace BK523 := bb BK523 hb; replace BK529 := bb BK529 hb; replace BK536 := bb BK536 hb; replace BK537 := bb BK537 hb; replace HB := bs HB hb; (try clear hb); have hcz174_0 := bc0 BK536; have hcz174_1 := bc1 BK536; have hcz174_2 := bc2 BK536; have hcz174_3 := bc3 BK536; have hfz174_0 := blk_frozen BK536.out 0; have hfz174_1 := blk_frozen BK536.out 1; have hfz174_2 := blk_frozen BK536.out 2; have hfz174_3 := blk_frozen BK536.out 3) | ((with_reducible refine gate_callee (f := 113) rfl ?_); refine gl 308 Try.func113 #[.agg #[.int .i64 t530, .int .i64 t531, .int .i64 t532, .int .i64 t533]] ?_; (with_reducible refine (spec_CapacityOf.calls t530 t531 t532 t533 t544 t545 _ A121.out).mono ?_); rintro e w175 ⟨rfl, hb⟩; refine ⟨_, rfl, ?_⟩; replace BK469 := bb BK469 hb; replace BK470 := bb BK470 hb; replace BK516 := bb BK516 hb; replace BK517 := bb BK517 hb; replace BK523 := bb BK523 hb; replace BK529 := bb BK529 hb; replace BK536 := bb BK536 hb; replace BK537 := bb BK537 hb; replace HB := bs HB hb; (try clear hb)))
       (try simp only [Act.put, List.setIfInBounds_toArray, List.set_cons_zero, List.set_cons_succ])
       refine cutF (rl [53, 131, 3, 200] false) (fun u_ wc => ∃ (kq : Nat) (x366_121 : Bool), (u_ 366) = .bool x366_121 ∧ Aside0 (laws_FnSiphonsKeepWater.j4 kq t542 t543 x366_121 t530 t531 t532 t533 = some r) ∧ Aside0 (kq ≤ kj49) ∧ Aside0 (wc.heap[gb469]? = some (.cells #[.int .i64 t460, .int .i64 t461, .int .i64 t462, .int .i64 t463] 100 (0, 0))) ∧ Aside0 (wc.heap[gb470]? = some (.cells #[.int .i64 t464, .bool t465] 102 (0, 0))) ∧ Aside0 (wc.heap[gb516]? = some (.cells #[.int .i64 t509, .int .i64 t510, .int .i64 t511, .int .i64 t512] 100 (0, 0))) ∧ Aside0 (wc.heap[gb517]? = some (.cells #[.int .i64 t513, .bool t514] 102 (0, 0))) ∧ Aside0 (wc.heap[gb523]? = some (.cells #[.int .i64 t518, .bool t519] 102 (0, 0))) ∧ Aside0 (wc.heap[gb529]? = some (.cells #[.int .i64 t524, .bool t525] 102 (0, 0))) ∧ Aside0 (wc.heap[gb536]? = some (.cells #[.int .i64 t530, .int .i64 t531, .int .i64 t532, .int .i64 t533] 100 (0, 0))) ∧ Aside0 (wc.heap[gb537]? = some (.cells #[.int .i64 t534, .bool t535] 102 (0, 0))) ∧ Aside0 (Below w.heap.size w wc)) ?first11 ?rest11
       case first11 =>
        as_aux_lemma =>
         intro J_ K_ hJ_ hK_
         have H := HC122.out
         clear HC122
         by_cases c176 : (t522 != t528) = true
         ·rw [if_pos c176] at H
          have c176b0 : (t522 != t528) = true := c176
          (try (have c176b1 : decide (t522 = t528) = false := by simpa using c176))
          (try (have c176b2 : (t522 == t528) = false := by simpa using c176))
          (try (have c176b3 : ¬ (t522 = t528) := by simpa using c176))
          clear c176
          (first | rw [c176b0] | (simp only [i64_w, i32_w]; rw [c176b0]) | skip)
          exact absurd H (by rw [hrt.out]; cases kj49 <;> simp [laws_FnSiphonsKeepWater.j4])
         rw [if_neg c176] at H
         have c176b0 : (t522 != t528) = false := by simpa using c176
         (try (have c176b1 : decide (t522 = t528) = true := by simpa using c176))
         (try (have c176b2 : (t522 == t528) = true := by simpa using c176))
         clear c176
         (first | rw [c176b0] | (simp only [i64_w, i32_w]; rw [c176b0]) | skip)
         by_cases c177 : (!(t518 == t524) || (!(t519 == t525))) = true
         ·rw [if_pos c177] at H
          have c177b0 : (!(t518 == t524) || (!(t519 == t525))) = true := c177
          clear c177
          exact absurd H (by rw [hrt.out]; cases kj49 <;> simp [laws_FnSiphonsKeepWater.j4])
         rw [if_neg c177] at H
         have c177b0 : (!(t518 == t524) || (!(t519 == t525))) = false := by simpa using c177
         clear c177
         by_cases c178 : t520 = t526
         rotate_left
         ·rw [if_neg c178] at H
          have c178b0 : (t520 == t526) = false := beq_eq_false_iff_ne.mpr c178
          have c178b1 : (t520 != t526) = true := bne_iff_ne.mpr c178
          exact absurd H (by rw [hrt.out]; cases kj49 <;> simp [laws_FnSiphonsKeepWater.j4])
         rw [if_pos c178] at H
         have c178b0 : (t520 == t526) = true := beq_iff_eq.mpr c178
         have c178b1 : (t520 != t526) = false := bne_eq_false_iff_eq.mpr c178
         clear c178
         by_cases c179 : t521 = t527
         rotate_left
         ·rw [if_neg c179] at H
          have c179b0 : (t521 == t527) = false := beq_eq_false_iff_ne.mpr c179
          have c179b1 : (t521 != t527) = true := bne_iff_ne.mpr c179
          exact absurd H (by rw [hrt.out]; cases kj49 <;> simp [laws_FnSiphonsKeepWater.j4])
         rw [if_pos c179] at H
         have c179b0 : (t521 == t527) = true := beq_iff_eq.mpr c179
         have c179b1 : (t521 != t527) = false := bne_eq_false_iff_eq.mpr c179
         clear c179
         by_cases c180 : (t539 != t541) = true
         ·rw [if_pos c180] at H
          have c180b0 : (t539 != t541) = true := c180
          (try (have c180b1 : decide (t539 = t541) = false := by simpa using c180))
          (try (have c180b2 : (t539 == t541) = false := by simpa using c180))
          (try (have c180b3 : ¬ (t539 = t541) := by simpa using c180))
          clear c180
          exact absurd H (by rw [hrt.out]; cases kj49 <;> simp [laws_FnSiphonsKeepWater.j4])
         rw [if_neg c180] at H
         have c180b0 : (t539 != t541) = false := by simpa using c180
         (try (have c180b1 : decide (t539 = t541) = true := by simpa using c180))
         (try (have c180b2 : (t539 == t541) = true := by simpa using c180))
         clear c180
         by_cases c181 : (t538 != t540) = true
         ·rw [if_pos c181] at H
          have c181b0 : (t538 != t540) = true := c181
          (try (have c181b1 : decide (t538 = t540) = false := by simpa using c181))
          (try (have c181b2 : (t538 == t540) = false := by simpa using c181))
          (try (have c181b3 : ¬ (t538 = t540) := by simpa using c181))
          clear c181
          exact absurd H (by rw [hrt.out]; cases kj49 <;> simp [laws_FnSiphonsKeepWater.j4])
         rw [if_neg c181] at H
         have c181b0 : (t538 != t540) = false := by simpa using c181
         (try (have c181b1 : decide (t538 = t540) = true := by simpa using c181))
         (try (have c181b2 : (t538 == t540) = true := by simpa using c181))
         clear c181
         by_cases c182 : (t543 != t545) = true
         ·rw [if_pos c182] at H
          have c182b0 : (t543 != t545) = true := c182
          (try (have c182b1 : decide (t543 = t545) = false := by simpa using c182))
          (try (have c182b2 : (t543 == t545) = false := by simpa using c182))
          (try (have c182b3 : ¬ (t543 = t545) := by simpa using c182))
          clear c182
          exact absurd H (by rw [hrt.out]; cases kj49 <;> simp [laws_FnSiphonsKeepWater.j4])
         rw [if_neg c182] at H
         have c182b0 : (t543 != t545) = false := by simpa using c182
         (try (have c182b1 : decide (t543 = t545) = true := by simpa using c182))
         (try (have c182b2 : (t543 == t545) = true := by simpa using c182))
         clear c182
         by_cases c183 : t542 = t544
         rotate_left
         ·rw [if_neg c183] at H
          have c183b0 : (t542 == t544) = false := beq_eq_false_iff_ne.mpr c183
          have c183b1 : (t542 != t544) = true := bne_iff_ne.mpr c183
          exact absurd H (by rw [hrt.out]; cases kj49 <;> simp [laws_FnSiphonsKeepWater.j4])
         rw [if_pos c183] at H
         have c183b0 : (t542 == t544) = true := beq_iff_eq.mpr c183
         have c183b1 : (t542 != t544) = false := bne_eq_false_iff_eq.mpr c183
         clear c183
         replace H := Option.bind_eq_some_iff.mp H
         obtain ⟨t546, A1840, H⟩ := H
         (try dsimp only at H)
         have A184 := Aside0.mk A1840
         clear A1840
         by_cases c185 : (t539 != t546) = true
         ·rw [if_pos c185] at H
          have c185b0 : (t539 != t546) = true := c185
          (try (have c185b1 : decide (t539 = t546) = false := by simpa using c185))
          (try (have c185b2 : (t539 == t546) = false := by simpa using c185))
          (try (have c185b3 : ¬ (t539 = t546) := by simpa using c185))
          clear c185
          exact absurd H (by rw [hrt.out]; cases kj49 <;> simp [laws_FnSiphonsKeepWater.j4])
         rw [if_neg c185] at H
         have c185b0 : (t539 != t546) = false := by simpa using c185
         (try (have c185b1 : decide (t539 = t546) = true := by simpa using c185))
         (try (have c185b2 : (t539 == t546) = true := by simpa using c185))
         clear c185
         replace H := Option.bind_eq_some_iff.mp H
         obtain ⟨t547, A1860, H⟩ := H
         obtain rfl : t546 = t547 := Option.some.inj (A184.out.symm.trans A1860)
         (try dsimp only at H)
         have A186 := Aside0.mk A1860
         clear A1860
         replace H := Option.bind_eq_some_iff.mp H
         obtain ⟨t548, A1870, H⟩ := H
         (try dsimp only at H)
         have A187 := Aside0.mk A1870
         clear A1870
         by_cases c188 : (t546 != t548) = true
         ·rw [if_pos c188] at H
          have c188b0 : (t546 != t548) = true := c188
          (try (have c188b1 : decide (t546 = t548) = false := by simpa using c188))
          (try (have c188b2 : (t546 == t548) = false := by simpa using c188))
          (try (have c188b3 : ¬ (t546 = t548) := by simpa using c188))
          clear c188
          exact absurd H (by rw [hrt.out]; cases kj49 <;> simp [laws_FnSiphonsKeepWater.j4])
         rw [if_neg c188] at H
         have c188b0 : (t546 != t548) = false := by simpa using c188
         (try (have c188b1 : decide (t546 = t548) = true := by simpa using c188))
         (try (have c188b2 : (t546 == t548) = true := by simpa using c188))
         clear c188
         have H' := Aside0.mk H
         clear H
         try go_wp2
         replace BK469 := Aside0.mk (blk_drew BK469.out)
         replace BK470 := Aside0.mk (blk_drew BK470.out)
         replace BK516 := Aside0.mk (blk_drew BK516.out)
         replace BK517 := Aside0.mk (blk_drew BK517.out)
         replace BK523 := Aside0.mk (blk_drew BK523.out)
         replace BK529 := Aside0.mk (blk_drew BK529.out)
         replace BK536 := Aside0.mk (blk_drew BK536.out)
         replace BK537 := Aside0.mk (blk_drew BK537.out)
         replace HB := Aside0.mk (below_drew1 HB.out)
         refine start_ (n := 56) (S := fun w' => w'.cell? ⟨gb523, 0, none⟩ = some (.int .i64 t518) ∧ w'.cell? ⟨gb523, 1, none⟩ = some (.bool t519) ∧ w'.cell? ⟨gb529, 0, none⟩ = some (.int .i64 t524) ∧ w'.cell? ⟨gb529, 1, none⟩ = some (.bool t525) ∧ w'.cell? ⟨gb536, 0, none⟩ = some (.int .i64 t530) ∧ w'.cell? ⟨gb536, 1, none⟩ = some (.int .i64 t531) ∧ w'.cell? ⟨gb536, 2, none⟩ = some (.int .i64 t532) ∧ w'.cell? ⟨gb536, 3, none⟩ = some (.int .i64 t533)) (ds := []) (bl 56 0) (by kernel_rfl) rfl rfl ⟨bc0 BK523, bc1 BK523, bc0 BK529, bc1 BK529, bc0 BK536, bc1 BK536, bc2 BK536, bc3 BK536⟩ (fun hHeld => ?_); refine with_tabW laws_FnSiphonsKeepWater.tab35 laws_FnSiphonsKeepWater.bits35 (fun HT_ HW_ => ?_)
         generalize w175.drew = w189 at BK469 BK470 BK516 BK517 BK523 BK529 BK536 BK537 HB hHeld ⊢
         refine pu 0 311 (bl 56 1) HT_.out (v := ?_) (a' := ?_) ?_ ?_ ?_
         rotate_left; (intro w'; go_simp; with_reducible rfl); rotate_left; (simp only [sqa, sqb, sqc, sqd, i64_w, i32_w]; rfl)
         refine pu 1 312 (bl 56 3) HT_.out (v := ?_) (a' := ?_) ?_ ?_ ?_
         rotate_left; (intro w'; go_simp; with_reducible rfl); rotate_left; (simp only [sqa, sqb, sqc, sqd, i64_w, i32_w]; rfl)
         refine pu 2 313 (bl 56 7) HT_.out (v := ?_) (a' := ?_) ?_ ?_ ?_
         rotate_left; (intro w'; go_simp; with_reducible rfl); rotate_left; (simp only [sqa, sqb, sqc, sqd, i64_w, i32_w]; rfl)
         refine pu 3 314 (bl 56 15) HT_.out (v := ?_) (a' := ?_) ?_ ?_ ?_
         rotate_left; (intro w'; go_simp; with_reducible rfl); rotate_left; (simp only [sqa, sqb, sqc, sqd, i64_w, i32_w]; rfl)
         refine tk 4 315 (bl 56 31) HT_.out HW_.out hHeld (v := ?_) (a' := ?_) ?_ ?_ ?_
         rotate_left; (rintro w' ⟨s0, s1, s2, s3, s4, s5, s6, s7⟩; go_simp; with_reducible rfl); rotate_left; (simp only [sqa, sqb, sqc, sqd, i64_w, i32_w]; rfl)
         refine tk 5 316 (bl 56 63) HT_.out HW_.out hHeld (v := ?_) (a' := ?_) ?_ ?_ ?_
         rotate_left; (rintro w' ⟨s0, s1, s2, s3, s4, s5, s6, s7⟩; go_simp; with_reducible rfl); rotate_left; (simp only [sqa, sqb, sqc, sqd, i64_w, i32_w]; rfl)
         refine pu 6 317 (bl 56 127) HT_.out (v := ?_) (a' := ?_) ?_ ?_ ?_
         rotate_left; (intro w'; go_simp; with_reducible rfl); rotate_left; (simp only [sqa, sqb, sqc, sqd, i64_w, i32_w]; rfl)
         refine pu 7 318 (bl 56 255) HT_.out (v := ?_) (a' := ?_) ?_ ?_ ?_
         rotate_left; (intro w'; go_simp; with_reducible rfl); rotate_left; (simp only [sqa, sqb, sqc, sqd, i64_w, i32_w]; rfl)
         refine pu 8 319 (bl 56 511) HT_.out (v := ?_) (a' := ?_) ?_ ?_ ?_
         rotate_left; (intro w'; go_simp; with_reducible rfl); rotate_left; (simp only [sqa, sqb, sqc, sqd, i64_w, i32_w]; rfl)
         refine pu 9 320 (bl 56 1023) HT_.out (v := ?_) (a' := ?_) ?_ ?_ ?_
         rotate_left; (intro w'; go_simp; with_reducible rfl); rotate_left; (simp only [sqa, sqb, sqc, sqd, i64_w, i32_w]; rfl)
         refine pu 10 321 (bl 56 2047) HT_.out (v := ?_) (a' := ?_) ?_ ?_ ?_
         rotate_left; (intro w'; go_simp; with_reducible rfl); rotate_left; (simp only [sqa, sqb, sqc, sqd, i64_w, i32_w]; rfl)
         refine pu 11 322 (bl 56 4095) HT_.out (v := ?_) (a' := ?_) ?_ ?_ ?_
         rotate_left; (intro w'; go_simp; with_reducible rfl); rotate_left; (simp only [sqa, sqb, sqc, sqd, i64_w, i32_w]; rfl)
         refine pu 12 323 (bl 56 8191) HT_.out (v := ?_) (a' := ?_) ?_ ?_ ?_
         rotate_left; (intro w'; go_simp; with_reducible rfl); rotate_left; (simp only [sqa, sqb, sqc, sqd, i64_w, i32_w]; rfl)
         refine pu 13 324 (bl 56 16383) HT_.out (v := ?_) (a' := ?_) ?_ ?_ ?_
         rotate_left; (intro w'; go_simp; with_reducible rfl); rotate_left; (simp only [sqa, sqb, sqc, sqd, i64_w, i32_w]; rfl)
         refine pu 14 325 (bl 56 32767) HT_.out (v := ?_) (a' := ?_) ?_ ?_ ?_
         rotate_left; (intro w'; go_simp; with_reducible rfl); rotate_left; (simp only [sqa, sqb, sqc, sqd, i64_w, i32_w]; rfl)
         refine pu 15 326 (bl 56 65535) HT_.out (v := ?_) (a' := ?_) ?_ ?_ ?_
         rotate_left; (intro w'; go_simp; with_reducible rfl); rotate_left; (simp only [sqa, sqb, sqc, sqd, i64_w, i32_w]; rfl)
         refine pu 16 327 (bl 56 131071) HT_.out (v := ?_) (a' := ?_) ?_ ?_ ?_
         rotate_left; (intro w'; go_simp; with_reducible rfl); rotate_left; (simp only [sqa, sqb, sqc, sqd, i64_w, i32_w]; rfl)
         refine pu 17 328 (bl 56 262143) HT_.out (v := ?_) (a' := ?_) ?_ ?_ ?_
         rotate_left; (intro w'; go_simp; with_reducible rfl); rotate_left; (simp only [sqa, sqb, sqc, sqd, i64_w, i32_w]; rfl)
         refine pu 18 329 (bl 56 524287) HT_.out (v := ?_) (a' := ?_) ?_ ?_ ?_
         rotate_left; (intro w'; go_simp; with_reducible rfl); rotate_left; (simp only [sqa, sqb, sqc, sqd, i64_w, i32_w]; rfl)
         refine pu 19 330 (bl 56 1048575) HT_.out (v := ?_) (a' := ?_) ?_ ?_ ?_
         rotate_left; (intro w'; go_simp; with_reducible rfl); rotate_left; (simp only [sqa, sqb, sqc, sqd, i64_w, i32_w]; rfl)
         refine pu 20 331 (bl 56 2097151) HT_.out (v := ?_) (a' := ?_) ?_ ?_ ?_
         rotate_left; (intro w'; go_simp; with_reducible rfl); rotate_left; (simp only [sqa, sqb, sqc, sqd, i64_w, i32_w]; rfl)
         refine pu 21 332 (bl 56 4194303) HT_.out (v := ?_) (a' := ?_) ?_ ?_ ?_
         rotate_left; (intro w'; go_simp; with_reducible rfl); rotate_left; (simp only [sqa, sqb, sqc, sqd, i64_w, i32_w]; rfl)
         refine pu 22 333 (bl 56 8388607) HT_.out (v := ?_) (a' := ?_) ?_ ?_ ?_
         rotate_left; (intro w'; go_simp; with_reducible rfl); rotate_left; (simp only [sqa, sqb, sqc, sqd, i64_w, i32_w]; rfl)
         refine pu 23 334 (bl 56 16777215) HT_.out (v := ?_) (a' := ?_) ?_ ?_ ?_
         rotate_left; (intro w'; go_simp; with_reducible rfl); rotate_left; (simp only [sqa, sqb, sqc, sqd, i64_w, i32_w]; rfl)
         refine pu 24 335 (bl 56 33554431) HT_.out (v := ?_) (a' := ?_) ?_ ?_ ?_
         rotate_left; (intro w'; go_simp; with_reducible rfl); rotate_left; (simp only [sqa, sqb, sqc, sqd, i64_w, i32_w]; rfl)
         refine pu 25 336 (bl 56 67108863) HT_.out (v := ?_) (a' := ?_) ?_ ?_ ?_
         rotate_left; (intro w'; go_simp; with_reducible rfl); rotate_left; (simp only [sqa, sqb, sqc, sqd, i64_w, i32_w]; rfl)
         refine pu 26 337 (bl 56 134217727) HT_.out (v := ?_) (a' := ?_) ?_ ?_ ?_
         rotate_left; (intro w'; go_simp; with_reducible rfl); rotate_left; (simp only [sqa, sqb, sqc, sqd, i64_w, i32_w]; rfl)
         refine pu 27 338 (bl 56 268435455) HT_.out (v := ?_) (a' := ?_) ?_ ?_ ?_
         rotate_left; (intro w'; go_simp; with_reducible rfl); rotate_left; (simp only [sqa, sqb, sqc, sqd, i64_w, i32_w]; rfl)
         refine pu 28 339 (bl 56 536870911) HT_.out (v := ?_) (a' := ?_) ?_ ?_ ?_
         rotate_left; (intro w'; go_simp; with_reducible rfl); rotate_left; (simp only [sqa, sqb, sqc, sqd, i64_w, i32_w]; rfl)
         refine pu 29 340 (bl 56 1073741823) HT_.out (v := ?_) (a' := ?_) ?_ ?_ ?_
         rotate_left; (intro w'; go_simp; with_reducible rfl); rotate_left; (simp only [sqa, sqb, sqc, sqd, i64_w, i32_w]; rfl)
         refine pu 30 341 (bl 56 2147483647) HT_.out (v := ?_) (a' := ?_) ?_ ?_ ?_
         rotate_left; (intro w'; go_simp; with_reducible rfl); rotate_left; (simp only [sqa, sqb, sqc, sqd, i64_w, i32_w]; rfl)
         refine pu 31 342 (bl 56 4294967295) HT_.out (v := ?_) (a' := ?_) ?_ ?_ ?_
         rotate_left; (intro w'; go_simp; with_reducible rfl); rotate_left; (simp only [sqa, sqb, sqc, sqd, i64_w, i32_w]; rfl)
         refine pu 32 343 (bl 56 8589934591) HT_.out (v := ?_) (a' := ?_) ?_ ?_ ?_
         rotate_left; (intro w'; go_simp; with_reducible rfl); rotate_left; (simp only [sqa, sqb, sqc, sqd, i64_w, i32_w]; rfl)
         refine pu 33 344 (bl 56 17179869183) HT_.out (v := ?_) (a' := ?_) ?_ ?_ ?_
         rotate_left; (intro w'; go_simp; with_reducible rfl); rotate_left; (simp only [sqa, sqb, sqc, sqd, i64_w, i32_w]; rfl)
         refine pu 34 345 (bl 56 34359738367) HT_.out (v := ?_) (a' := ?_) ?_ ?_ ?_
         rotate_left; (intro w'; go_simp; with_reducible rfl); rotate_left; (simp only [sqa, sqb, sqc, sqd, i64_w, i32_w]; rfl)
         refine pu 35 346 (bl 56 68719476735) HT_.out (v := ?_) (a' := ?_) ?_ ?_ ?_
         rotate_left; (intro w'; go_simp; with_reducible rfl); rotate_left; (simp only [sqa, sqb, sqc, sqd, i64_w, i32_w]; rfl)
         refine pu 36 347 (bl 56 137438953471) HT_.out (v := ?_) (a' := ?_) ?_ ?_ ?_
         rotate_left; (intro w'; go_simp; with_reducible rfl); rotate_left; (simp only [sqa, sqb, sqc, sqd, i64_w, i32_w]; rfl)
         refine pu 37 348 (bl 56 274877906943) HT_.out (v := ?_) (a' := ?_) ?_ ?_ ?_
         rotate_left; (intro w'; go_simp; with_reducible rfl); rotate_left; (simp only [sqa, sqb, sqc, sqd, i64_w, i32_w]; rfl)
         refine pu 38 349 (bl 56 549755813887) HT_.out (v := ?_) (a' := ?_) ?_ ?_ ?_
         rotate_left; (intro w'; go_simp; with_reducible rfl); rotate_left; (simp only [sqa, sqb, sqc, sqd, i64_w, i32_w]; rfl)
         refine pu 39 350 (bl 56 1099511627775) HT_.out (v := ?_) (a' := ?_) ?_ ?_ ?_
         rotate_left; (intro w'; go_simp; with_reducible rfl); rotate_left; (simp only [sqa, sqb, sqc, sqd, i64_w, i32_w]; rfl)
         refine tk 40 351 (bl 56 2199023255551) HT_.out HW_.out hHeld (v := ?_) (a' := ?_) ?_ ?_ ?_
         rotate_left; (rintro w' ⟨s0, s1, s2, s3, s4, s5, s6, s7⟩; go_simp; with_reducible rfl); rotate_left; (simp only [sqa, sqb, sqc, sqd, i64_w, i32_w]; rfl)
         refine on 41 352 (bl 56 4398046511103) HT_.out (fun K hK => ?_)
         refine gs Try.func114 #[.agg #[.int .i64 t530, .int .i64 t531, .int .i64 t532, .int .i64 t533]] ?_
         with_reducible refine (impl_IsSiphon.calls t530 t531 t532 t533 t546 _ A184.out).mono ?_
         rintro e w190 ⟨rfl, hb⟩
         refine ⟨_, rfl, ?_⟩
         replace BK469 := bb BK469 hb
         replace BK470 := bb BK470 hb
         replace BK516 := bb BK516 hb
         replace BK517 := bb BK517 hb
         replace BK523 := bb BK523 hb
         replace BK529 := bb BK529 hb
         replace BK536 := bb BK536 hb
         replace BK537 := bb BK537 hb
         replace HB := bs HB hb
         (try clear hb); (try clear hk)
         refine hK.out _ _ ⟨bc0 BK523, bc1 BK523, bc0 BK529, bc1 BK529, bc0 BK536, bc1 BK536, bc2 BK536, bc3 BK536⟩ (fun hHeld => ?_)
         clear hK K
         refine norm_ (a' := ?_) ?_ ?_; rotate_left; (show Act.put _ (some 352) _ = _; simp only [sqa, sqb, sqc, sqd, i64_w, i32_w]; rfl)
         refine pu 42 353 (bl 56 8796093022207) HT_.out (v := ?_) (a' := ?_) ?_ ?_ ?_
         rotate_left; (intro w'; go_simp; with_reducible rfl); rotate_left; (simp only [sqa, sqb, sqc, sqd, i64_w, i32_w]; rfl)
         refine pu 43 354 (bl 56 17592186044415) HT_.out (v := ?_) (a' := ?_) ?_ ?_ ?_
         rotate_left; (intro w'; go_simp; with_reducible rfl); rotate_left; (simp only [sqa, sqb, sqc, sqd, i64_w, i32_w]; rfl)
         refine pu 44 355 (bl 56 35184372088831) HT_.out (v := ?_) (a' := ?_) ?_ ?_ ?_
         rotate_left; (intro w'; go_simp; with_reducible rfl); rotate_left; (simp only [sqa, sqb, sqc, sqd, i64_w, i32_w]; rfl)
         refine tk 45 356 (bl 56 70368744177663) HT_.out HW_.out hHeld (v := ?_) (a' := ?_) ?_ ?_ ?_
         rotate_left; (rintro w' ⟨s0, s1, s2, s3, s4, s5, s6, s7⟩; go_simp; with_reducible rfl); rotate_left; (simp only [sqa, sqb, sqc, sqd, i64_w, i32_w]; rfl)
         refine tk 47 358 (bl 56 211106232532991) HT_.out HW_.out hHeld (v := ?_) (a' := ?_) ?_ ?_ ?_
         rotate_left; (rintro w' ⟨s0, s1, s2, s3, s4, s5, s6, s7⟩; go_simp; with_reducible rfl); rotate_left; (simp only [sqa, sqb, sqc, sqd, i64_w, i32_w]; rfl)
         refine on 46 357 (bl 56 281474976710655) HT_.out (fun K hK => ?_)
         refine gs Try.func114 #[.agg #[.int .i64 t530, .int .i64 t531, .int .i64 t532, .int .i64 t533]] ?_
         with_reducible refine (impl_IsSiphon.calls t530 t531 t532 t533 t546 _ A186.out).mono ?_
         rintro e w191 ⟨rfl, hb⟩
         refine ⟨_, rfl, ?_⟩
         replace BK469 := bb BK469 hb
         replace BK470 := bb BK470 hb
         replace BK516 := bb BK516 hb
         replace BK517 := bb BK517 hb
         replace BK523 := bb BK523 hb
         replace BK529 := bb BK529 hb
         replace BK536 := bb BK536 hb
         replace BK537 := bb BK537 hb
         replace HB := bs HB hb
         (try clear hb); (try clear hk)
         refine hK.out _ _ ⟨bc0 BK523, bc1 BK523, bc0 BK529, bc1 BK529, bc0 BK536, bc1 BK536, bc2 BK536, bc3 BK536⟩ (fun hHeld => ?_)
         clear hK K
         refine norm_ (a' := ?_) ?_ ?_; rotate_left; (show Act.put _ (some 357) _ = _; simp only [sqa, sqb, sqc, sqd, i64_w, i32_w]; rfl)
         refine on 48 359 (bl 56 562949953421311) HT_.out (fun K hK => ?_)
         refine gs Try.func115 #[.agg #[.int .i64 t530, .int .i64 t531, .int .i64 t532, .int .i64 t533]] ?_
         with_reducible refine (spec_IsSiphon.calls t530 t531 t532 t533 t548 _ A187.out).mono ?_
         rintro e w192 ⟨rfl, hb⟩
         refine ⟨_, rfl, ?_⟩
         replace BK469 := bb BK469 hb
         replace BK470 := bb BK470 hb
         replace BK516 := bb BK516 hb
         replace BK517 := bb BK517 hb
         replace BK523 := bb BK523 hb
         replace BK529 := bb BK529 hb
         replace BK536 := bb BK536 hb
         replace BK537 := bb BK537 hb
         replace HB := bs HB hb
         (try clear hb); (try clear hk)
         refine hK.out _ _ ⟨bc0 BK523, bc1 BK523, bc0 BK529, bc1 BK529, bc0 BK536, bc1 BK536, bc2 BK536, bc3 BK536⟩ (fun hHeld => ?_)
         clear hK K
         refine norm_ (a' := ?_) ?_ ?_; rotate_left; (show Act.put _ (some 359) _ = _; simp only [sqa, sqb, sqc, sqd, i64_w, i32_w]; rfl)
         refine pu 49 360 (bl 56 1125899906842623) HT_.out (v := ?_) (a' := ?_) ?_ ?_ ?_
         rotate_left; (intro w'; go_simp; with_reducible rfl); rotate_left; (simp only [sqa, sqb, sqc, sqd, i64_w, i32_w]; rfl)
         refine pu 50 361 (bl 56 2251799813685247) HT_.out (v := ?_) (a' := ?_) ?_ ?_ ?_
         rotate_left; (intro w'; go_simp; with_reducible rfl); rotate_left; (simp only [sqa, sqb, sqc, sqd, i64_w, i32_w]; rfl)
         refine pu 51 362 (bl 56 4503599627370495) HT_.out (v := ?_) (a' := ?_) ?_ ?_ ?_
         rotate_left; (intro w'; go_simp; with_reducible rfl); rotate_left; (simp only [sqa, sqb, sqc, sqd, i64_w, i32_w]; rfl)
         refine pu 52 363 (bl 56 9007199254740991) HT_.out (v := ?_) (a' := ?_) ?_ ?_ ?_
         rotate_left; (intro w'; go_simp; with_reducible rfl); rotate_left; (simp only [sqa, sqb, sqc, sqd, i64_w, i32_w]; rfl)
         refine pu 53 364 (bl 56 18014398509481983) HT_.out (v := ?_) (a' := ?_) ?_ ?_ ?_
         rotate_left; (intro w'; go_simp; with_reducible rfl); rotate_left; (simp only [sqa, sqb, sqc, sqd, i64_w, i32_w]; rfl)
         refine pu 54 365 (bl 56 36028797018963967) HT_.out (v := ?_) (a' := ?_) ?_ ?_ ?_
         rotate_left; (intro w'; go_simp; with_reducible rfl); rotate_left; (simp only [sqa, sqb, sqc, sqd, i64_w, i32_w]; rfl)
         refine pu 55 366 (bl 56 72057594037927935) HT_.out (v := ?_) (a' := ?_) ?_ ?_ ?_
         rotate_left; (intro w'; go_simp; with_reducible rfl); rotate_left; (simp only [sqa, sqb, sqc, sqd, i64_w, i32_w]; rfl)
         refine done_ (done_of HT_.out (by kernel_rfl)) ?_
         try go_wp2
         (refine Met.intro ?_; go_step; refine Cut_mk (by kernel_rfl) ?rel12)
         case rel12 => exact ⟨_, ((t543 != t539)), (by first | rfl | (simp; done) | (simp [*]; done)), H', ⟨by first | exact Nat.le_refl _ | exact Nat.le_of_succ_le HJ49.out | exact Nat.le_of_succ_le (Nat.le_trans HJ49.out (Nat.le_of_succ_le HJ11.out)) | exact Nat.le_of_succ_le HJ11.out | (have := HJ11.out; have := HJ49.out; omega)⟩, ⟨bk BK469⟩, ⟨bk BK470⟩, ⟨bk BK516⟩, ⟨bk BK517⟩, ⟨bk BK523⟩, ⟨bk BK529⟩, ⟨bk BK536⟩, ⟨bk BK537⟩, ⟨bw HB⟩⟩
       case rest11 =>
         intro u_ wc hcut l_ hl_; (simp only [rl, List.reduceReplicate, List.cons_append, List.nil_append, List.append_nil, Bool.not_true, Bool.not_false, fu, Nat.reduceAdd] at hl_); subst hl_; generalize u_ 366 = v366 at hcut ⊢
         clear HC122
         (try clear c1)
         obtain ⟨kq, x366_121, rfl, HA, HJ121, BK469, BK470, BK516, BK517, BK523, BK529, BK536, BK537, HB⟩ := hcut
         cases kq with
         | zero => exact absurd HA.out (by simp [laws_FnSiphonsKeepWater.j4])
         | succ kj121 =>
          have H := HA.out
          clear HA
          simp only [laws_FnSiphonsKeepWater.j4] at H
          by_cases c193 : x366_121 = true
          ·subst c193
           have H1 : (some false) = some r := by rw [if_pos rfl] at H; exact H
           clear H
           have H := H1
           clear H1
           exact absurd ((Option.some.inj H).trans hrt.out) (by decide)
          replace c193 := Bool.eq_false_iff.mpr c193
          subst c193
          have H1 : (if t543 = true then (if 61 ≤ 35184372088832 then ((some (List.replicate 61 0 : List Int)).bind fun y549 => (if 0 < (y549.length : Int) then ((impl_OutsOf.f kj121 t530 t531 t532 t533 0 false (y549.set (0 : Int).toNat t532)).bind fun bt553 => (if bt553.2 = true then ((laws_eSum.f kj121 bt553.1).bind fun t557 => (some (t557 == t542))) else (some false))) else (none))) else (none)) else (some true)) = some r := by rw [if_neg (show ¬ (false = true) by decide)] at H; exact H
          clear H
          have H := H1
          clear H1
          by_cases c194 : t543 = true
          rotate_left
          ·replace c194 := Bool.eq_false_iff.mpr c194
           subst c194
           have H1 : (some true) = some r := by rw [if_neg (show ¬ (false = true) by decide)] at H; exact H
           clear H
           have H := H1
           clear H1
           obtain rfl := Option.some.inj H
           go_wp2
           go_ret
           exact ⟨by first | rfl | (simp [errW_none, errW_some] <;> rfl) | (simp [*, errW_none, errW_some] <;> rfl), bw HB⟩
          subst c194
          have H1 : (if 61 ≤ 35184372088832 then ((some (List.replicate 61 0 : List Int)).bind fun y549 => (if 0 < (y549.length : Int) then ((impl_OutsOf.f kj121 t530 t531 t532 t533 0 false (y549.set (0 : Int).toNat t532)).bind fun bt553 => (if bt553.2 = true then ((laws_eSum.f kj121 bt553.1).bind fun t557 => (some (t557 == t542))) else (some false))) else (none))) else (none)) = some r := by rw [if_pos rfl] at H; exact H
          clear H
          have H := H1
          clear H1
          by_cases c195 : 61 ≤ 35184372088832
          rotate_left
          ·rw [if_neg c195] at H
           exact absurd H (by simp)
          rw [if_pos c195] at H
          have c195b0 := eq_true c195
          have c195b1 : decide (61 ≤ 35184372088832) = true := decide_eq_true c195
          clear c195
          obtain ⟨y549, hy549⟩ : ∃ y_ : List Int, y_ = (List.replicate 61 0) := ⟨_, rfl⟩
          replace H : (if 0 < (y549.length : Int) then ((impl_OutsOf.f kj121 t530 t531 t532 t533 0 false (y549.set (0 : Int).toNat t532)).bind fun bt553 => (if bt553.2 = true then ((laws_eSum.f kj121 bt553.1).bind fun t557 => (some (t557 == t542))) else (some false))) else (none)) = some r := by first | (rw [hy549]; with_reducible exact H) | (have H2_ := (Option.bind_some _ _).symm.trans H; rw [hy549]; with_reducible exact H2_) | (have H2_ := (Option.bind_some _ _).symm.trans H; with_reducible exact H2_) | with_reducible exact H | (rw [hy549]; exact H) | exact H
          have Ny549 := Aside0.mk hy549
          clear hy549
          by_cases c196 : 0 < (y549.length : Int)
          rotate_left
          ·rw [if_neg c196] at H
           exact absurd H (by simp)
          rw [if_pos c196] at H
          have c196b0 : decide (0 < (y549.length : Int)) = true := decide_eq_true c196
          have c196b1 : decide (0 < y549.length) = true := decide_eq_true (by omega)
          clear c196
          obtain ⟨y552, hy552⟩ : ∃ y_ : List Int, y_ = (y549.set (0 : Int).toNat t532) := ⟨_, rfl⟩
          replace H : ((impl_OutsOf.f kj121 t530 t531 t532 t533 0 false y552).bind fun bt553 => (if bt553.2 = true then ((laws_eSum.f kj121 bt553.1).bind fun t557 => (some (t557 == t542))) else (some false))) = some r := by first | (rw [hy552]; with_reducible exact H) | (have H2_ := (Option.bind_some _ _).symm.trans H; rw [hy552]; with_reducible exact H2_) | (have H2_ := (Option.bind_some _ _).symm.trans H; with_reducible exact H2_) | with_reducible exact H | (rw [hy552]; exact H) | exact H
          have Ny552 := Aside0.mk hy552
          clear hy552
          replace H := Option.bind_eq_some_iff.mp H
          obtain ⟨⟨t553, t556⟩, A1980, H⟩ := H
          (try dsimp only at H)
          have A198 := Aside0.mk A1980
          clear A1980
          by_cases c199 : t556 = true
          rotate_left
          ·replace c199 := Bool.eq_false_iff.mpr c199
           subst c199
           have H1 : (some false) = some r := by rw [if_neg (show ¬ (false = true) by decide)] at H; exact H
           clear H
           have H := H1
           clear H1
           exact absurd ((Option.some.inj H).trans hrt.out) (by decide)
          subst c199
          have H1 : ((laws_eSum.f kj121 t553).bind fun t557 => (some (t557 == t542))) = some r := by rw [if_pos rfl] at H; exact H
          clear H
          have H := H1
          clear H1
          replace H := Option.bind_eq_some_iff.mp H
          obtain ⟨t557, A2000, H⟩ := H
          (try dsimp only at H)
          have A200 := Aside0.mk A2000
          clear A2000
          obtain rfl := Option.some.inj H
          go_wp2_with (first | ((with_reducible refine gate_dst (N := 368) rfl ?_); (try (refine gate_guard (by rfl) ?_; dsimp only)); refine Kd.R_make (Kd.int .i64) _ 3 rfl (N := 368) rfl 34 _ _ rfl 61 rfl rfl Try.underlying34 (.int .i64 0) 8 info3 rfl (by decide) (by omega) 0 (ok := fun _ => True) (okp := fun _ => True) rfl (fun _ hk => hk) trivial (by omega) (by omega) (Below.refl _ _) (Nat.le_refl _) ?_; intro v550 w201 ho202 hb hg_ hnew_; clear hg_ hnew_; (first | rw [← Ny549.out] at ho202 | (simp only [Int.reduceToNat] at ho202; rw [← Ny549.out] at ho202)); have HO551 := lo ho202 HB; replace BK469 := bb BK469 hb; replace BK470 := bb BK470 hb; replace BK516 := bb BK516 hb; replace BK517 := bb BK517 hb; replace BK523 := bb BK523 hb; replace BK529 := bb BK529 hb; replace BK536 := bb BK536 hb; replace BK537 := bb BK537 hb; replace HB := bs HB hb; clear hb ho202; have hnb203 := NB536_469.out; have hnc203 := NB469_536.out; have hnb204 := NB536_470.out; have hnc204 := NB470_536.out; have hnb205 := NB536_516.out; have hnc205 := NB516_536.out; have hnb206 := NB536_517.out; have hnc206 := NB517_536.out; have hnb207 := NB536_523.out; have hnc207 := NB523_536.out; have hnb208 := NB536_529.out; have hnc208 := NB529_536.out; have hnb209 := NB536_537.out; have hnc209 := NB537_536.out; have hcz210_0 := bc0 BK536; have hcz210_1 := bc1 BK536; have hcz210_2 := bc2 BK536; have hcz210_3 := bc3 BK536; have hfz210_0 := blk_frozen BK536.out 0; have hfz210_1 := blk_frozen BK536.out 1; have hfz210_2 := blk_frozen BK536.out 2; have hfz210_3 := blk_frozen BK536.out 3; have p197 : 0 ≤ (0 : Int) := (by omega); have q197 : (0 : Int) < ((y549.length : Int) : Int) := of_decide_eq_true ‹_›; have qi197 : (0 < y549.length) = True := eq_true (by omega); obtain ⟨go197, co197, eo197, gb197, gl197, cl197, HG197⟩ := Kd.R_form HO551.out (by omega); (first | cases eo197 | (injection eo197 with ea_ en_ ec_; (first | subst ea_ | (injection ea_ with ea_; subst ea_)); subst ec_; clear en_)); have GB197 := Aside0.mk gb197; have GG197 := Aside0.mk HG197; clear gb197 gl197 HG197; obtain ⟨hx197_0, hf197_0⟩ := Kd.R_celln 0 HO551.out (0 : Int) p197 q197; (try rw [show ((0 : Int)).toNat = 0 from rfl] at hx197_0); (try simp only [Nat.reduceMul, Nat.zero_mul, Nat.zero_add, Nat.reduceAdd] at hx197_0); (try rw [show ((0 : Int)).toNat = 0 from rfl] at hf197_0); (try simp only [Nat.reduceMul, Nat.zero_mul, Nat.zero_add, Nat.reduceAdd] at hf197_0); replace p197 := eq_true p197; replace q197 := eq_true q197; obtain ⟨hy211_, hz211_⟩ := Kd.R_celln 0 HO551.out (0 : Int) (by omega) (of_decide_eq_true ‹_›); (try simp only [Int.reduceToNat, Int.toNat_zero, Int.toNat_ofNat, Nat.reduceMul, Nat.zero_mul, Nat.zero_add] at hy211_ hz211_); (try rw [show ((0 : Int)).toNat = 0 from rfl] at hy211_); (try rw [show ((0 : Int)).toNat = 0 from rfl] at hz211_); have HP211 := Kd.R_putg HO551.out (0 : Int) t532) | ((with_reducible refine gate_store (t := 3) (p := 372) rfl ?_); refine store_event (t := 3) (p := 372) (v := ?vo_w212) (w1 := (w201.setCell ⟨go197, (0 : Int).toNat, none⟩ (.int .i64 t532))) ?hg ?ho ?hn ?hr ?_; (case ho => rfl); (case hg => rfl); (case hn => rfl); (case hr => first | (go_simp; done) | (go_simp; rfl)); intro w212 hw; have hg : w201.grownBy w212 (some go197) := (by rw [hw]; exact HP211.2); have hp_ : Kd.R (Kd.int .i64) 3 w212 w.heap.size (fun _ => True) (.slice (some ⟨go197, 0, none⟩) y549.length co197) y552 := (by rw [hw, Ny552.out]; exact HP211.1); clear HP211; replace BK469 := Aside0.mk (blk_grown (g := gb469) (o := .cells #[.int .i64 t460, .int .i64 t461, .int .i64 t462, .int .i64 t463] 100 (0, 0)) (bk BK469) hg (Kd.R_ne HO551.out BK469.out (by decide))); replace BK470 := Aside0.mk (blk_grown (g := gb470) (o := .cells #[.int .i64 t464, .bool t465] 102 (0, 0)) (bk BK470) hg (Kd.R_ne HO551.out BK470.out (by decide))); replace BK516 := Aside0.mk (blk_grown (g := gb516) (o := .cells #[.int .i64 t509, .int .i64 t510, .int .i64 t511, .int .i64 t512] 100 (0, 0)) (bk BK516) hg (Kd.R_ne HO551.out BK516.out (by decide))); replace BK517 := Aside0.mk (blk_grown (g := gb517) (o := .cells #[.int .i64 t513, .bool t514] 102 (0, 0)) (bk BK517) hg (Kd.R_ne HO551.out BK517.out (by decide))); replace BK523 := Aside0.mk (blk_grown (g := gb523) (o := .cells #[.int .i64 t518, .bool t519] 102 (0, 0)) (bk BK523) hg (Kd.R_ne HO551.out BK523.out (by decide))); replace BK529 := Aside0.mk (blk_grown (g := gb529) (o := .cells #[.int .i64 t524, .bool t525] 102 (0, 0)) (bk BK529) hg (Kd.R_ne HO551.out BK529.out (by decide))); replace BK536 := Aside0.mk (blk_grown (g := gb536) (o := .cells #[.int .i64 t530, .int .i64 t531, .int .i64 t532, .int .i64 t533] 100 (0, 0)) (bk BK536) hg (Kd.R_ne HO551.out BK536.out (by decide))); replace BK537 := Aside0.mk (blk_grown (g := gb537) (o := .cells #[.int .i64 t534, .bool t535] 102 (0, 0)) (bk BK537) hg (Kd.R_ne HO551.out BK537.out (by decide))); replace HO551 := Aside0.mk (hp_); replace HB := Aside0.mk ((by rw [hw]; exact below_set (HB.out) GB197.out : Below w.heap.size w w212)); clear hg hw hp_; have hcz213_0 := bc0 BK536; have hcz213_1 := bc1 BK536; have hcz213_2 := bc2 BK536; have hcz213_3 := bc3 BK536; have hfz213_0 := blk_frozen BK536.out 0; have hfz213_1 := blk_frozen BK536.out 1; have hfz213_2 := blk_frozen BK536.out 2; have hfz213_3 := blk_frozen BK536.out 3) | ((with_reducible refine gate_callee (f := 99) rfl ?_); refine goesL_ (some 377) rfl rfl Try.func99 (by kernel_rfl) rfl #[.agg #[.int .i64 t530, .int .i64 t531, .int .i64 t532, .int .i64 t533], .agg #[.int .i64 0, .bool false], .slice (some ⟨go197, 0, none⟩) y552.length co197] rfl (by (try simp only [List.map_toArray, List.map_cons, List.map_nil]); first | done | (rw [show y552.length = y549.length from (Kd.R_reads' HO551.out).1.symm] <;> rfl) | rfl | (simp only [List.length_drop, List.length_take]; rfl)) ?_; (with_reducible refine (impl_OutsOf.calls kj121 t530 t531 t532 t533 0 false _ _ y552 t553 true _ ?side1 ?side2 A198.out).mono ?_); (case side1 => exact cr HO551); (case side2 => rw [show y552.length = y549.length from (Kd.R_reads' HO551.out).1.symm]; exact (Kd.R_reads' HO551.out).2.1); rintro e w214 ⟨v554, rfl, ho0, hb⟩; refine ⟨_, rfl, ?_⟩; have HO555 := Aside0.mk (Kd.R_lower (Kd.R_new' ho0 (Kd.R_lt (rk HO551))) (below_size (bw HB))); replace HO551 := Aside0.mk (Kd.R_elder' (rk HO551) (Kd.R_base ho0) hb); replace BK469 := bb BK469 hb; replace BK470 := bb BK470 hb; replace BK516 := bb BK516 hb; replace BK517 := bb BK517 hb; replace BK523 := bb BK523 hb; replace BK529 := bb BK529 hb; replace BK536 := bb BK536 hb; replace BK537 := bb BK537 hb; replace HB := bs HB hb; (try clear hb); (try clear ho0); obtain ⟨Ao215, co215, eo215⟩ := Kd.R_slice HO555.out; subst eo215) | (go_at_call 61; (with_reducible refine (laws_eSum.calls kj121 _ _ t553 t557 _ ?side1 ?side2 A200.out).mono ?_); (case side1 => exact cr HO555); (case side2 => exact (Kd.R_reads' HO555.out).2.1); rintro e w' ⟨rfl, ⟨nd, rfl⟩⟩))
          go_ret
          exact ⟨by first | rfl | (simp [errW_none, errW_some] <;> rfl) | (simp [*, errW_none, errW_some] <;> rfl), bw HB⟩
   
   /-- THE ONE PURE STATEMENT of laws_FnSiphonsKeepWater: yours. -/
def laws_FnSiphonsKeepWater.Pure : Prop := ∀ (l0 : List Int) (l1 : List Int), l0.length ≤ maxLen → l0.length * 1 ≤ 140737488351232 → (∀ x ∈ l0, (Lit.int .u8 x).wf = true) → l1.length ≤ maxLen → l1.length * 1 ≤ 140737488351232 → (∀ x ∈ l1, (Lit.int .u8 x).wf = true) → ∃ k, laws_FnSiphonsKeepWater.f k l0 l1 = some true
theorem laws_FnSiphonsKeepWater.walk (P : laws_FnSiphonsKeepWater.Pure) (a0 : Option Addr) (len0 cap0 : Nat) (z0 : List Int) (a1 : Option Addr) (len1 cap1 : Nat) (z1 : List Int) (w : World) (w0 : (a0 = none ∧ len0 = 0 ∧ cap0 = 0 ∧ z0 = []) ∨ ∃ x, a0 = some x ∧ len0 ≤ cap0 ∧ cap0 ≤ maxLen ∧ z0.length = cap0 ∧ (∀ i, i < z0.length → w.cell? (x.add i) = some (.int .u8 (z0.getD i 0))) ∧ ∀ n ∈ z0, (Lit.int .u8 n).wf = true) (y0 : len0 * 1 ≤ 140737488351232) (w1 : (a1 = none ∧ len1 = 0 ∧ cap1 = 0 ∧ z1 = []) ∨ ∃ x, a1 = some x ∧ len1 ≤ cap1 ∧ cap1 ≤ maxLen ∧ z1.length = cap1 ∧ (∀ i, i < z1.length → w.cell? (x.add i) = some (.int .u8 (z1.getD i 0))) ∧ ∀ n ∈ z1, (Lit.int .u8 n).wf = true) (y1 : len1 * 1 ≤ 140737488351232) :
  Calls Try.prog 8 #[.slice a0 len0 cap0, .slice a1 len1 cap1] w fun e w' => e = .returned (.bool true) ∧ Below w.heap.size w w' := by
 obtain ⟨l0, rfl, hr0, hm0, hw0, hc0⟩ := ReadsInt.ofRowC w0
 obtain ⟨l1, rfl, hr1, hm1, hw1, hc1⟩ := ReadsInt.ofRowC w1
 obtain ⟨k, h⟩ := P l0 l1 hm0 y0 hw0 hm1 y1 hw1
 refine (laws_FnSiphonsKeepWater.calls k _ _ l0 _ _ l1 true w (Kd.C_of_reads (d := (0 : Int)) (h1 := fun _ => rfl) hr0) hc0 (Kd.C_of_reads (d := (0 : Int)) (h1 := fun _ => rfl) hr1) hc1 ⟨rfl⟩ h).mono ?_
 rintro e w' ⟨rfl, hd⟩
 exact ⟨rfl, hd⟩
end Go.Proofs.Ytmlkdkeocbhajaa.K
