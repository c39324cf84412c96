/- Functions of the specification over all that is reached: as plain functions, and that the calls come to them. -/
import Derived.Test.YtigpkicbigpilaaTcVplQ
import Derived.Test.YtigpkicbigpilaaTcVx4
namespace Go.Proofs.Ytigpkicbigpilaa.V
open Go.RowKit Go.Proofs.YtigpkicbigpilaaW.PrintWords Go.Proofs.YtigpkicbigpilaaW.PrintLast Go.Proofs.YtigpkicbigpilaaW.PrintMore Go.Proofs.Ytigpkicbigpilaa.Sq Go.Proofs.Ytigpkicbigpilaa.Sep
attribute [local go_sem] max2_int min2_int max_two min_two max_three min_three max_four min_four
set_option linter.unusedVariables false
set_option linter.unusedSimpArgs false
def spec_IsReached.f (k : Nat) (l0_0 : List Int) (l0_1 : List Int) (l1_0 : List Int) (l1_1 : List Int) (a2 : Bool) : Option (Bool × Bool) := (spec_plSizes.f k l0_0 l0_1 l1_0 l1_1).bind fun t369 => (if t369 = true then ((spec_plAll.f k l0_0 l0_1 a2).bind fun bt370 => (if bt370.2.2.2.2.2 = true then ((spec_plPlace.f k bt370.1 bt370.2.1 bt370.2.2.1 bt370.2.2.2.1 bt370.2.2.2.2.1 l1_0 l1_1).bind fun bt387 => (some (bt387.2, true))) else (some (false, false)))) else (some (false, false)))
set_option maxHeartbeats 8000000 in
set_option maxRecDepth 100000 in
theorem spec_IsReached.calls (k : Nat) (A0_0 : Option Addr) (c0_0 : Nat) (l0_0 : List Int) (A0_1 : Option Addr) (c0_1 : Nat) (l0_1 : List Int) (A1_0 : Option Addr) (c1_0 : Nat) (l1_0 : List Int) (A1_1 : Option Addr) (c1_1 : Nat) (l1_1 : List Int) (a2 : Bool) (r1 : Bool) (r2 : Bool) (w : World) (hr0_0 : Kd.C (Kd.int .i64) w A0_0 l0_0.length l0_0) (hc0_0 : l0_0.length ≤ c0_0) (hr0_1 : Kd.C (Kd.int .i64) w A0_1 l0_1.length l0_1) (hc0_1 : l0_1.length ≤ c0_1) (hr1_0 : Kd.C (Kd.int .i64) w A1_0 l1_0.length l1_0) (hc1_0 : l1_0.length ≤ c1_0) (hr1_1 : Kd.C (Kd.int .i64) w A1_1 l1_1.length l1_1) (hc1_1 : l1_1.length ≤ c1_1) (h : spec_IsReached.f k l0_0 l0_1 l1_0 l1_1 a2 = some (r1, r2)) :
  Calls Try.prog 31 #[.agg #[.slice A0_0 l0_0.length c0_0, .slice A0_1 l0_1.length c0_1], .agg #[.slice A1_0 l1_0.length c1_0, .slice A1_1 l1_1.length c1_1], .bool a2] w fun e w' => e = .returned (.tuple #[.bool r1, .bool r2]) ∧ Below w.heap.size w w' := by
 have hu29 := Try.underlying29
 have hu80 := Try.underlying80
 have HR0_0 := Aside0.mk hr0_0
 have HC0_0 := Aside0.mk hc0_0
 clear hr0_0 hc0_0
 have HR0_1 := Aside0.mk hr0_1
 have HC0_1 := Aside0.mk hc0_1
 clear hr0_1 hc0_1
 have HR1_0 := Aside0.mk hr1_0
 have HC1_0 := Aside0.mk hc1_0
 clear hr1_0 hc1_0
 have HR1_1 := Aside0.mk hr1_1
 have HC1_1 := Aside0.mk hc1_1
 clear hr1_1 hc1_1
 have HB := Aside0.mk (Below.refl w.heap.size w)
 have H : ((spec_plSizes.f k l0_0 l0_1 l1_0 l1_1).bind fun t369 => (if t369 = true then ((spec_plAll.f k l0_0 l0_1 a2).bind fun bt370 => (if bt370.2.2.2.2.2 = true then ((spec_plPlace.f k bt370.1 bt370.2.1 bt370.2.2.1 bt370.2.2.2.1 bt370.2.2.2.2.1 l1_0 l1_1).bind fun bt387 => (some (bt387.2, true))) else (some (false, false)))) else (some (false, false)))) = some (r1, r2) := h
 clear h
 replace H := Option.bind_eq_some_iff.mp H
 obtain ⟨t369, A40, H⟩ := H
 replace H : (if t369 = true then ((spec_plAll.f k l0_0 l0_1 a2).bind fun bt370 => (if bt370.2.2.2.2.2 = true then ((spec_plPlace.f k bt370.1 bt370.2.1 bt370.2.2.1 bt370.2.2.2.1 bt370.2.2.2.2.1 l1_0 l1_1).bind fun bt387 => (some (bt387.2, true))) else (some (false, false)))) else (some (false, false))) = some (r1, r2) := H
 have A4 := Aside0.mk A40
 clear A40
 by_cases c5 : t369 = true
 rotate_left
 ·replace c5 := Bool.eq_false_iff.mpr c5
  subst c5
  have H1 : (some (false, false)) = some (r1, r2) := by rw [if_neg (show ¬ (false = true) by decide)] at H; exact H
  clear H
  have H := H1
  clear H1
  simp only [Option.some.injEq, Prod.mk.injEq] at H
  obtain ⟨rfl, rfl⟩ := H
  go_enter Try.func31, Try.ntmps31
  go_wp2_with (first | ((with_reducible refine gate_dst (N := 3) rfl ?_); refine bx 3 #[.slice A0_0 l0_0.length c0_0, .slice A0_1 l0_1.length c0_1] 29 ?_; intro gb367 hg w42 hbox hb; have BK367 := Aside0.mk (hbox); have GW367 := ge HB hg; have GE367 := ge HB hg; replace HB := bs HB hb; clear hb hbox hg) | ((with_reducible refine gate_dst (N := 4) rfl ?_); refine bx 4 #[.slice A1_0 l1_0.length c1_0, .slice A1_1 l1_1.length c1_1] 29 ?_; intro gb368 hg w43 hbox hb; have BK368 := Aside0.mk (hbox); have GW368 := ge HB hg; have GE368 := ge HB hg; replace HB := bs HB hb; have NB367_368 := nl BK367 hg; have NB368_367 := nr BK367 hg; replace BK367 := bb BK367 hb; clear hb hbox hg; have hnb44 := NB367_368.out; have hnc44 := NB368_367.out; have hcz45_0 := bc0 BK367; have hcz45_1 := bc1 BK367; have hfz45_0 := blk_frozen BK367.out 0; have hfz45_1 := blk_frozen BK367.out 1; have hcz46_0 := bc0 BK368; have hcz46_1 := bc1 BK368; have hfz46_0 := blk_frozen BK368.out 0; have hfz46_1 := blk_frozen BK368.out 1) | ((with_reducible refine gate_callee (f := 65) rfl ?_); refine gl 14 Try.func65 #[.agg #[.slice A0_0 l0_0.length c0_0, .slice A0_1 l0_1.length c0_1], .agg #[.slice A1_0 l1_0.length c1_0, .slice A1_1 l1_1.length c1_1]] ?_; (with_reducible refine (spec_plSizes.calls k _ _ l0_0 _ _ l0_1 _ _ l1_0 _ _ l1_1 false _ ?side1 ?side2 ?side3 ?side4 ?side5 ?side6 ?side7 ?side8 A4.out).mono ?_); (case side1 => exact ck HR0_0 HB); (case side2 => exact HC0_0.out); (case side3 => exact ck HR0_1 HB); (case side4 => exact HC0_1.out); (case side5 => exact ck HR1_0 HB); (case side6 => exact HC1_0.out); (case side7 => exact ck HR1_1 HB); (case side8 => exact HC1_1.out); rintro e w47 ⟨rfl, hb⟩; refine ⟨_, rfl, ?_⟩; replace BK367 := bb BK367 hb; replace BK368 := bb BK368 hb; replace HB := bs HB hb; (try clear hb)))
  go_ret2
  exact ⟨by first | rfl | (simp [errW_none, errW_some] <;> rfl) | (simp [*, errW_none, errW_some] <;> rfl), bw HB⟩
 subst c5
 have H1 : ((spec_plAll.f k l0_0 l0_1 a2).bind fun bt370 => (if bt370.2.2.2.2.2 = true then ((spec_plPlace.f k bt370.1 bt370.2.1 bt370.2.2.1 bt370.2.2.2.1 bt370.2.2.2.2.1 l1_0 l1_1).bind fun bt387 => (some (bt387.2, true))) else (some (false, false)))) = some (r1, r2) := by rw [if_pos rfl] at H; exact H
 clear H
 have H := H1
 clear H1
 replace H := Option.bind_eq_some_iff.mp H
 obtain ⟨⟨t370, t373, t376, t379, t382, t385⟩, A60, H⟩ := H
 replace H : (if t385 = true then ((spec_plPlace.f k t370 t373 t376 t379 t382 l1_0 l1_1).bind fun bt387 => (some (bt387.2, true))) else (some (false, false))) = some (r1, r2) := H
 have A6 := Aside0.mk A60
 clear A60
 by_cases c7 : t385 = true
 rotate_left
 ·replace c7 := Bool.eq_false_iff.mpr c7
  subst c7
  have H1 : (some (false, false)) = some (r1, r2) := by rw [if_neg (show ¬ (false = true) by decide)] at H; exact H
  clear H
  have H := H1
  clear H1
  simp only [Option.some.injEq, Prod.mk.injEq] at H
  obtain ⟨rfl, rfl⟩ := H
  go_enter Try.func31, Try.ntmps31
  go_wp2_with (first | ((with_reducible refine gate_dst (N := 3) rfl ?_); refine bx 3 #[.slice A0_0 l0_0.length c0_0, .slice A0_1 l0_1.length c0_1] 29 ?_; intro gb367 hg w28 hbox hb; have BK367 := Aside0.mk (hbox); have GW367 := ge HB hg; have GE367 := ge HB hg; replace HB := bs HB hb; clear hb hbox hg) | ((with_reducible refine gate_dst (N := 4) rfl ?_); refine bx 4 #[.slice A1_0 l1_0.length c1_0, .slice A1_1 l1_1.length c1_1] 29 ?_; intro gb368 hg w29 hbox hb; have BK368 := Aside0.mk (hbox); have GW368 := ge HB hg; have GE368 := ge HB hg; replace HB := bs HB hb; have NB367_368 := nl BK367 hg; have NB368_367 := nr BK367 hg; replace BK367 := bb BK367 hb; clear hb hbox hg; have hnb30 := NB367_368.out; have hnc30 := NB368_367.out; have hcz31_0 := bc0 BK367; have hcz31_1 := bc1 BK367; have hfz31_0 := blk_frozen BK367.out 0; have hfz31_1 := blk_frozen BK367.out 1; have hcz32_0 := bc0 BK368; have hcz32_1 := bc1 BK368; have hfz32_0 := blk_frozen BK368.out 0; have hfz32_1 := blk_frozen BK368.out 1) | ((with_reducible refine gate_callee (f := 65) rfl ?_); refine gl 14 Try.func65 #[.agg #[.slice A0_0 l0_0.length c0_0, .slice A0_1 l0_1.length c0_1], .agg #[.slice A1_0 l1_0.length c1_0, .slice A1_1 l1_1.length c1_1]] ?_; (with_reducible refine (spec_plSizes.calls k _ _ l0_0 _ _ l0_1 _ _ l1_0 _ _ l1_1 true _ ?side1 ?side2 ?side3 ?side4 ?side5 ?side6 ?side7 ?side8 A4.out).mono ?_); (case side1 => exact ck HR0_0 HB); (case side2 => exact HC0_0.out); (case side3 => exact ck HR0_1 HB); (case side4 => exact HC0_1.out); (case side5 => exact ck HR1_0 HB); (case side6 => exact HC1_0.out); (case side7 => exact ck HR1_1 HB); (case side8 => exact HC1_1.out); rintro e w33 ⟨rfl, hb⟩; refine ⟨_, rfl, ?_⟩; replace BK367 := bb BK367 hb; replace BK368 := bb BK368 hb; replace HB := bs HB hb; (try clear hb); have hcz34_0 := bc0 BK367; have hcz34_1 := bc1 BK367; have hfz34_0 := blk_frozen BK367.out 0; have hfz34_1 := blk_frozen BK367.out 1) | ((with_reducible refine gate_callee (f := 66) rfl ?_); refine gl 19 Try.func66 #[.agg #[.slice A0_0 l0_0.length c0_0, .slice A0_1 l0_1.length c0_1], .bool a2] ?_; (with_reducible refine (spec_plAll.callsP k (fun k_ => k_ < w.heap.size) _ _ l0_0 _ _ l0_1 a2 t370 t373 t376 t379 t382 false _ ?side1 ?side2 ?side3 A6.out).mono ?_); (case side1 => exact foot_and (Kd.F_below (Kd.C_F (Kd.heap_int .i64) HR0_0.out) (bw HB)) (Kd.F_below (Kd.C_F (Kd.heap_int .i64) HR0_1.out) (bw HB))); (case side2 => exact HC0_0.out); (case side3 => exact HC0_1.out); rintro e w35 ⟨p_, rfl, hq_, hb⟩; refine ⟨_, rfl, ?_⟩; replace BK367 := bb BK367 hb; replace BK368 := bb BK368 hb; replace HB := bs HB hb; (try clear hb); clear hq_))
  go_ret2
  exact ⟨by first | rfl | (simp [errW_none, errW_some] <;> rfl) | (simp [*, errW_none, errW_some] <;> rfl), bw HB⟩
 subst c7
 have H1 : ((spec_plPlace.f k t370 t373 t376 t379 t382 l1_0 l1_1).bind fun bt387 => (some (bt387.2, true))) = some (r1, r2) := by rw [if_pos rfl] at H; exact H
 clear H
 have H := H1
 clear H1
 replace H := Option.bind_eq_some_iff.mp H
 obtain ⟨⟨t387, t388⟩, A80, H⟩ := H
 replace H : (some (t388, true)) = some (r1, r2) := H
 have A8 := Aside0.mk A80
 clear A80
 simp only [Option.some.injEq, Prod.mk.injEq] at H
 obtain ⟨rfl, rfl⟩ := H
 go_enter Try.func31, Try.ntmps31
 go_wp2_with (first | ((with_reducible refine gate_dst (N := 3) rfl ?_); refine bx 3 #[.slice A0_0 l0_0.length c0_0, .slice A0_1 l0_1.length c0_1] 29 ?_; intro gb367 hg w9 hbox hb; have BK367 := Aside0.mk (hbox); have GW367 := ge HB hg; have GE367 := ge HB hg; replace HB := bs HB hb; clear hb hbox hg) | ((with_reducible refine gate_dst (N := 4) rfl ?_); refine bx 4 #[.slice A1_0 l1_0.length c1_0, .slice A1_1 l1_1.length c1_1] 29 ?_; intro gb368 hg w10 hbox hb; have BK368 := Aside0.mk (hbox); have GW368 := ge HB hg; have GE368 := ge HB hg; replace HB := bs HB hb; have NB367_368 := nl BK367 hg; have NB368_367 := nr BK367 hg; replace BK367 := bb BK367 hb; clear hb hbox hg; have hnb11 := NB367_368.out; have hnc11 := NB368_367.out; have hcz12_0 := bc0 BK367; have hcz12_1 := bc1 BK367; have hfz12_0 := blk_frozen BK367.out 0; have hfz12_1 := blk_frozen BK367.out 1; have hcz13_0 := bc0 BK368; have hcz13_1 := bc1 BK368; have hfz13_0 := blk_frozen BK368.out 0; have hfz13_1 := blk_frozen BK368.out 1) | ((with_reducible refine gate_callee (f := 65) rfl ?_); refine gl 14 Try.func65 #[.agg #[.slice A0_0 l0_0.length c0_0, .slice A0_1 l0_1.length c0_1], .agg #[.slice A1_0 l1_0.length c1_0, .slice A1_1 l1_1.length c1_1]] ?_; (with_reducible refine (spec_plSizes.calls k _ _ l0_0 _ _ l0_1 _ _ l1_0 _ _ l1_1 true _ ?side1 ?side2 ?side3 ?side4 ?side5 ?side6 ?side7 ?side8 A4.out).mono ?_); (case side1 => exact ck HR0_0 HB); (case side2 => exact HC0_0.out); (case side3 => exact ck HR0_1 HB); (case side4 => exact HC0_1.out); (case side5 => exact ck HR1_0 HB); (case side6 => exact HC1_0.out); (case side7 => exact ck HR1_1 HB); (case side8 => exact HC1_1.out); rintro e w14 ⟨rfl, hb⟩; refine ⟨_, rfl, ?_⟩; replace BK367 := bb BK367 hb; replace BK368 := bb BK368 hb; replace HB := bs HB hb; (try clear hb); have hcz15_0 := bc0 BK367; have hcz15_1 := bc1 BK367; have hfz15_0 := blk_frozen BK367.out 0; have hfz15_1 := blk_frozen BK367.out 1) | ((with_reducible refine gate_callee (f := 66) rfl ?_); refine gl 19 Try.func66 #[.agg #[.slice A0_0 l0_0.length c0_0, .slice A0_1 l0_1.length c0_1], .bool a2] ?_; (with_reducible refine (spec_plAll.callsP k (fun k_ => k_ < w.heap.size) _ _ l0_0 _ _ l0_1 a2 t370 t373 t376 t379 t382 true _ ?side1 ?side2 ?side3 A6.out).mono ?_); (case side1 => exact foot_and (Kd.F_below (Kd.C_F (Kd.heap_int .i64) HR0_0.out) (bw HB)) (Kd.F_below (Kd.C_F (Kd.heap_int .i64) HR0_1.out) (bw HB))); (case side2 => exact HC0_0.out); (case side3 => exact HC0_1.out); rintro e w16 ⟨p_, rfl, hq_, hb⟩; obtain ⟨gb386, v371, v374, v377, v380, v383, rfl, hge_, hbox_, ho0, ho1, ho2, ho3, ho4⟩ := hq_ rfl; refine ⟨_, rfl, ?_⟩; have HO372 := Aside0.mk (Kd.N_lower (Kd.N_mono (ok' := fun k_ => (some k_ ≠ (v374 : Value).ownBlock ∧ some k_ ≠ (v377 : Value).ownBlock ∧ some k_ ≠ (v380 : Value).ownBlock ∧ some k_ ≠ (v383 : Value).ownBlock ∧ k_ ≠ gb367 ∧ k_ ≠ gb368) ∧ k_ ≠ gb386) ho0 (fun k_ hk_ => ⟨⟨hk_.2.1, hk_.2.2.1, hk_.2.2.2.1, hk_.2.2.2.2.1, Or.elim hk_.1 (fun hs_ => fun e_ => Nat.not_le.2 hs_ (by rw [e_]; exact GW367.out)) (fun hn_ => (Kd.freshB (g := gb367) (o := .cells #[.slice A0_0 l0_0.length c0_0, .slice A0_1 l0_1.length c0_1] 29 (0, 0)) (bk BK367) k_ hn_)), Or.elim hk_.1 (fun hs_ => fun e_ => Nat.not_le.2 hs_ (by rw [e_]; exact GW368.out)) (fun hn_ => (Kd.freshB (g := gb368) (o := .cells #[.slice A1_0 l1_0.length c1_0, .slice A1_1 l1_1.length c1_1] 29 (0, 0)) (bk BK368) k_ hn_))⟩, hk_.2.2.2.2.2⟩)) (below_size (bw HB))); have HO375 := Aside0.mk (Kd.R_lower (Kd.R_mono (ok' := fun k_ => some k_ ≠ (v380 : Value).ownBlock ∧ some k_ ≠ (v383 : Value).ownBlock) ho1 (fun _ hk_ => hk_.2)) (below_size (bw HB))); have HO378 := Aside0.mk (Kd.R_lower (Kd.R_mono (ok' := fun k_ => True) ho2 (fun _ hk_ => trivial)) (below_size (bw HB))); have HO381 := Aside0.mk (Kd.R_lower (Kd.R_mono (ok' := fun k_ => some k_ ≠ (v374 : Value).ownBlock ∧ some k_ ≠ (v383 : Value).ownBlock) ho3 (fun _ hk_ => hk_.2)) (below_size (bw HB))); have HO384 := Aside0.mk (Kd.R_lower (Kd.R_mono (ok' := fun k_ => some k_ ≠ (v374 : Value).ownBlock ∧ some k_ ≠ (v380 : Value).ownBlock) ho4 (fun _ hk_ => hk_.2)) (below_size (bw HB))); have GW386 := ge' HB hge_; have GE386 := ge' HB hge_; have NB367_386 := nl' BK367 hge_; have NB386_367 := nr' BK367 hge_; have NB368_386 := nl' BK368 hge_; have NB386_368 := nr' BK368 hge_; replace BK367 := bb BK367 hb; replace BK368 := bb BK368 hb; replace HB := bs HB hb; (try clear hb); (try clear ho0); (try clear ho1); (try clear ho2); (try clear ho3); (try clear ho4); have BK386 := Aside0.mk hbox_; clear hbox_ hge_ hq_; obtain ⟨Ao17, co17, eo17⟩ := Kd.N_slice HO372.out; subst eo17; obtain ⟨Ao18, co18, eo18⟩ := Kd.R_slice HO375.out; subst eo18; obtain ⟨Ao19, co19, eo19⟩ := Kd.R_slice HO378.out; subst eo19; obtain ⟨Ao20, co20, eo20⟩ := Kd.R_slice HO381.out; subst eo20; obtain ⟨Ao21, co21, eo21⟩ := Kd.R_slice HO384.out; subst eo21; have hnb23 := NB386_367.out; have hnc23 := NB367_386.out; have hnb24 := NB386_368.out; have hnc24 := NB368_386.out; have hcz25_0 := bc0 BK386; have hcz25_1 := bc1 BK386; have hcz25_2 := bc2 BK386; have hcz25_3 := bc3 BK386; have hcz25_4 := bc4 BK386; have hfz25_0 := blk_frozen BK386.out 0; have hfz25_1 := blk_frozen BK386.out 1; have hfz25_2 := blk_frozen BK386.out 2; have hfz25_3 := blk_frozen BK386.out 3; have hfz25_4 := blk_frozen BK386.out 4; have hcz26_0 := bc0 BK368; have hcz26_1 := bc1 BK368; have hfz26_0 := blk_frozen BK368.out 0; have hfz26_1 := blk_frozen BK368.out 1) | ((with_reducible refine gate_callee (f := 67) rfl ?_); refine gl 27 Try.func67 #[.pointer (some ⟨gb386, 0, none⟩), .agg #[.slice A1_0 l1_0.length c1_0, .slice A1_1 l1_1.length c1_1]] ?_; (with_reducible refine (spec_plPlace.calls k Ao17 co17 t370 Ao18 co18 t373 Ao19 co19 t376 Ao20 co20 t379 Ao21 co21 t382 _ _ l1_0 _ _ l1_1 t387 t388 _ gb386 ?side0 ?side1 ?side2 ?side3 ?side4 ?side5 ?side6 ?side7 ?side8 ?side9 ?side10 ?side11 ?side12 ?side13 ?side14 A8.out).mono ?_); (case side0 => exact bk BK386); (case side1 => repeat (first | exact (Kd.N_reads' HO372.out).2.2 | (with_reducible refine Kd.C_alloc ?_ _) | (with_reducible refine Kd.C_drewN ?_ _) | (with_reducible refine Kd.C_drew ?_))); (case side2 => exact (Kd.N_reads' HO372.out).2.1); (case side3 => exact cr HO375); (case side4 => exact (Kd.R_reads' HO375.out).2.1); (case side5 => exact cr HO378); (case side6 => exact (Kd.R_reads' HO378.out).2.1); (case side7 => exact cr HO381); (case side8 => exact (Kd.R_reads' HO381.out).2.1); (case side9 => exact cr HO384); (case side10 => exact (Kd.R_reads' HO384.out).2.1); (case side11 => exact ck HR1_0 HB); (case side12 => exact HC1_0.out); (case side13 => exact ck HR1_1 HB); (case side14 => exact HC1_1.out); rintro e w27 ⟨rfl, hb⟩; refine ⟨_, rfl, ?_⟩; replace HO372 := Aside0.mk (Kd.N_below (by (with_reducible repeat (first | apply Kd.N_alloc | apply Kd.N_drewN | apply Kd.N_drew)); exact HO372.out) hb); replace HO375 := rb HO375 hb; replace HO378 := rb HO378 hb; replace HO381 := rb HO381 hb; replace HO384 := rb HO384 hb; replace BK367 := bb BK367 hb; replace BK368 := bb BK368 hb; replace BK386 := bb BK386 hb; replace HB := bs HB hb; (try clear hb)))
 go_ret2
 exact ⟨by first | rfl | (simp [errW_none, errW_some] <;> rfl) | (simp [*, errW_none, errW_some] <;> rfl), bw HB⟩
end Go.Proofs.Ytigpkicbigpilaa.V
