/- Functions of the specification over all that is reached: as plain functions, and that the calls come to them. -/
import Derived.Test.YtigpkicbigpilaaTaVplQ
import Derived.Test.YtigpkicbigpilaaTaVx4
namespace Go.Proofs.Ytigpkicbigpilaa.V
open Go.RowKit Go.Proofs.YtigpkicbigpilaaW.PrintWords Go.Proofs.YtigpkicbigpilaaW.PrintLast Go.Proofs.YtigpkicbigpilaaW.PrintMore Go.Proofs.Ytigpkicbigpilaa.Sq Go.Proofs.Ytigpkicbigpilaa.Sep
attribute [local go_sem] max2_int min2_int max_two min_two max_three min_three max_four min_four
set_option linter.unusedVariables false
set_option linter.unusedSimpArgs false
def spec_CountStates.f (k : Nat) (l0_0 : List Int) (l0_1 : List Int) (a1 : Bool) : Option (Int × Bool) := (spec_plAsked.f k l0_0 l0_1 a1).bind fun bt274 => (if bt274.2.2.2.2.2 = true then (some ((bt274.1.length : Int), true)) else (some (0, false)))
set_option maxHeartbeats 8000000 in
set_option maxRecDepth 100000 in
theorem spec_CountStates.calls (k : Nat) (A0_0 : Option Addr) (c0_0 : Nat) (l0_0 : List Int) (A0_1 : Option Addr) (c0_1 : Nat) (l0_1 : List Int) (a1 : Bool) (r1 : Int) (r2 : Bool) (w : World) (hr0_0 : Kd.C (Kd.int .i64) w A0_0 l0_0.length l0_0) (hc0_0 : l0_0.length ≤ c0_0) (hr0_1 : Kd.C (Kd.int .i64) w A0_1 l0_1.length l0_1) (hc0_1 : l0_1.length ≤ c0_1) (h : spec_CountStates.f k l0_0 l0_1 a1 = some (r1, r2)) :
  Calls Try.prog 29 #[.agg #[.slice A0_0 l0_0.length c0_0, .slice A0_1 l0_1.length c0_1], .bool a1] w fun e w' => e = .returned (.tuple #[.int .i64 r1, .bool r2]) ∧ Below w.heap.size w w' := by
 have hu29 := Try.underlying29
 have hu80 := Try.underlying80
 have HR0_0 := Aside0.mk hr0_0
 have HC0_0 := Aside0.mk hc0_0
 clear hr0_0 hc0_0
 have HR0_1 := Aside0.mk hr0_1
 have HC0_1 := Aside0.mk hc0_1
 clear hr0_1 hc0_1
 have HB := Aside0.mk (Below.refl w.heap.size w)
 have H : ((spec_plAsked.f k l0_0 l0_1 a1).bind fun bt274 => (if bt274.2.2.2.2.2 = true then (some ((bt274.1.length : Int), true)) else (some (0, false)))) = some (r1, r2) := h
 clear h
 replace H := Option.bind_eq_some_iff.mp H
 obtain ⟨⟨t274, t277, t280, t283, t286, t289⟩, A30, H⟩ := H
 replace H : (if t289 = true then (some ((t274.length : Int), true)) else (some (0, false))) = some (r1, r2) := H
 have A3 := Aside0.mk A30
 clear A30
 by_cases c4 : t289 = true
 ·subst c4
  have H1 : (some ((t274.length : Int), true)) = some (r1, r2) := by rw [if_pos rfl] at H; exact H
  clear H
  have H := H1
  clear H1
  simp only [Option.some.injEq, Prod.mk.injEq] at H
  obtain ⟨rfl, rfl⟩ := H
  go_enter Try.func29, Try.ntmps29
  go_wp2_with (first | ((with_reducible refine gate_dst (N := 2) rfl ?_); refine bx 2 #[.slice A0_0 l0_0.length c0_0, .slice A0_1 l0_1.length c0_1] 29 ?_; intro gb273 hg w5 hbox hb; have BK273 := Aside0.mk (hbox); have GW273 := ge HB hg; have GE273 := ge HB hg; replace HB := bs HB hb; clear hb hbox hg; have hcz6_0 := bc0 BK273; have hcz6_1 := bc1 BK273; have hfz6_0 := blk_frozen BK273.out 0; have hfz6_1 := blk_frozen BK273.out 1) | ((with_reducible refine gate_callee (f := 63) rfl ?_); refine gl 11 Try.func63 #[.agg #[.slice A0_0 l0_0.length c0_0, .slice A0_1 l0_1.length c0_1], .bool a1] ?_; (with_reducible refine (spec_plAsked.calls k (fun k_ => k_ < w.heap.size) _ _ l0_0 _ _ l0_1 a1 t274 t277 t280 t283 t286 true _ ?side1 ?side2 ?side3 A3.out).mono ?_); (case side1 => exact foot_and (Kd.F_below (Kd.C_F (Kd.heap_int .i64) HR0_0.out) (bw HB)) (Kd.F_below (Kd.C_F (Kd.heap_int .i64) HR0_1.out) (bw HB))); (case side2 => exact HC0_0.out); (case side3 => exact HC0_1.out); rintro e w13 ⟨p_, rfl, hq_, hb⟩; obtain ⟨gb290, v275, v278, v281, v284, v287, rfl, hge_, hbox_, ho0, ho1, ho2, ho3, ho4⟩ := hq_ rfl; refine ⟨_, rfl, ?_⟩; have HO276 := Aside0.mk (Kd.N_lower (Kd.N_mono (ok' := fun k_ => (some k_ ≠ (v278 : Value).ownBlock ∧ some k_ ≠ (v281 : Value).ownBlock ∧ some k_ ≠ (v284 : Value).ownBlock ∧ some k_ ≠ (v287 : Value).ownBlock ∧ k_ ≠ gb273) ∧ k_ ≠ gb290) ho0 (fun k_ hk_ => ⟨⟨hk_.2.1, hk_.2.2.1, hk_.2.2.2.1, hk_.2.2.2.2.1, Or.elim hk_.1 (fun hs_ => fun e_ => Nat.not_le.2 hs_ (by rw [e_]; exact GW273.out)) (fun hn_ => (Kd.freshB (g := gb273) (o := .cells #[.slice A0_0 l0_0.length c0_0, .slice A0_1 l0_1.length c0_1] 29 (0, 0)) (bk BK273) k_ hn_))⟩, hk_.2.2.2.2.2⟩)) (below_size (bw HB))); have HO279 := Aside0.mk (Kd.R_lower (Kd.R_mono (ok' := fun k_ => some k_ ≠ (v284 : Value).ownBlock ∧ some k_ ≠ (v287 : Value).ownBlock) ho1 (fun _ hk_ => hk_.2)) (below_size (bw HB))); have HO282 := Aside0.mk (Kd.R_lower (Kd.R_mono (ok' := fun k_ => True) ho2 (fun _ hk_ => trivial)) (below_size (bw HB))); have HO285 := Aside0.mk (Kd.R_lower (Kd.R_mono (ok' := fun k_ => some k_ ≠ (v278 : Value).ownBlock ∧ some k_ ≠ (v287 : Value).ownBlock) ho3 (fun _ hk_ => hk_.2)) (below_size (bw HB))); have HO288 := Aside0.mk (Kd.R_lower (Kd.R_mono (ok' := fun k_ => some k_ ≠ (v278 : Value).ownBlock ∧ some k_ ≠ (v284 : Value).ownBlock) ho4 (fun _ hk_ => hk_.2)) (below_size (bw HB))); have GW290 := ge' HB hge_; have GE290 := ge' HB hge_; have NB273_290 := nl' BK273 hge_; have NB290_273 := nr' BK273 hge_; replace BK273 := bb BK273 hb; replace HB := bs HB hb; (try clear hb); (try clear ho0); (try clear ho1); (try clear ho2); (try clear ho3); (try clear ho4); have BK290 := Aside0.mk hbox_; clear hbox_ hge_ hq_; obtain ⟨Ao8, co8, eo8⟩ := Kd.N_slice HO276.out; subst eo8; obtain ⟨Ao9, co9, eo9⟩ := Kd.R_slice HO279.out; subst eo9; obtain ⟨Ao10, co10, eo10⟩ := Kd.R_slice HO282.out; subst eo10; obtain ⟨Ao11, co11, eo11⟩ := Kd.R_slice HO285.out; subst eo11; obtain ⟨Ao12, co12, eo12⟩ := Kd.R_slice HO288.out; subst eo12; have hnb14 := NB290_273.out; have hnc14 := NB273_290.out; have hcz15_0 := bc0 BK290; have hcz15_1 := bc1 BK290; have hcz15_2 := bc2 BK290; have hcz15_3 := bc3 BK290; have hcz15_4 := bc4 BK290; have hfz15_0 := blk_frozen BK290.out 0; have hfz15_1 := blk_frozen BK290.out 1; have hfz15_2 := blk_frozen BK290.out 2; have hfz15_3 := blk_frozen BK290.out 3; have hfz15_4 := blk_frozen BK290.out 4))
  go_ret2
  exact ⟨by first | rfl | (simp [errW_none, errW_some] <;> rfl) | (simp [*, errW_none, errW_some] <;> rfl), bw HB⟩
 replace c4 := Bool.eq_false_iff.mpr c4
 subst c4
 have H1 : (some (0, false)) = some (r1, r2) := by rw [if_neg (show ¬ (false = true) by decide)] at H; exact H
 clear H
 have H := H1
 clear H1
 simp only [Option.some.injEq, Prod.mk.injEq] at H
 obtain ⟨rfl, rfl⟩ := H
 go_enter Try.func29, Try.ntmps29
 go_wp2_with (first | ((with_reducible refine gate_dst (N := 2) rfl ?_); refine bx 2 #[.slice A0_0 l0_0.length c0_0, .slice A0_1 l0_1.length c0_1] 29 ?_; intro gb273 hg w16 hbox hb; have BK273 := Aside0.mk (hbox); have GW273 := ge HB hg; have GE273 := ge HB hg; replace HB := bs HB hb; clear hb hbox hg; have hcz17_0 := bc0 BK273; have hcz17_1 := bc1 BK273; have hfz17_0 := blk_frozen BK273.out 0; have hfz17_1 := blk_frozen BK273.out 1) | ((with_reducible refine gate_callee (f := 63) rfl ?_); refine gl 11 Try.func63 #[.agg #[.slice A0_0 l0_0.length c0_0, .slice A0_1 l0_1.length c0_1], .bool a1] ?_; (with_reducible refine (spec_plAsked.calls k (fun k_ => k_ < w.heap.size) _ _ l0_0 _ _ l0_1 a1 t274 t277 t280 t283 t286 false _ ?side1 ?side2 ?side3 A3.out).mono ?_); (case side1 => exact foot_and (Kd.F_below (Kd.C_F (Kd.heap_int .i64) HR0_0.out) (bw HB)) (Kd.F_below (Kd.C_F (Kd.heap_int .i64) HR0_1.out) (bw HB))); (case side2 => exact HC0_0.out); (case side3 => exact HC0_1.out); rintro e w24 ⟨p_, rfl, hq_, hb⟩; refine ⟨_, rfl, ?_⟩; replace BK273 := bb BK273 hb; replace HB := bs HB hb; (try clear hb); clear hq_))
 go_ret2
 exact ⟨by first | rfl | (simp [errW_none, errW_some] <;> rfl) | (simp [*, errW_none, errW_some] <;> rfl), bw HB⟩
end Go.Proofs.Ytigpkicbigpilaa.V
