/- Functions of the program over all that is reached: as plain functions, and that the calls come to them. -/
import Derived.Test.YtigpkicbigpilaaTbViM
namespace Go.Proofs.Ytigpkicbigpilaa.V
open Go.RowKit Go.Proofs.YtigpkicbigpilaaW.PrintWords Go.Proofs.YtigpkicbigpilaaW.PrintLast Go.Proofs.YtigpkicbigpilaaW.PrintMore Go.Proofs.Ytigpkicbigpilaa.Sq Go.Proofs.Ytigpkicbigpilaa.Sep
attribute [local go_sem] max2_int min2_int max_two min_two max_three min_three max_four min_four
set_option linter.unusedVariables false
set_option linter.unusedSimpArgs false
def impl_LayersOf.l0 : Nat → List Int → List Int → Int → Int → Option (List Int × Bool)
 | 0, _, _, _, _ => none
 | k + 1, x8, x25, x26, x27 => if x27 < x26 then (if 0 ≤ x27 then (if x27 < (x25.length : Int) then (if 0 ≤ (rd x25 x27) then (if (rd x25 x27) < (x8.length : Int) then (impl_LayersOf.l0 k (x8.set ((rd x25 x27) : Int).toNat (wrap64 ((rd x8 (rd x25 x27)) + 1))) x25 x26 (wrap64 (x27 + 1))) else (none)) else (none)) else (none)) else (none)) else (some (x8, true))
def impl_LayersOf.f (k : Nat) (l0_0 : List Int) (l0_1 : List Int) (a1 : Bool) : Option (List Int × Bool) := (impl_reachOf.f k l0_0 l0_1 a1 3000).bind fun bt399 => (if bt399.2.2.2.2.2 = true then ((slices_Max_int_int.f k bt399.2.2.1).bind fun t414 => (if 0 ≤ (wrap64 (t414 + 1)) then (if (wrap64 (t414 + 1) : Int).toNat ≤ 35184372088832 then (impl_LayersOf.l0 k (List.replicate (wrap64 (t414 + 1) : Int).toNat 0) bt399.2.2.1 (bt399.2.2.1.length : Int) 0) else (none)) else (none))) else (some (([] : List Int), false)))
set_option maxHeartbeats 8000000 in
set_option maxRecDepth 100000 in
theorem impl_LayersOf.calls (k : Nat) (A0_0 : Option Addr) (c0_0 : Nat) (l0_0 : List Int) (A0_1 : Option Addr) (c0_1 : Nat) (l0_1 : List Int) (a1 : Bool) (r1 : List Int) (r2 : Bool) (w : World) (hr0_0 : Kd.C (Kd.int .i64) w A0_0 l0_0.length l0_0) (hc0_0 : l0_0.length ≤ c0_0) (hr0_1 : Kd.C (Kd.int .i64) w A0_1 l0_1.length l0_1) (hc0_1 : l0_1.length ≤ c0_1) (h : impl_LayersOf.f k l0_0 l0_1 a1 = some (r1, r2)) :
  Calls Try.prog 36 #[.agg #[.slice A0_0 l0_0.length c0_0, .slice A0_1 l0_1.length c0_1], .bool a1] w fun e w' => ∃ v0_ : Value, e = .returned (.tuple #[v0_, .bool r2]) ∧ Kd.R (Kd.int .i64) 3 w' w.heap.size (fun _ => True) v0_ r1 ∧ Below w.heap.size w w' := by
 have hu29 := Try.underlying29
 have hu83 := Try.underlying83
 have HR0_0 := Aside0.mk hr0_0
 have HC0_0 := Aside0.mk hc0_0
 clear hr0_0 hc0_0
 have HR0_1 := Aside0.mk hr0_1
 have HC0_1 := Aside0.mk hc0_1
 clear hr0_1 hc0_1
 have HB := Aside0.mk (Below.refl w.heap.size w)
 have H : ((impl_reachOf.f k l0_0 l0_1 a1 3000).bind fun bt399 => (if bt399.2.2.2.2.2 = true then ((slices_Max_int_int.f k bt399.2.2.1).bind fun t414 => (if 0 ≤ (wrap64 (t414 + 1)) then (if (wrap64 (t414 + 1) : Int).toNat ≤ 35184372088832 then (impl_LayersOf.l0 k (List.replicate (wrap64 (t414 + 1) : Int).toNat 0) bt399.2.2.1 (bt399.2.2.1.length : Int) 0) else (none)) else (none))) else (some (([] : List Int), false)))) = some (r1, r2) := h
 clear h
 replace H := Option.bind_eq_some_iff.mp H
 obtain ⟨⟨t399, t402, t403, t406, t409, t412⟩, A30, H⟩ := H
 replace H : (if t412 = true then ((slices_Max_int_int.f k t403).bind fun t414 => (if 0 ≤ (wrap64 (t414 + 1)) then (if (wrap64 (t414 + 1) : Int).toNat ≤ 35184372088832 then (impl_LayersOf.l0 k (List.replicate (wrap64 (t414 + 1) : Int).toNat 0) t403 (t403.length : Int) 0) else (none)) else (none))) else (some (([] : List Int), false))) = some (r1, r2) := H
 have A3 := Aside0.mk A30
 clear A30
 by_cases c4 : t412 = true
 rotate_left
 ·replace c4 := Bool.eq_false_iff.mpr c4
  subst c4
  have H1 : (some (([] : List Int), false)) = some (r1, r2) := by rw [if_neg (show ¬ (false = true) by decide)] at H; exact H
  clear H
  have H := H1
  clear H1
  simp only [Option.some.injEq, Prod.mk.injEq] at H
  obtain ⟨rfl, rfl⟩ := H
  go_enter Try.func36, Try.ntmps36
  go_wp2_with (first | ((with_reducible refine gate_dst (N := 2) rfl ?_); refine bx 2 #[.slice A0_0 l0_0.length c0_0, .slice A0_1 l0_1.length c0_1] 29 ?_; intro gb398 hg w32 hbox hb; have BK398 := Aside0.mk (hbox); have GW398 := ge HB hg; have GE398 := ge HB hg; replace HB := bs HB hb; clear hb hbox hg; have hcz33_0 := bc0 BK398; have hcz33_1 := bc1 BK398; have hfz33_0 := blk_frozen BK398.out 0; have hfz33_1 := blk_frozen BK398.out 1) | ((with_reducible refine gate_callee (f := 64) rfl ?_); refine gl 14 Try.func64 #[.agg #[.slice A0_0 l0_0.length c0_0, .slice A0_1 l0_1.length c0_1], .bool a1, .int .i64 3000] ?_; (with_reducible refine (impl_reachOf.callsP k (fun k_ => k_ < w.heap.size) _ _ l0_0 _ _ l0_1 a1 3000 t399 t402 t403 t406 t409 false _ ?side1 ?side2 ?side3 A3.out).mono ?_); (case side1 => exact foot_and (Kd.F_below (Kd.C_F (Kd.heap_int .i64) HR0_0.out) (bw HB)) (Kd.F_below (Kd.C_F (Kd.heap_int .i64) HR0_1.out) (bw HB))); (case side2 => exact HC0_0.out); (case side3 => exact HC0_1.out); rintro e w34 ⟨mb_, O_, v400, mv_, v404, v407, v410, rfl, hmp_, ho0, ho1, ho2, ho3, hb⟩; clear hmp_; refine ⟨_, rfl, ?_⟩; have HO401 := Aside0.mk (Kd.N_lower (Kd.N_mono (ok' := fun k_ => some k_ ≠ (v404 : Value).ownBlock ∧ some k_ ≠ (v407 : Value).ownBlock ∧ some k_ ≠ (v410 : Value).ownBlock ∧ k_ ≠ gb398) ho0 (fun k_ hk_ => ⟨hk_.2.1, hk_.2.2.1, hk_.2.2.2.1, Or.elim hk_.1 (fun hs_ => fun e_ => Nat.not_le.2 hs_ (by rw [e_]; exact GW398.out)) (fun hn_ => (Kd.freshB (g := gb398) (o := .cells #[.slice A0_0 l0_0.length c0_0, .slice A0_1 l0_1.length c0_1] 29 (0, 0)) (bk BK398) k_ hn_))⟩)) (below_size (bw HB))); have HO405 := Aside0.mk (Kd.R_lower (Kd.R_mono (ok' := fun k_ => some k_ ≠ (v407 : Value).ownBlock) ho1 (fun _ hk_ => hk_.2)) (below_size (bw HB))); have HO408 := Aside0.mk (Kd.R_lower (Kd.R_mono (ok' := fun k_ => some k_ ≠ (v404 : Value).ownBlock) ho2 (fun _ hk_ => hk_.2)) (below_size (bw HB))); have HO411 := Aside0.mk (Kd.R_lower (Kd.R_mono (ok' := fun k_ => True) ho3 (fun _ hk_ => trivial)) (below_size (bw HB))); replace BK398 := bb BK398 hb; replace HB := bs HB hb; (try clear hb); (try clear ho0); (try clear ho1); (try clear ho2); (try clear ho3)) | ((with_reducible refine gate_dst (N := 6) rfl ?_); refine bx 6 #[.slice none 0 0, .map none, .slice none 0 0, .slice none 0 0, .slice none 0 0] 83 ?_; intro gb413 hg w35 hbox hb; replace HO401 := Aside0.mk (Kd.N_below (Kd.N_elderB (by (with_reducible repeat (first | apply Kd.N_alloc | apply Kd.N_drewN | apply Kd.N_drew)); exact HO401.out) gb413 (Nat.le_of_eq hg.symm)) hb); replace HO405 := rb HO405 hb; replace HO408 := rb HO408 hb; replace HO411 := rb HO411 hb; have BK413 := Aside0.mk (hbox); have GW413 := ge HB hg; have GE413 := ge HB hg; replace HB := bs HB hb; have NB398_413 := nl BK398 hg; have NB413_398 := nr BK398 hg; replace BK398 := bb BK398 hb; clear hb hbox hg; obtain ⟨Ao36, co36, eo36⟩ := Kd.N_slice HO401.out; subst eo36; have hnb37 := NB413_398.out; have hnc37 := NB398_413.out; have hcz38_0 := bc0 BK413; have hcz38_1 := bc1 BK413; have hcz38_2 := bc2 BK413; have hcz38_3 := bc3 BK413; have hcz38_4 := bc4 BK413; have hfz38_0 := blk_frozen BK413.out 0; have hfz38_1 := blk_frozen BK413.out 1; have hfz38_2 := blk_frozen BK413.out 2; have hfz38_3 := blk_frozen BK413.out 3; have hfz38_4 := blk_frozen BK413.out 4; obtain ⟨Ao39, co39, eo39⟩ := Kd.R_slice HO405.out; subst eo39; obtain ⟨Ao40, co40, eo40⟩ := Kd.R_slice HO408.out; subst eo40; obtain ⟨Ao41, co41, eo41⟩ := Kd.R_slice HO411.out; subst eo41))
  go_ret2
  exact ⟨_, by first | rfl | (simp [errW_none, errW_some] <;> rfl) | (simp [*, errW_none, errW_some] <;> rfl), by first | exact Kd.R_nil _ _ _ _ _ | exact Kd.N_nil _ _ _ _ _ | exact Kd.V_nil _ _ _ _ _ | exact Kd.Q_nil _ _ _ _ _ | exact Kd.S_nil _ _ _ _ _, bw HB⟩
 subst c4
 have H1 : ((slices_Max_int_int.f k t403).bind fun t414 => (if 0 ≤ (wrap64 (t414 + 1)) then (if (wrap64 (t414 + 1) : Int).toNat ≤ 35184372088832 then (impl_LayersOf.l0 k (List.replicate (wrap64 (t414 + 1) : Int).toNat 0) t403 (t403.length : Int) 0) else (none)) else (none))) = some (r1, r2) := by rw [if_pos rfl] at H; exact H
 clear H
 have H := H1
 clear H1
 replace H := Option.bind_eq_some_iff.mp H
 obtain ⟨t414, A50, H⟩ := H
 replace H : (if 0 ≤ (wrap64 (t414 + 1)) then (if (wrap64 (t414 + 1) : Int).toNat ≤ 35184372088832 then (impl_LayersOf.l0 k (List.replicate (wrap64 (t414 + 1) : Int).toNat 0) t403 (t403.length : Int) 0) else (none)) else (none)) = some (r1, r2) := H
 have A5 := Aside0.mk A50
 clear A50
 obtain ⟨ji6, hji6⟩ : ∃ j_ : Int, (wrap64 (t414 + 1)) = j_ := ⟨_, rfl⟩
 replace H : (if 0 ≤ (ji6) then (if (ji6 : Int).toNat ≤ 35184372088832 then (impl_LayersOf.l0 k (List.replicate (ji6 : Int).toNat 0) t403 (t403.length : Int) 0) else (none)) else (none)) = some (r1, r2) := by first | (rw [hji6] at H; exact H) | (simp only [hji6] at H ⊢; exact H)
 (try rw [hji6] at A3)
 (try rw [hji6] at A5)
 have hji6w : (IntKind.i64.wrap (t414 + 1)) = ji6 := (i64_w _).trans hji6
 by_cases c7 : 0 ≤ (ji6)
 rotate_left
 ·rw [if_neg c7] at H
  exact absurd H (by simp)
 rw [if_pos c7] at H
 have c7b0 := eq_true c7
 have c7b1 : decide (0 ≤ (ji6)) = true := decide_eq_true c7
 clear c7
 by_cases c8 : (ji6 : Int).toNat ≤ 35184372088832
 rotate_left
 ·rw [if_neg c8] at H
  exact absurd H (by simp)
 rw [if_pos c8] at H
 have c8b0 := eq_true c8
 have c8b1 : decide ((ji6 : Int).toNat ≤ 35184372088832) = true := decide_eq_true c8
 clear c8
 obtain ⟨y415, hy415⟩ : ∃ y_ : List Int, y_ = (List.replicate (ji6 : Int).toNat 0) := ⟨_, rfl⟩
 replace H : (impl_LayersOf.l0 k y415 t403 (t403.length : Int) 0) = some (r1, r2) := by first | (rw [hy415]; with_reducible exact H) | (have H2_ := (Option.bind_some _ _).symm.trans H; rw [hy415]; with_reducible exact H2_) | (have H2_ := (Option.bind_some _ _).symm.trans H; with_reducible exact H2_) | with_reducible exact H | (rw [hy415]; exact H) | exact H
 have Ny415 := Aside0.mk hy415
 clear hy415
 have H' := Aside0.mk H
 clear H
 go_enter Try.func36, Try.ntmps36
 go_wp2_with (first | ((with_reducible refine gate_dst (N := 2) rfl ?_); refine bx 2 #[.slice A0_0 l0_0.length c0_0, .slice A0_1 l0_1.length c0_1] 29 ?_; intro gb398 hg w9 hbox hb; have BK398 := Aside0.mk (hbox); have GW398 := ge HB hg; have GE398 := ge HB hg; replace HB := bs HB hb; clear hb hbox hg; have hcz10_0 := bc0 BK398; have hcz10_1 := bc1 BK398; have hfz10_0 := blk_frozen BK398.out 0; have hfz10_1 := blk_frozen BK398.out 1) | ((with_reducible refine gate_callee (f := 64) rfl ?_); refine gl 14 Try.func64 #[.agg #[.slice A0_0 l0_0.length c0_0, .slice A0_1 l0_1.length c0_1], .bool a1, .int .i64 3000] ?_; (with_reducible refine (impl_reachOf.callsP k (fun k_ => k_ < w.heap.size) _ _ l0_0 _ _ l0_1 a1 3000 t399 t402 t403 t406 t409 true _ ?side1 ?side2 ?side3 A3.out).mono ?_); (case side1 => exact foot_and (Kd.F_below (Kd.C_F (Kd.heap_int .i64) HR0_0.out) (bw HB)) (Kd.F_below (Kd.C_F (Kd.heap_int .i64) HR0_1.out) (bw HB))); (case side2 => exact HC0_0.out); (case side3 => exact HC0_1.out); rintro e w11 ⟨mb_, O_, v400, mv_, v404, v407, v410, rfl, hmp_, ho0, ho1, ho2, ho3, hb⟩; clear hmp_; refine ⟨_, rfl, ?_⟩; have HO401 := Aside0.mk (Kd.N_lower (Kd.N_mono (ok' := fun k_ => some k_ ≠ (v404 : Value).ownBlock ∧ some k_ ≠ (v407 : Value).ownBlock ∧ some k_ ≠ (v410 : Value).ownBlock ∧ k_ ≠ gb398) ho0 (fun k_ hk_ => ⟨hk_.2.1, hk_.2.2.1, hk_.2.2.2.1, Or.elim hk_.1 (fun hs_ => fun e_ => Nat.not_le.2 hs_ (by rw [e_]; exact GW398.out)) (fun hn_ => (Kd.freshB (g := gb398) (o := .cells #[.slice A0_0 l0_0.length c0_0, .slice A0_1 l0_1.length c0_1] 29 (0, 0)) (bk BK398) k_ hn_))⟩)) (below_size (bw HB))); have HO405 := Aside0.mk (Kd.R_lower (Kd.R_mono (ok' := fun k_ => some k_ ≠ (v407 : Value).ownBlock) ho1 (fun _ hk_ => hk_.2)) (below_size (bw HB))); have HO408 := Aside0.mk (Kd.R_lower (Kd.R_mono (ok' := fun k_ => some k_ ≠ (v404 : Value).ownBlock) ho2 (fun _ hk_ => hk_.2)) (below_size (bw HB))); have HO411 := Aside0.mk (Kd.R_lower (Kd.R_mono (ok' := fun k_ => True) ho3 (fun _ hk_ => trivial)) (below_size (bw HB))); replace BK398 := bb BK398 hb; replace HB := bs HB hb; (try clear hb); (try clear ho0); (try clear ho1); (try clear ho2); (try clear ho3)) | ((with_reducible refine gate_dst (N := 6) rfl ?_); refine bx 6 #[.slice none 0 0, .map none, .slice none 0 0, .slice none 0 0, .slice none 0 0] 83 ?_; intro gb413 hg w12 hbox hb; replace HO401 := Aside0.mk (Kd.N_below (Kd.N_elderB (by (with_reducible repeat (first | apply Kd.N_alloc | apply Kd.N_drewN | apply Kd.N_drew)); exact HO401.out) gb413 (Nat.le_of_eq hg.symm)) hb); replace HO405 := rb HO405 hb; replace HO408 := rb HO408 hb; replace HO411 := rb HO411 hb; have BK413 := Aside0.mk (hbox); have GW413 := ge HB hg; have GE413 := ge HB hg; replace HB := bs HB hb; have NB398_413 := nl BK398 hg; have NB413_398 := nr BK398 hg; replace BK398 := bb BK398 hb; clear hb hbox hg; obtain ⟨Ao13, co13, eo13⟩ := Kd.N_slice HO401.out; subst eo13; have hnb14 := NB413_398.out; have hnc14 := NB398_413.out; have hcz15_0 := bc0 BK413; have hcz15_1 := bc1 BK413; have hcz15_2 := bc2 BK413; have hcz15_3 := bc3 BK413; have hcz15_4 := bc4 BK413; have hfz15_0 := blk_frozen BK413.out 0; have hfz15_1 := blk_frozen BK413.out 1; have hfz15_2 := blk_frozen BK413.out 2; have hfz15_3 := blk_frozen BK413.out 3; have hfz15_4 := blk_frozen BK413.out 4; obtain ⟨Ao16, co16, eo16⟩ := Kd.R_slice HO405.out; subst eo16; obtain ⟨Ao17, co17, eo17⟩ := Kd.R_slice HO408.out; subst eo17; obtain ⟨Ao18, co18, eo18⟩ := Kd.R_slice HO411.out; subst eo18) | ((with_reducible refine gate_callee (f := 70) rfl ?_); refine gl 21 Try.func70 #[.slice Ao16 t403.length co16] ?_; (with_reducible refine (slices_Max_int_int.calls k _ _ t403 t414 _ ?side1 ?side2 A5.out).mono ?_); (case side1 => refine (Kd.R_reads' (e := 3) (base := w.heap.size) (ok := fun k_ => some k_ ≠ (.slice Ao17 t406.length co17 : Value).ownBlock) (n := t403.length) (c := co16) ?_).2.2; exact (by (with_reducible repeat (first | apply Kd.R_alloc | apply Kd.R_drewN | apply Kd.R_drew)); exact (Kd.R_mono (Kd.R_far (p := ⟨gb413, 4, none⟩) (Kd.R_far (p := ⟨gb413, 3, none⟩) (Kd.R_far (p := ⟨gb413, 2, none⟩) (Kd.R_far (p := ⟨gb413, 1, none⟩) (Kd.R_far (p := ⟨gb413, 0, none⟩) (Kd.R_types HO405.out BK413.out (by decide)) (fun _ hk => hk.2) (.slice Ao13 t399.length co13)) (fun _ hk => hk.2) (.map mv_)) (fun _ hk => hk.2) (.slice Ao16 t403.length co16)) (fun _ hk => hk.2) (.slice Ao17 t406.length co17)) (fun _ hk => hk.2) (.slice Ao18 t409.length co18)) (fun _ h_ => h_.1)))); (case side2 => exact (Kd.R_reads' HO405.out).2.1); rintro e w19 ⟨rfl, hb⟩; refine ⟨_, rfl, ?_⟩; replace HO401 := Aside0.mk (Kd.N_below (by (with_reducible repeat (first | apply Kd.N_alloc | apply Kd.N_drewN | apply Kd.N_drew)); exact (Kd.N_mono (Kd.N_far (p := ⟨gb413, 4, none⟩) (Kd.N_far (p := ⟨gb413, 3, none⟩) (Kd.N_far (p := ⟨gb413, 2, none⟩) (Kd.N_far (p := ⟨gb413, 1, none⟩) (Kd.N_far (p := ⟨gb413, 0, none⟩) (Kd.N_mono HO401.out (fun k_ hk => (⟨hk, hk.2⟩ : _ ∧ k_ ≠ gb413))) (fun _ hk => hk.2) (.slice Ao13 t399.length co13)) (fun _ hk => hk.2) (.map mv_)) (fun _ hk => hk.2) (.slice Ao16 t403.length co16)) (fun _ hk => hk.2) (.slice Ao17 t406.length co17)) (fun _ hk => hk.2) (.slice Ao18 t409.length co18)) (fun _ h_ => h_.1))) hb); replace HO405 := Aside0.mk (Kd.R_below (by (with_reducible repeat (first | apply Kd.R_alloc | apply Kd.R_drewN | apply Kd.R_drew)); exact (Kd.R_mono (Kd.R_far (p := ⟨gb413, 4, none⟩) (Kd.R_far (p := ⟨gb413, 3, none⟩) (Kd.R_far (p := ⟨gb413, 2, none⟩) (Kd.R_far (p := ⟨gb413, 1, none⟩) (Kd.R_far (p := ⟨gb413, 0, none⟩) (Kd.R_types HO405.out BK413.out (by decide)) (fun _ hk => hk.2) (.slice Ao13 t399.length co13)) (fun _ hk => hk.2) (.map mv_)) (fun _ hk => hk.2) (.slice Ao16 t403.length co16)) (fun _ hk => hk.2) (.slice Ao17 t406.length co17)) (fun _ hk => hk.2) (.slice Ao18 t409.length co18)) (fun _ h_ => h_.1))) hb); replace HO408 := Aside0.mk (Kd.R_below (by (with_reducible repeat (first | apply Kd.R_alloc | apply Kd.R_drewN | apply Kd.R_drew)); exact (Kd.R_mono (Kd.R_far (p := ⟨gb413, 4, none⟩) (Kd.R_far (p := ⟨gb413, 3, none⟩) (Kd.R_far (p := ⟨gb413, 2, none⟩) (Kd.R_far (p := ⟨gb413, 1, none⟩) (Kd.R_far (p := ⟨gb413, 0, none⟩) (Kd.R_types HO408.out BK413.out (by decide)) (fun _ hk => hk.2) (.slice Ao13 t399.length co13)) (fun _ hk => hk.2) (.map mv_)) (fun _ hk => hk.2) (.slice Ao16 t403.length co16)) (fun _ hk => hk.2) (.slice Ao17 t406.length co17)) (fun _ hk => hk.2) (.slice Ao18 t409.length co18)) (fun _ h_ => h_.1))) hb); replace HO411 := Aside0.mk (Kd.R_below (by (with_reducible repeat (first | apply Kd.R_alloc | apply Kd.R_drewN | apply Kd.R_drew)); exact (Kd.R_mono (Kd.R_far (p := ⟨gb413, 4, none⟩) (Kd.R_far (p := ⟨gb413, 3, none⟩) (Kd.R_far (p := ⟨gb413, 2, none⟩) (Kd.R_far (p := ⟨gb413, 1, none⟩) (Kd.R_far (p := ⟨gb413, 0, none⟩) (Kd.R_types HO411.out BK413.out (by decide)) (fun _ hk => hk.2) (.slice Ao13 t399.length co13)) (fun _ hk => hk.2) (.map mv_)) (fun _ hk => hk.2) (.slice Ao16 t403.length co16)) (fun _ hk => hk.2) (.slice Ao17 t406.length co17)) (fun _ hk => hk.2) (.slice Ao18 t409.length co18)) (fun _ h_ => h_.1))) hb); replace BK398 := bb BK398 hb; replace BK413 := Aside0.mk (blk_below (g := gb413) (o := .cells #[.slice Ao13 t399.length co13, .map mv_, .slice Ao16 t403.length co16, .slice Ao17 t406.length co17, .slice Ao18 t409.length co18] 83 (0, 0)) (by (with_reducible repeat (first | refine blk_drewN ?_ _ | refine blk_drew ?_ | refine blk_alloc ?_ _)); refine blk_put (cs := #[.slice Ao13 t399.length co13, .map mv_, .slice Ao16 t403.length co16, .slice Ao17 t406.length co17, .slice none 0 0]) ?_ 4 _ rfl; (with_reducible repeat (first | refine blk_drewN ?_ _ | refine blk_drew ?_ | refine blk_alloc ?_ _)); refine blk_put (cs := #[.slice Ao13 t399.length co13, .map mv_, .slice Ao16 t403.length co16, .slice none 0 0, .slice none 0 0]) ?_ 3 _ rfl; (with_reducible repeat (first | refine blk_drewN ?_ _ | refine blk_drew ?_ | refine blk_alloc ?_ _)); refine blk_put (cs := #[.slice Ao13 t399.length co13, .map mv_, .slice none 0 0, .slice none 0 0, .slice none 0 0]) ?_ 2 _ rfl; (with_reducible repeat (first | refine blk_drewN ?_ _ | refine blk_drew ?_ | refine blk_alloc ?_ _)); refine blk_put (cs := #[.slice Ao13 t399.length co13, .map none, .slice none 0 0, .slice none 0 0, .slice none 0 0]) ?_ 1 _ rfl; (with_reducible repeat (first | refine blk_drewN ?_ _ | refine blk_drew ?_ | refine blk_alloc ?_ _)); refine blk_put (cs := #[.slice none 0 0, .map none, .slice none 0 0, .slice none 0 0, .slice none 0 0]) ?_ 0 _ rfl; exact bk BK413) hb); replace HB := bs HB hb; (try clear hb)) | ((with_reducible refine gate_dst (N := 23) rfl ?_); refine Kd.R_make (Kd.int .i64) _ 3 rfl (N := 23) rfl 22 _ _ rfl ji6 rfl rfl Try.underlying22 (.int .i64 0) 8 info3 rfl (by decide) (by omega) 0 (ok := fun _ => True) (okp := fun _ => True) rfl (fun _ hk => hk) trivial (of_decide_eq_true (by first | (with_reducible assumption) | assumption)) (Nat.le_trans (Nat.mul_le_mul_right _ (of_decide_eq_true (by first | (with_reducible assumption) | assumption) : ji6.toNat ≤ 35184372088832)) (by omega)) (Below.refl _ _) (Nat.le_refl _) ?_; intro v416 w20 ho21 hb hg_ hnew_; clear hg_ hnew_; (first | rw [← Ny415.out] at ho21 | (simp only [Int.reduceToNat] at ho21; rw [← Ny415.out] at ho21)); replace HO401 := Aside0.mk (Kd.N_elder' (by (with_reducible repeat (first | apply Kd.N_alloc | apply Kd.N_drewN | apply Kd.N_drew)); exact HO401.out) (Kd.R_base ho21) hb); replace HO411 := rb HO411 hb; have HO417 := Aside0.mk (Kd.R_lower (Kd.R_new' (Kd.R_new' ho21 (Kd.R_lt (rk HO405))) (Kd.R_lt (rk HO408))) (below_size (bw HB))); replace HO405 := Aside0.mk (Kd.R_elder' (rk HO405) (Kd.R_base ho21) hb); replace HO408 := Aside0.mk (Kd.R_elder' (rk HO408) (Kd.R_base ho21) hb); replace BK398 := bb BK398 hb; replace BK413 := bb BK413 hb; replace HB := bs HB hb; clear hb ho21; have hcz22_0 := bc0 BK413; have hcz22_1 := bc1 BK413; have hcz22_2 := bc2 BK413; have hcz22_3 := bc3 BK413; have hcz22_4 := bc4 BK413; have hfz22_0 := blk_frozen BK413.out 0; have hfz22_1 := blk_frozen BK413.out 1; have hfz22_2 := blk_frozen BK413.out 2; have hfz22_3 := blk_frozen BK413.out 3; have hfz22_4 := blk_frozen BK413.out 4))
 try simp only [Act.put, List.setIfInBounds_toArray, List.set_cons_zero, List.set_cons_succ]
 go_loopg [27] k (fun kq v27 w' => ∃ (x8_1 : List Int) (x27_1 : Int), v27 = .int .i64 x27_1 ∧ Aside0 (impl_LayersOf.l0 kq x8_1 t403 (t403.length : Int) x27_1 = some (r1, r2)) ∧ Aside0 (kq ≤ k) ∧ Aside0 (Kd.R (Kd.int .i64) 3 w' w.heap.size (fun k_ => some k_ ≠ ((.slice Ao16 t403.length co16) : Value).ownBlock ∧ some k_ ≠ ((.slice Ao16 t403.length co16) : Value).ownBlock ∧ some k_ ≠ ((.slice Ao17 t406.length co17) : Value).ownBlock) v416 x8_1) ∧ Aside0 (Kd.R (Kd.int .i64) 3 w' w.heap.size (fun k_ => some k_ ≠ (v416 : Value).ownBlock ∧ some k_ ≠ ((.slice Ao17 t406.length co17) : Value).ownBlock) (.slice Ao16 t403.length co16) t403) ∧ Aside0 (Kd.N k29 29 w' w.heap.size (fun k_ => some k_ ≠ (v416 : Value).ownBlock ∧ some k_ ≠ ((.slice Ao16 t403.length co16) : Value).ownBlock ∧ some k_ ≠ ((.slice Ao16 t403.length co16) : Value).ownBlock ∧ some k_ ≠ ((.slice Ao17 t406.length co17) : Value).ownBlock ∧ some k_ ≠ ((.slice Ao18 t409.length co18) : Value).ownBlock ∧ k_ ≠ gb398 ∧ k_ ≠ gb413) (.slice Ao13 t399.length co13) t399) ∧ Aside0 (Kd.R (Kd.int .i64) 3 w' w.heap.size (fun k_ => some k_ ≠ (v416 : Value).ownBlock ∧ some k_ ≠ ((.slice Ao17 t406.length co17) : Value).ownBlock) (.slice Ao16 t403.length co16) t403) ∧ Aside0 (Kd.R (Kd.int .i64) 3 w' w.heap.size (fun k_ => some k_ ≠ (v416 : Value).ownBlock ∧ some k_ ≠ ((.slice Ao16 t403.length co16) : Value).ownBlock ∧ some k_ ≠ ((.slice Ao16 t403.length co16) : Value).ownBlock) (.slice Ao17 t406.length co17) t406) ∧ Aside0 (Kd.R k49 49 w' w.heap.size (fun _ => True) (.slice Ao18 t409.length co18) t409) ∧ Aside0 (w'.heap[gb398]? = some (.cells #[(.slice A0_0 l0_0.length c0_0), (.slice A0_1 l0_1.length c0_1)] 29 (0, 0))) ∧ Aside0 (w'.heap[gb413]? = some (.cells #[(.slice Ao13 t399.length co13), .map mv_, (.slice Ao16 t403.length co16), (.slice Ao17 t406.length co17), (.slice Ao18 t409.length co18)] 83 (0, 0))) ∧ Aside0 (Below w.heap.size w w'))
 case atStart => exact ⟨(y415), (0), (by first | rfl | (simp; done) | (simp [*]; done)), H', ⟨Nat.le_refl _⟩, ⟨by (with_reducible repeat (first | apply Kd.R_alloc | apply Kd.R_drewN | apply Kd.R_drew)); exact Kd.R_mono HO417.out (fun _ hk => ⟨hk.1.2, ⟨hk.1.2, hk.2⟩⟩)⟩, ⟨by (with_reducible repeat (first | apply Kd.R_alloc | apply Kd.R_drewN | apply Kd.R_drew)); exact Kd.R_mono HO405.out (fun _ hk => ⟨hk.2, hk.1⟩)⟩, ⟨by (with_reducible repeat (first | apply Kd.N_alloc | apply Kd.N_drewN | apply Kd.N_drew)); exact Kd.N_mono HO401.out (fun _ hk => ⟨hk.2, ⟨hk.1.1.1, ⟨hk.1.1.1, ⟨hk.1.1.2.1, ⟨hk.1.1.2.2.1, ⟨hk.1.1.2.2.2, hk.1.2⟩⟩⟩⟩⟩⟩)⟩, ⟨by (with_reducible repeat (first | apply Kd.R_alloc | apply Kd.R_drewN | apply Kd.R_drew)); exact Kd.R_mono HO405.out (fun _ hk => ⟨hk.2, hk.1⟩)⟩, ⟨by (with_reducible repeat (first | apply Kd.R_alloc | apply Kd.R_drewN | apply Kd.R_drew)); exact Kd.R_mono HO408.out (fun _ hk => ⟨hk.2, ⟨hk.1, hk.1⟩⟩)⟩, ⟨rk HO411⟩, ⟨bk BK398⟩, ⟨bk BK413⟩, ⟨bw HB⟩⟩
 case round =>
  clear H'
  try clear c1
  try clear p2
  try clear c3
  try clear c4
  try clear c6
  try clear p6
  try clear c7
  try clear c7b0
  try clear c7b1
  try clear c8
  try clear c8b0
  try clear c8b1
  try clear c14
  try clear hcz10_0
  try clear hcz10_1
  try clear hcz15_0
  try clear hcz15_1
  try clear hcz15_2
  try clear hcz15_3
  try clear hcz15_4
  try clear hcz22_0
  try clear hcz22_1
  try clear hcz22_2
  try clear hcz22_3
  try clear hcz22_4
  try clear hfz10_0
  try clear hfz10_1
  try clear hfz15_0
  try clear hfz15_1
  try clear hfz15_2
  try clear hfz15_3
  try clear hfz15_4
  try clear hfz22_0
  try clear hfz22_1
  try clear hfz22_2
  try clear hfz22_3
  try clear hfz22_4
  obtain ⟨x8_1, x27_1, rfl, HA, HK1, HO_8, HO_25, HO_414000, HO_414002, HO_414003, HO_414004, BK398, BK413, HB⟩ := hrel
  cases gk with
  | zero => exact absurd HA.out (by simp [impl_LayersOf.l0])
  | succ k1 =>
   have H := HA.out
   clear HA
   simp only [impl_LayersOf.l0] at H
   by_cases c23 : x27_1 < (t403.length : Int)
   rotate_left
   ·rw [if_neg c23] at H
    have c23b0 : decide (x27_1 < (t403.length : Int)) = false := decide_eq_false c23
    clear c23
    simp only [Option.some.injEq, Prod.mk.injEq] at H
    obtain ⟨rfl, rfl⟩ := H
    go_wp2
    go_ret2
    exact ⟨_, by first | rfl | (simp [errW_none, errW_some] <;> rfl) | (simp only [← hji6]; first | rfl | (simp [errW_none, errW_some] <;> rfl)) | (simp [*, errW_none, errW_some] <;> rfl), by (with_reducible repeat (first | apply Kd.R_alloc | apply Kd.R_drewN | apply Kd.R_drew)); exact Kd.R_mono HO_8.out (fun _ hk => trivial), bw HB⟩
   rw [if_pos c23] at H
   have c23b0 : decide (x27_1 < (t403.length : Int)) = true := decide_eq_true c23
   clear c23
   by_cases c24 : 0 ≤ x27_1
   rotate_left
   ·rw [if_neg c24] at H
    exact absurd H (by simp)
   rw [if_pos c24] at H
   have c24b0 : decide (0 ≤ x27_1) = true := decide_eq_true c24
   clear c24
   by_cases c25 : x27_1 < (t403.length : Int)
   rotate_left
   ·rw [if_neg c25] at H
    exact absurd H (by simp)
   rw [if_pos c25] at H
   have c25b0 : decide (x27_1 < (t403.length : Int)) = true := decide_eq_true c25
   clear c25
   by_cases c26 : 0 ≤ (rd t403 x27_1)
   rotate_left
   ·rw [if_neg c26] at H
    exact absurd H (by simp)
   rw [if_pos c26] at H
   have c26b0 : decide (0 ≤ (rd t403 x27_1)) = true := decide_eq_true c26
   clear c26
   by_cases c27 : (rd t403 x27_1) < (x8_1.length : Int)
   rotate_left
   ·rw [if_neg c27] at H
    exact absurd H (by simp)
   rw [if_pos c27] at H
   have c27b0 : decide ((rd t403 x27_1) < (x8_1.length : Int)) = true := decide_eq_true c27
   clear c27
   obtain ⟨y420, hy420⟩ : ∃ y_ : List Int, y_ = (x8_1.set ((rd t403 x27_1) : Int).toNat (wrap64 ((rd x8_1 (rd t403 x27_1)) + 1))) := ⟨_, rfl⟩
   replace H : (impl_LayersOf.l0 k1 y420 t403 (t403.length : Int) (wrap64 (x27_1 + 1))) = some (r1, r2) := by first | (rw [hy420]; with_reducible exact H) | (have H2_ := (Option.bind_some _ _).symm.trans H; rw [hy420]; with_reducible exact H2_) | (have H2_ := (Option.bind_some _ _).symm.trans H; with_reducible exact H2_) | with_reducible exact H | (rw [hy420]; exact H) | exact H
   have Ny420 := Aside0.mk hy420
   clear hy420
   have H' := Aside0.mk H
   clear H
   have p418 : 0 ≤ (x27_1 : Int) := of_decide_eq_true (by first | (with_reducible assumption) | assumption)
   have q418 : x27_1 < (t403.length : Int) := of_decide_eq_true (by first | (with_reducible assumption) | assumption)
   obtain ⟨ad418, e418, hx418_0⟩ := Kd.at_int (Kd.R_reads' HO_25.out).2.2 x27_1 p418 q418
   cases e418
   replace p418 := eq_true p418
   replace q418 := eq_true q418
   obtain ⟨Ao29, co29, eo29⟩ := Kd.R_slice HO_8.out
   subst eo29
   have p419 : 0 ≤ ((rd t403 x27_1) : Int) := of_decide_eq_true (by first | (with_reducible assumption) | assumption)
   have q419 : (rd t403 x27_1) < (x8_1.length : Int) := of_decide_eq_true (by first | (with_reducible assumption) | assumption)
   obtain ⟨ad419, e419, hx419_0⟩ := Kd.at_int (Kd.R_reads' HO_8.out).2.2 (rd t403 x27_1) p419 q419
   cases e419
   replace p419 := eq_true p419
   replace q419 := eq_true q419
   have p28 : 0 ≤ ((rd t403 x27_1) : Int) := of_decide_eq_true (by first | (with_reducible assumption) | assumption)
   have q28 : ((rd t403 x27_1) : Int) < ((x8_1.length : Int) : Int) := of_decide_eq_true (by first | (with_reducible assumption) | assumption)
   obtain ⟨go28, co28, eo28, gb28, gl28, cl28, HG28⟩ := Kd.R_form HO_8.out (by omega)
   (first | cases eo28 | (injection eo28 with ea_ en_ ec_; (first | subst ea_ | (injection ea_ with ea_; subst ea_)); subst ec_; clear en_))
   have GB28 := Aside0.mk gb28
   have GG28 := Aside0.mk HG28
   clear gb28 gl28 HG28
   (first | simp only [add_plain] at hx419_0 | skip)
   obtain ⟨hx28_0, hf28_0⟩ := Kd.R_celln 0 HO_8.out ((rd t403 x27_1) : Int) p28 q28
   replace p28 := eq_true p28
   replace q28 := eq_true q28
   have HP30 := Kd.R_putg HO_8.out ((rd t403 x27_1) : Int) (wrap64 ((rd x8_1 (rd t403 x27_1)) + 1))
   go_wp2_with (first | ((with_reducible refine gate_store (t := 3) (p := 36) rfl ?_); refine store_event (t := 3) (p := 36) (v := ?vo_w31) (w1 := (wr.setCell ⟨go28, ((rd t403 x27_1) : Int).toNat, none⟩ (.int .i64 (wrap64 ((rd x8_1 (rd t403 x27_1)) + 1))))) ?hg ?ho ?hn ?hr ?_; (case ho => rfl); (case hg => rfl); (case hn => rfl); (case hr => first | (go_simp; done) | (go_simp; rfl)); intro w31 hw; have hg : wr.grownBy w31 (some go28) := (by rw [hw]; exact HP30.2); have hp_ : Kd.R (Kd.int .i64) 3 w31 w.heap.size (fun k_ => some k_ ≠ (.slice (some ad418) t403.length co16 : Value).ownBlock ∧ some k_ ≠ (.slice (some ad418) t403.length co16 : Value).ownBlock ∧ some k_ ≠ (.slice Ao17 t406.length co17 : Value).ownBlock) (.slice (some ⟨go28, 0, none⟩) x8_1.length co29) y420 := (by rw [hw, Ny420.out]; exact HP30.1); clear HP30; replace HO_25 := Aside0.mk (Kd.R_after (v := (.slice (some ⟨go28, 0, none⟩) x8_1.length co29)) (v1 := (.slice (some ⟨go28, 0, none⟩) x8_1.length co29)) (ok := (fun k_ => some k_ ≠ (.slice Ao17 t406.length co17 : Value).ownBlock)) (by (with_reducible repeat (first | apply Kd.R_alloc | apply Kd.R_drewN | apply Kd.R_drew)); exact Kd.R_mono HO_25.out (fun _ hk => ⟨hk.2, hk.1⟩)) hg (.inl rfl)); replace HO_414000 := Aside0.mk (Kd.N_afterv (v := (.slice (some ⟨go28, 0, none⟩) x8_1.length co29)) (v1 := (.slice (some ⟨go28, 0, none⟩) x8_1.length co29)) (ok := (fun k_ => some k_ ≠ (.slice (some ad418) t403.length co16 : Value).ownBlock ∧ some k_ ≠ (.slice (some ad418) t403.length co16 : Value).ownBlock ∧ some k_ ≠ (.slice Ao17 t406.length co17 : Value).ownBlock ∧ some k_ ≠ (.slice Ao18 t409.length co18 : Value).ownBlock ∧ k_ ≠ gb398 ∧ k_ ≠ gb413)) (by (with_reducible repeat (first | apply Kd.N_alloc | apply Kd.N_drewN | apply Kd.N_drew)); exact Kd.N_mono HO_414000.out (fun _ hk => ⟨⟨hk.2.1, ⟨hk.2.2.1, ⟨hk.2.2.2.1, ⟨hk.2.2.2.2.1, ⟨hk.2.2.2.2.2.1, hk.2.2.2.2.2.2⟩⟩⟩⟩⟩, hk.1⟩)) hg (.inl rfl)); replace HO_414002 := Aside0.mk (Kd.R_after (v := (.slice (some ⟨go28, 0, none⟩) x8_1.length co29)) (v1 := (.slice (some ⟨go28, 0, none⟩) x8_1.length co29)) (ok := (fun k_ => some k_ ≠ (.slice Ao17 t406.length co17 : Value).ownBlock)) (by (with_reducible repeat (first | apply Kd.R_alloc | apply Kd.R_drewN | apply Kd.R_drew)); exact Kd.R_mono HO_414002.out (fun _ hk => ⟨hk.2, hk.1⟩)) hg (.inl rfl)); replace HO_414003 := Aside0.mk (Kd.R_after (v := (.slice (some ⟨go28, 0, none⟩) x8_1.length co29)) (v1 := (.slice (some ⟨go28, 0, none⟩) x8_1.length co29)) (ok := (fun k_ => some k_ ≠ (.slice (some ad418) t403.length co16 : Value).ownBlock ∧ some k_ ≠ (.slice (some ad418) t403.length co16 : Value).ownBlock)) (by (with_reducible repeat (first | apply Kd.R_alloc | apply Kd.R_drewN | apply Kd.R_drew)); exact Kd.R_mono HO_414003.out (fun _ hk => ⟨⟨hk.2.1, hk.2.2⟩, hk.1⟩)) hg (.inl rfl)); replace HO_414004 := Aside0.mk (Kd.R_over' (v := (.slice (some ⟨go28, 0, none⟩) x8_1.length co29)) (rk HO_414004) (Kd.R_typed HO_8.out) (by decide) hg); replace BK398 := Aside0.mk (blk_grown (g := gb398) (o := .cells #[.slice A0_0 l0_0.length c0_0, .slice A0_1 l0_1.length c0_1] 29 (0, 0)) (bk BK398) hg (Kd.R_ne HO_8.out BK398.out (by decide))); replace BK413 := Aside0.mk (blk_grown (g := gb413) (o := .cells #[.slice Ao13 t399.length co13, .map mv_, .slice (some ad418) t403.length co16, .slice Ao17 t406.length co17, .slice Ao18 t409.length co18] 83 (0, 0)) (bk BK413) hg (Kd.R_ne HO_8.out BK413.out (by decide))); replace HO_8 := Aside0.mk (hp_); replace HB := Aside0.mk ((by rw [hw]; exact below_set (HB.out) GB28.out : Below w.heap.size w w31)); clear hg hw hp_))
   go_roundg k1
   case measure => have := HK1.out; omega
   case rel => exact ⟨(y420), (wrap64 (x27_1 + 1)), (by first | rfl | (simp; done) | (simp [*]; done)), H', ⟨by have := HK1.out; omega⟩, ⟨rk HO_8⟩, ⟨by (with_reducible repeat (first | apply Kd.R_alloc | apply Kd.R_drewN | apply Kd.R_drew)); exact Kd.R_mono HO_25.out (fun _ hk => ⟨hk.2, hk.1⟩)⟩, ⟨by (with_reducible repeat (first | apply Kd.N_alloc | apply Kd.N_drewN | apply Kd.N_drew)); exact Kd.N_mono HO_414000.out (fun _ hk => ⟨hk.2, ⟨hk.1.1, ⟨hk.1.2.1, ⟨hk.1.2.2.1, ⟨hk.1.2.2.2.1, ⟨hk.1.2.2.2.2.1, hk.1.2.2.2.2.2⟩⟩⟩⟩⟩⟩)⟩, ⟨by (with_reducible repeat (first | apply Kd.R_alloc | apply Kd.R_drewN | apply Kd.R_drew)); exact Kd.R_mono HO_414002.out (fun _ hk => ⟨hk.2, hk.1⟩)⟩, ⟨by (with_reducible repeat (first | apply Kd.R_alloc | apply Kd.R_drewN | apply Kd.R_drew)); exact Kd.R_mono HO_414003.out (fun _ hk => ⟨hk.2, ⟨hk.1.1, hk.1.2⟩⟩)⟩, ⟨rk HO_414004⟩, ⟨bk BK398⟩, ⟨bk BK413⟩, ⟨bw HB⟩⟩
end Go.Proofs.Ytigpkicbigpilaa.V
