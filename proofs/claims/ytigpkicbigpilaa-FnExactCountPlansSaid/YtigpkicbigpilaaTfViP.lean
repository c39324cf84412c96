/- Functions of the program over all that is reached: as plain functions, and that the calls come to them. -/
import Derived.Test.YtigpkicbigpilaaTfVreF
import Derived.Test.YtigpkicbigpilaaTfVx4
namespace Go.Proofs.Ytigpkicbigpilaa.V
open Go.RowKit Go.Proofs.YtigpkicbigpilaaW.PrintWords Go.Proofs.YtigpkicbigpilaaW.PrintLast Go.Proofs.YtigpkicbigpilaaW.PrintMore Go.Proofs.Ytigpkicbigpilaa.Sq Go.Proofs.Ytigpkicbigpilaa.Sep
attribute [local go_sem] max2_int min2_int max_two min_two max_three min_three max_four min_four
set_option linter.unusedVariables false
set_option linter.unusedSimpArgs false
theorem N_swap {α : Type} {d : Kd α} {e base a b : Nat} {w : World} {ok : Nat → Prop} {v : Value} {xs : List α} (h : Kd.N d e w base (fun k => (ok k ∧ k ≠ a) ∧ k ≠ b) v xs) : Kd.N d e w base (fun k => (ok k ∧ k ≠ b) ∧ k ≠ a) v xs := Kd.N_mono h (fun k hk => ⟨⟨hk.1.1, hk.2⟩, hk.1.2⟩)
theorem blk_farO {w : World} {g : Nat} {o : Obj} (h : w.heap[g]? = some o) {p : Addr} (hp : g ≠ p.block) (u : Value) : (w.setCell p u).heap[g]? = some o := (Below.heap_setCell w p u g hp).trans h
mutual
def impl_CountPlans.l0 : Nat → Bool → Int → List Int → List (S29) → Int → Int → List (S29) → List (Gv.K5 × Int) → List Int → List Int → List (S49) → Option (Int × Bool)
 | 0, _, _, _, _, _, _, _, _, _, _, _ => none
 | k + 1, x2, x9, x11, x34, x35, x36, x425000, x425001, x425002, x425003, x425004 => if x36 < x35 then (if 0 ≤ x36 then (if x36 < (x34.length : Int) then ((impl_Vessels_moves.f k ((rd_T29 x34 x36).f0) ((rd_T29 x34 x36).f1) x2).bind fun t433 => (impl_CountPlans.l1 k x2 x9 x11 x36 x34 x35 x36 t433 (t433.length : Int) 0 x425000 x425001 x425002 x425003 x425004 ((rd_T29 x34 x36).f0) ((rd_T29 x34 x36).f1))) else (none)) else (none)) else (if 0 ≤ x9 then (if x9 < (x11.length : Int) then (some (rd x11 x9, true)) else (none)) else (none))
def impl_CountPlans.l1 : Nat → Bool → Int → List Int → Int → List (S29) → Int → Int → List (S49) → Int → Int → List (S29) → List (Gv.K5 × Int) → List Int → List Int → List (S49) → List Int → List Int → Option (Int × Bool)
 | 0, _, _, _, _, _, _, _, _, _, _, _, _, _, _, _, _, _ => none
 | k + 1, x2, x9, x11, x12, x34, x35, x36, x43, x44, x45, x425000, x425001, x425002, x425003, x425004, x433000, x433001 => if x45 < x44 then (if 0 ≤ x45 then (if x45 < (x43.length : Int) then ((impl_Vessels_behind.f x433000 x433001 ((rd_T49 x43 x45).f0) ((rd_T49 x43 x45).f1)).bind fun bt438 => ((impl_keyOf.f bt438.1 bt438.2).bind fun bt444 => ((impl_lookup1.f x425001 bt444.1 bt444.2.1 bt444.2.2.1 bt444.2.2.2.1 bt444.2.2.2.2).bind fun t449 => (if 0 ≤ t449 then (if t449 < (x425002.length : Int) then (if 0 ≤ x12 then (if x12 < (x425002.length : Int) then (if (rd x425002 t449) = (wrap64 ((rd x425002 x12) + 1)) then (if t449 < (x11.length : Int) then (if x12 < (x11.length : Int) then (impl_CountPlans.l1 k x2 x9 (x11.set (t449 : Int).toNat (wrap64 ((rd x11 t449) + (rd x11 x12)))) x12 x34 x35 x36 x43 x44 (wrap64 (x45 + 1)) x425000 x425001 x425002 x425003 x425004 x433000 x433001) else (none)) else (none)) else (impl_CountPlans.l1 k x2 x9 x11 x12 x34 x35 x36 x43 x44 (wrap64 (x45 + 1)) x425000 x425001 x425002 x425003 x425004 x433000 x433001)) else (none)) else (none)) else (none)) else (none))))) else (none)) else (none)) else (impl_CountPlans.l0 k x2 x9 x11 x34 x35 (wrap64 (x36 + 1)) x425000 x425001 x425002 x425003 x425004)
end
def impl_CountPlans.f (k : Nat) (l0_0 : List Int) (l0_1 : List Int) (l1_0 : List Int) (l1_1 : List Int) (a2 : Bool) : Option (Int × Bool) := (impl_find.f k l0_0 l0_1 l1_0 l1_1 a2).bind fun bt409 => (if bt409.2.2.2.2.2.1 < 0 then (some (0, false)) else (if 0 ≤ (bt409.1.length : Int) then (if ((bt409.1.length : Int) : Int).toNat ≤ 35184372088832 then ((some (List.replicate ((bt409.1.length : Int) : Int).toNat 0 : List Int)).bind fun y426 => (if 0 < (y426.length : Int) then (impl_CountPlans.l0 k a2 bt409.2.2.2.2.2.1 (y426.set (0 : Int).toNat 1) bt409.1 (bt409.1.length : Int) 0 bt409.1 bt409.2.1 bt409.2.2.1 bt409.2.2.2.1 bt409.2.2.2.2.1) else (none))) else (none)) else (none)))
def impl_CountPlans.T12 : Bool × List (List Nat × List Nat) := (true, [([], []), ([0], [0]), ([], []), ([], []), ([2, 3], [2, 3]), ([4, 4], [4]), ([1, 5], [1, 5]), ([6, 5, 0, 1, 2, 3, 4, 5, 6], [6])])
def impl_CountPlans.B12 : List Nat := [0, 1, 0, 0, 12, 28, 63, 127]
theorem impl_CountPlans.tab12 : rtab .any (opsOf Try.f41 12) = impl_CountPlans.T12 := by kernel_rfl
theorem impl_CountPlans.bits12 : waitsOk impl_CountPlans.T12.2 impl_CountPlans.B12 = true := by kernel_rfl
def impl_CountPlans.T13 : Bool × List (List Nat × List Nat) := (true, [([], []), ([0], [0]), ([], []), ([1, 2], [1, 2]), ([3], [3]), ([], []), ([5], [5]), ([], []), ([6, 7], [6, 7]), ([8], [8]), ([9], [9]), ([4, 10], [4, 10])])
def impl_CountPlans.B13 : List Nat := [0, 1, 0, 7, 15, 0, 32, 0, 224, 480, 992, 2047]
theorem impl_CountPlans.tab13 : rtab .any (opsOf Try.f41 13) = impl_CountPlans.T13 := by kernel_rfl
theorem impl_CountPlans.bits13 : waitsOk impl_CountPlans.T13.2 impl_CountPlans.B13 = true := by kernel_rfl
def impl_CountPlans.T14 : Bool × List (List Nat × List Nat) := (true, [([], []), ([], []), ([0, 1], [0, 1]), ([2], [2]), ([], []), ([], []), ([4, 5], [4, 5]), ([6], [6]), ([3, 7], [3, 7]), ([0, 1, 0, 1, 2, 3, 4, 5, 6, 7, 8], [0, 1]), ([9, 8, 0, 1, 2, 3, 4, 5, 6, 7, 8], [8, 9])])
def impl_CountPlans.B14 : List Nat := [0, 0, 3, 7, 0, 0, 48, 112, 255, 511, 1023]
theorem impl_CountPlans.tab14 : rtab .any (opsOf Try.f41 14) = impl_CountPlans.T14 := by kernel_rfl
theorem impl_CountPlans.bits14 : waitsOk impl_CountPlans.T14.2 impl_CountPlans.B14 = true := by kernel_rfl
set_option maxHeartbeats 8000000 in
set_option maxRecDepth 100000 in
theorem impl_CountPlans.calls (k : Nat) (A0_0 : Option Addr) (c0_0 : Nat) (l0_0 : List Int) (A0_1 : Option Addr) (c0_1 : Nat) (l0_1 : List Int) (A1_0 : Option Addr) (c1_0 : Nat) (l1_0 : List Int) (A1_1 : Option Addr) (c1_1 : Nat) (l1_1 : List Int) (a2 : Bool) (r1 : Int) (r2 : Bool) (w : World) (hr0_0 : Kd.C (Kd.int .i64) w A0_0 l0_0.length l0_0) (hc0_0 : l0_0.length ≤ c0_0) (hr0_1 : Kd.C (Kd.int .i64) w A0_1 l0_1.length l0_1) (hc0_1 : l0_1.length ≤ c0_1) (hr1_0 : Kd.C (Kd.int .i64) w A1_0 l1_0.length l1_0) (hc1_0 : l1_0.length ≤ c1_0) (hr1_1 : Kd.C (Kd.int .i64) w A1_1 l1_1.length l1_1) (hc1_1 : l1_1.length ≤ c1_1) (h : impl_CountPlans.f k l0_0 l0_1 l1_0 l1_1 a2 = some (r1, r2)) :
  Calls Try.prog 41 #[.agg #[.slice A0_0 l0_0.length c0_0, .slice A0_1 l0_1.length c0_1], .agg #[.slice A1_0 l1_0.length c1_0, .slice A1_1 l1_1.length c1_1], .bool a2] w fun e w' => e = .returned (.tuple #[.int .i64 r1, .bool r2]) ∧ Below w.heap.size w w' := by
 have hu29 := Try.underlying29
 have hu83 := Try.underlying83
 have hu92 := Try.underlying92
 have hu49 := Try.underlying49
 have HR0_0 := Aside0.mk hr0_0
 have HC0_0 := Aside0.mk hc0_0
 clear hr0_0 hc0_0
 have HR0_1 := Aside0.mk hr0_1
 have HC0_1 := Aside0.mk hc0_1
 clear hr0_1 hc0_1
 have HR1_0 := Aside0.mk hr1_0
 have HC1_0 := Aside0.mk hc1_0
 clear hr1_0 hc1_0
 have HR1_1 := Aside0.mk hr1_1
 have HC1_1 := Aside0.mk hc1_1
 clear hr1_1 hc1_1
 have HB := Aside0.mk (Below.refl w.heap.size w)
 have H : ((impl_find.f k l0_0 l0_1 l1_0 l1_1 a2).bind fun bt409 => (if bt409.2.2.2.2.2.1 < 0 then (some (0, false)) else (if 0 ≤ (bt409.1.length : Int) then (if ((bt409.1.length : Int) : Int).toNat ≤ 35184372088832 then ((some (List.replicate ((bt409.1.length : Int) : Int).toNat 0 : List Int)).bind fun y426 => (if 0 < (y426.length : Int) then (impl_CountPlans.l0 k a2 bt409.2.2.2.2.2.1 (y426.set (0 : Int).toNat 1) bt409.1 (bt409.1.length : Int) 0 bt409.1 bt409.2.1 bt409.2.2.1 bt409.2.2.2.1 bt409.2.2.2.2.1) else (none))) else (none)) else (none)))) = some (r1, r2) := h
 clear h
 replace H := Option.bind_eq_some_iff.mp H
 obtain ⟨⟨t409, t412, t413, t416, t419, t422, t423⟩, A40, H⟩ := H
 (try dsimp only at H)
 have A4 := Aside0.mk A40
 clear A40
 by_cases c5 : t422 < 0
 ·rw [if_pos c5] at H
  have c5b0 : decide (t422 < 0) = true := decide_eq_true c5
  clear c5
  simp only [Option.some.injEq, Prod.mk.injEq] at H
  obtain ⟨rfl, rfl⟩ := H
  go_enter Try.func41, Try.ntmps41
  go_wp2_with (first | ((with_reducible refine gate_dst (N := 3) rfl ?_); refine bx 3 #[.slice A0_0 l0_0.length c0_0, .slice A0_1 l0_1.length c0_1] 29 ?_; intro gb407 hg w6 hbox hb; have BK407 := Aside0.mk (hbox); have GW407 := ge HB hg; have GE407 := ge HB hg; replace HB := bs HB hb; clear hb hbox hg) | ((with_reducible refine gate_dst (N := 4) rfl ?_); refine bx 4 #[.slice A1_0 l1_0.length c1_0, .slice A1_1 l1_1.length c1_1] 29 ?_; intro gb408 hg w7 hbox hb; have BK408 := Aside0.mk (hbox); have GW408 := ge HB hg; have GE408 := ge HB hg; replace HB := bs HB hb; have NB407_408 := nl BK407 hg; have NB408_407 := nr BK407 hg; replace BK407 := bb BK407 hb; clear hb hbox hg; have hnb8 := NB407_408.out; have hnc8 := NB408_407.out; have hcz9_0 := bc0 BK407; have hcz9_1 := bc1 BK407; have hfz9_0 := blk_frozen BK407.out 0; have hfz9_1 := blk_frozen BK407.out 1; have hcz10_0 := bc0 BK408; have hcz10_1 := bc1 BK408; have hfz10_0 := blk_frozen BK408.out 0; have hfz10_1 := blk_frozen BK408.out 1) | ((with_reducible refine gate_callee (f := 68) rfl ?_); refine gl 21 Try.func68 #[.agg #[.slice A0_0 l0_0.length c0_0, .slice A0_1 l0_1.length c0_1], .agg #[.slice A1_0 l1_0.length c1_0, .slice A1_1 l1_1.length c1_1], .bool a2] ?_; (with_reducible refine (impl_find.calls k (fun k_ => k_ < w.heap.size) _ _ l0_0 _ _ l0_1 _ _ l1_0 _ _ l1_1 a2 t409 t412 t413 t416 t419 t422 t423 _ ?side1 ?side2 ?side3 ?side4 ?side5 A4.out).mono ?_); (case side1 => exact foot_and (foot_and (Kd.F_below (Kd.C_F (Kd.heap_int .i64) HR0_0.out) (bw HB)) (Kd.F_below (Kd.C_F (Kd.heap_int .i64) HR0_1.out) (bw HB))) (foot_and (Kd.F_below (Kd.C_F (Kd.heap_int .i64) HR1_0.out) (bw HB)) (Kd.F_below (Kd.C_F (Kd.heap_int .i64) HR1_1.out) (bw HB)))); (case side2 => exact HC0_0.out); (case side3 => exact HC0_1.out); (case side4 => exact HC1_0.out); (case side5 => exact HC1_1.out); rintro e w11 ⟨mb_, O_, v410, mv_, v414, v417, v420, rfl, hfi_⟩; obtain ⟨hmp_, ho0, ho1, ho2, ho3, hb⟩ := hfi_; clear hmp_; refine ⟨_, rfl, ?_⟩; have HO411 := Aside0.mk (Kd.N_lower (Kd.N_mono (ok' := fun k_ => some k_ ≠ (v414 : Value).ownBlock ∧ some k_ ≠ (v417 : Value).ownBlock ∧ some k_ ≠ (v420 : Value).ownBlock ∧ k_ ≠ gb407 ∧ k_ ≠ gb408) ho0 (fun k_ hk_ => ⟨hk_.2.1, hk_.2.2.1, hk_.2.2.2.1, Or.elim hk_.1 (fun hs_ => fun e_ => Nat.not_le.2 hs_ (by rw [e_]; exact GW407.out)) (fun hn_ => (Kd.freshB (g := gb407) (o := .cells #[.slice A0_0 l0_0.length c0_0, .slice A0_1 l0_1.length c0_1] 29 (0, 0)) (bk BK407) k_ hn_)), Or.elim hk_.1 (fun hs_ => fun e_ => Nat.not_le.2 hs_ (by rw [e_]; exact GW408.out)) (fun hn_ => (Kd.freshB (g := gb408) (o := .cells #[.slice A1_0 l1_0.length c1_0, .slice A1_1 l1_1.length c1_1] 29 (0, 0)) (bk BK408) k_ hn_))⟩)) (below_size (bw HB))); have HO415 := Aside0.mk (Kd.R_lower (Kd.R_mono (ok' := fun k_ => some k_ ≠ (v417 : Value).ownBlock) ho1 (fun _ hk_ => hk_.2)) (below_size (bw HB))); have HO418 := Aside0.mk (Kd.R_lower (Kd.R_mono (ok' := fun k_ => some k_ ≠ (v414 : Value).ownBlock) ho2 (fun _ hk_ => hk_.2)) (below_size (bw HB))); have HO421 := Aside0.mk (Kd.R_lower (Kd.R_mono (ok' := fun k_ => True) ho3 (fun _ hk_ => trivial)) (below_size (bw HB))); replace BK407 := bb BK407 hb; replace BK408 := bb BK408 hb; replace HB := bs HB hb; (try clear hb); (try clear ho0); (try clear ho1); (try clear ho2); (try clear ho3)) | ((with_reducible refine gate_dst (N := 8) rfl ?_); refine bx 8 #[.slice none 0 0, .map none, .slice none 0 0, .slice none 0 0, .slice none 0 0] 83 ?_; intro gb424 hg w12 hbox hb; replace HO411 := Aside0.mk (Kd.N_below (Kd.N_elderB HO411.out gb424 (Nat.le_of_eq hg.symm)) hb); replace HO415 := rb HO415 hb; replace HO418 := rb HO418 hb; replace HO421 := rb HO421 hb; have BK424 := Aside0.mk (hbox); have GW424 := ge HB hg; have GE424 := ge HB hg; replace HB := bs HB hb; have NB407_424 := nl BK407 hg; have NB424_407 := nr BK407 hg; replace BK407 := bb BK407 hb; have NB408_424 := nl BK408 hg; have NB424_408 := nr BK408 hg; replace BK408 := bb BK408 hb; clear hb hbox hg; obtain ⟨Ao13, co13, eo13⟩ := Kd.N_slice HO411.out; subst eo13; have hnb14 := NB424_407.out; have hnc14 := NB407_424.out; have hnb15 := NB424_408.out; have hnc15 := NB408_424.out; have hcz16_0 := bc0 BK424; have hcz16_1 := bc1 BK424; have hcz16_2 := bc2 BK424; have hcz16_3 := bc3 BK424; have hcz16_4 := bc4 BK424; have hfz16_0 := blk_frozen BK424.out 0; have hfz16_1 := blk_frozen BK424.out 1; have hfz16_2 := blk_frozen BK424.out 2; have hfz16_3 := blk_frozen BK424.out 3; have hfz16_4 := blk_frozen BK424.out 4; obtain ⟨Ao17, co17, eo17⟩ := Kd.R_slice HO415.out; subst eo17; obtain ⟨Ao18, co18, eo18⟩ := Kd.R_slice HO418.out; subst eo18; obtain ⟨Ao19, co19, eo19⟩ := Kd.R_slice HO421.out; subst eo19))
  go_ret2
  exact ⟨by first | rfl | (simp [errW_none, errW_some] <;> rfl) | (simp [*, errW_none, errW_some] <;> rfl), bw HB⟩
 rw [if_neg c5] at H
 have c5b0 : decide (t422 < 0) = false := decide_eq_false c5
 clear c5
 by_cases c21 : 0 ≤ (t409.length : Int)
 rotate_left
 ·rw [if_neg c21] at H
  exact absurd H (by simp)
 rw [if_pos c21] at H
 have c21b0 := eq_true c21
 have c21b1 : decide (0 ≤ (t409.length : Int)) = true := decide_eq_true c21
 clear c21
 by_cases c22 : ((t409.length : Int) : Int).toNat ≤ 35184372088832
 rotate_left
 ·rw [if_neg c22] at H
  exact absurd H (by simp)
 rw [if_pos c22] at H
 have c22b0 := eq_true c22
 have c22b1 : decide (((t409.length : Int) : Int).toNat ≤ 35184372088832) = true := decide_eq_true c22
 clear c22
 obtain ⟨y426, hy426⟩ : ∃ y_ : List Int, y_ = (List.replicate ((t409.length : Int) : Int).toNat 0) := ⟨_, rfl⟩
 replace H : (if 0 < (y426.length : Int) then (impl_CountPlans.l0 k a2 t422 (y426.set (0 : Int).toNat 1) t409 (t409.length : Int) 0 t409 t412 t413 t416 t419) else (none)) = some (r1, r2) := by first | (rw [hy426]; with_reducible exact H) | (have H2_ := (Option.bind_some _ _).symm.trans H; rw [hy426]; with_reducible exact H2_) | (have H2_ := (Option.bind_some _ _).symm.trans H; with_reducible exact H2_) | with_reducible exact H | (rw [hy426]; exact H) | exact H
 have Ny426 := Aside0.mk hy426
 clear hy426
 by_cases c23 : 0 < (y426.length : Int)
 rotate_left
 ·rw [if_neg c23] at H
  exact absurd H (by simp)
 rw [if_pos c23] at H
 have c23b0 : decide (0 < (y426.length : Int)) = true := decide_eq_true c23
 have c23b1 : decide (0 < y426.length) = true := decide_eq_true (by omega)
 clear c23
 obtain ⟨y429, hy429⟩ : ∃ y_ : List Int, y_ = (y426.set (0 : Int).toNat 1) := ⟨_, rfl⟩
 replace H : (impl_CountPlans.l0 k a2 t422 y429 t409 (t409.length : Int) 0 t409 t412 t413 t416 t419) = some (r1, r2) := by first | (rw [hy429]; with_reducible exact H) | (have H2_ := (Option.bind_some _ _).symm.trans H; rw [hy429]; with_reducible exact H2_) | (have H2_ := (Option.bind_some _ _).symm.trans H; with_reducible exact H2_) | with_reducible exact H | (rw [hy429]; exact H) | exact H
 have Ny429 := Aside0.mk hy429
 clear hy429
 have H' := Aside0.mk H
 clear H
 go_enter Try.func41, Try.ntmps41
 go_wp2_with (first | ((with_reducible refine gate_dst (N := 3) rfl ?_); refine bx 3 #[.slice A0_0 l0_0.length c0_0, .slice A0_1 l0_1.length c0_1] 29 ?_; intro gb407 hg w25 hbox hb; have BK407 := Aside0.mk (hbox); have GW407 := ge HB hg; have GE407 := ge HB hg; replace HB := bs HB hb; clear hb hbox hg) | ((with_reducible refine gate_dst (N := 4) rfl ?_); refine bx 4 #[.slice A1_0 l1_0.length c1_0, .slice A1_1 l1_1.length c1_1] 29 ?_; intro gb408 hg w26 hbox hb; have BK408 := Aside0.mk (hbox); have GW408 := ge HB hg; have GE408 := ge HB hg; replace HB := bs HB hb; have NB407_408 := nl BK407 hg; have NB408_407 := nr BK407 hg; replace BK407 := bb BK407 hb; clear hb hbox hg; have hnb27 := NB407_408.out; have hnc27 := NB408_407.out; have hcz28_0 := bc0 BK407; have hcz28_1 := bc1 BK407; have hfz28_0 := blk_frozen BK407.out 0; have hfz28_1 := blk_frozen BK407.out 1; have hcz29_0 := bc0 BK408; have hcz29_1 := bc1 BK408; have hfz29_0 := blk_frozen BK408.out 0; have hfz29_1 := blk_frozen BK408.out 1) | ((with_reducible refine gate_callee (f := 68) rfl ?_); refine gl 21 Try.func68 #[.agg #[.slice A0_0 l0_0.length c0_0, .slice A0_1 l0_1.length c0_1], .agg #[.slice A1_0 l1_0.length c1_0, .slice A1_1 l1_1.length c1_1], .bool a2] ?_; (with_reducible refine (impl_find.calls k (fun k_ => k_ < w.heap.size) _ _ l0_0 _ _ l0_1 _ _ l1_0 _ _ l1_1 a2 t409 t412 t413 t416 t419 t422 t423 _ ?side1 ?side2 ?side3 ?side4 ?side5 A4.out).mono ?_); (case side1 => exact foot_and (foot_and (Kd.F_below (Kd.C_F (Kd.heap_int .i64) HR0_0.out) (bw HB)) (Kd.F_below (Kd.C_F (Kd.heap_int .i64) HR0_1.out) (bw HB))) (foot_and (Kd.F_below (Kd.C_F (Kd.heap_int .i64) HR1_0.out) (bw HB)) (Kd.F_below (Kd.C_F (Kd.heap_int .i64) HR1_1.out) (bw HB)))); (case side2 => exact HC0_0.out); (case side3 => exact HC0_1.out); (case side4 => exact HC1_0.out); (case side5 => exact HC1_1.out); rintro e w30 ⟨gb425, O_, v410, mv_, v414, v417, v420, rfl, hfi_⟩; obtain ⟨hmp_, ho0, ho1, ho2, ho3, hb⟩ := hfi_; have h0_ : ¬ (t422 < 0) := of_decide_eq_false ‹_›; have hr7_ := find_ok A4.out (by omega); obtain ⟨hmv_, hge_, hob_, hmo_⟩ := hmp_ hr7_; refine ⟨_, rfl, ?_⟩; have HO411 := Aside0.mk (Kd.N_lower (Kd.N_mono (ok' := fun k_ => (some k_ ≠ (v414 : Value).ownBlock ∧ some k_ ≠ (v417 : Value).ownBlock ∧ some k_ ≠ (v420 : Value).ownBlock ∧ k_ ≠ gb407 ∧ k_ ≠ gb408) ∧ k_ ≠ gb425) ho0 (fun k_ hk_ => ⟨⟨hk_.2.1, hk_.2.2.1, hk_.2.2.2.1, Or.elim hk_.1 (fun hs_ => fun e_ => Nat.not_le.2 hs_ (by rw [e_]; exact GW407.out)) (fun hn_ => (Kd.freshB (g := gb407) (o := .cells #[.slice A0_0 l0_0.length c0_0, .slice A0_1 l0_1.length c0_1] 29 (0, 0)) (bk BK407) k_ hn_)), Or.elim hk_.1 (fun hs_ => fun e_ => Nat.not_le.2 hs_ (by rw [e_]; exact GW408.out)) (fun hn_ => (Kd.freshB (g := gb408) (o := .cells #[.slice A1_0 l1_0.length c1_0, .slice A1_1 l1_1.length c1_1] 29 (0, 0)) (bk BK408) k_ hn_))⟩, hk_.2.2.2.2 hr7_⟩)) (below_size (bw HB))); have HO415 := Aside0.mk (Kd.R_lower (Kd.R_mono (ok' := fun k_ => some k_ ≠ (v417 : Value).ownBlock) ho1 (fun _ hk_ => hk_.2)) (below_size (bw HB))); have HO418 := Aside0.mk (Kd.R_lower (Kd.R_mono (ok' := fun k_ => some k_ ≠ (v414 : Value).ownBlock) ho2 (fun _ hk_ => hk_.2)) (below_size (bw HB))); have HO421 := Aside0.mk (Kd.R_lower (Kd.R_mono (ok' := fun k_ => True) ho3 (fun _ hk_ => trivial)) (below_size (bw HB))); have GW425 := ge' HB hge_; have GE425 := ge' HB hge_; have NB407_425 := nl' BK407 hge_; have NB425_407 := nr' BK407 hge_; replace BK407 := bb BK407 hb; have NB408_425 := nl' BK408 hge_; have NB425_408 := nr' BK408 hge_; replace BK408 := bb BK408 hb; replace HB := bs HB hb; (try clear hb); (try clear ho0); (try clear ho1); (try clear ho2); (try clear ho3); have BK425 := Aside0.mk hob_; have HMV := Aside0.mk hmv_; have HMO := Aside0.mk hmo_; clear hob_ hmv_ hmo_ hge_ hmp_ h0_ hr7_) | ((with_reducible refine gate_dst (N := 8) rfl ?_); refine bx 8 #[.slice none 0 0, .map none, .slice none 0 0, .slice none 0 0, .slice none 0 0] 83 ?_; intro gb424 hg w31 hbox hb; replace HO411 := Aside0.mk (Kd.N_below (Kd.N_elderB HO411.out gb424 (Nat.le_of_eq hg.symm)) hb); replace HO415 := rb HO415 hb; replace HO418 := rb HO418 hb; replace HO421 := rb HO421 hb; have BK424 := Aside0.mk (hbox); have GW424 := ge HB hg; have GE424 := ge HB hg; replace HB := bs HB hb; have NB407_424 := nl BK407 hg; have NB424_407 := nr BK407 hg; replace BK407 := bb BK407 hb; have NB408_424 := nl BK408 hg; have NB424_408 := nr BK408 hg; replace BK408 := bb BK408 hb; have NB425_424 := nlO BK425 hg; have NB424_425 := nrO BK425 hg; replace BK425 := bbO BK425 hb; clear hb hbox hg; obtain ⟨Ao32, co32, eo32⟩ := Kd.N_slice HO411.out; subst eo32; have hnb33 := NB424_407.out; have hnc33 := NB407_424.out; have hnb34 := NB424_408.out; have hnc34 := NB408_424.out; have hcz35_0 := bc0 BK424; have hcz35_1 := bc1 BK424; have hcz35_2 := bc2 BK424; have hcz35_3 := bc3 BK424; have hcz35_4 := bc4 BK424; have hfz35_0 := blk_frozen BK424.out 0; have hfz35_1 := blk_frozen BK424.out 1; have hfz35_2 := blk_frozen BK424.out 2; have hfz35_3 := blk_frozen BK424.out 3; have hfz35_4 := blk_frozen BK424.out 4; obtain ⟨Ao36, co36, eo36⟩ := Kd.R_slice HO415.out; subst eo36; obtain ⟨Ao37, co37, eo37⟩ := Kd.R_slice HO418.out; subst eo37; obtain ⟨Ao38, co38, eo38⟩ := Kd.R_slice HO421.out; subst eo38) | ((with_reducible refine gate_dst (N := 30) rfl ?_); generalize hw_ : (((((w31.setCell ⟨gb424, 0, none⟩ (.slice Ao32 t409.length co32)).setCell ⟨gb424, 1, none⟩ (.map mv_)).setCell ⟨gb424, 2, none⟩ (.slice Ao36 t413.length co36)).setCell ⟨gb424, 3, none⟩ (.slice Ao37 t416.length co37)).setCell ⟨gb424, 4, none⟩ (.slice Ao38 t419.length co38)) = w39; have hb := belowEq hw_; replace BK425 := bbO BK425 hb; replace HO411 := Aside0.mk (Kd.N_below (N_swap (by exact (Kd.N_mono (Kd.N_far (p := ⟨gb424, 4, none⟩) (Kd.N_far (p := ⟨gb424, 3, none⟩) (Kd.N_far (p := ⟨gb424, 2, none⟩) (Kd.N_far (p := ⟨gb424, 1, none⟩) (Kd.N_far (p := ⟨gb424, 0, none⟩) (Kd.N_mono HO411.out (fun k_ hk => (⟨hk, hk.2⟩ : _ ∧ k_ ≠ gb424))) (fun _ hk => hk.2) (.slice Ao32 t409.length co32)) (fun _ hk => hk.2) (.map mv_)) (fun _ hk => hk.2) (.slice Ao36 t413.length co36)) (fun _ hk => hk.2) (.slice Ao37 t416.length co37)) (fun _ hk => hk.2) (.slice Ao38 t419.length co38)) (fun _ h_ => h_.1)))) hb); replace HO415 := Aside0.mk (Kd.R_below (by exact (Kd.R_mono (Kd.R_far (p := ⟨gb424, 4, none⟩) (Kd.R_far (p := ⟨gb424, 3, none⟩) (Kd.R_far (p := ⟨gb424, 2, none⟩) (Kd.R_far (p := ⟨gb424, 1, none⟩) (Kd.R_far (p := ⟨gb424, 0, none⟩) (Kd.R_types HO415.out BK424.out (by decide)) (fun _ hk => hk.2) (.slice Ao32 t409.length co32)) (fun _ hk => hk.2) (.map mv_)) (fun _ hk => hk.2) (.slice Ao36 t413.length co36)) (fun _ hk => hk.2) (.slice Ao37 t416.length co37)) (fun _ hk => hk.2) (.slice Ao38 t419.length co38)) (fun _ h_ => h_.1))) hb); replace HO418 := Aside0.mk (Kd.R_below (by exact (Kd.R_mono (Kd.R_far (p := ⟨gb424, 4, none⟩) (Kd.R_far (p := ⟨gb424, 3, none⟩) (Kd.R_far (p := ⟨gb424, 2, none⟩) (Kd.R_far (p := ⟨gb424, 1, none⟩) (Kd.R_far (p := ⟨gb424, 0, none⟩) (Kd.R_types HO418.out BK424.out (by decide)) (fun _ hk => hk.2) (.slice Ao32 t409.length co32)) (fun _ hk => hk.2) (.map mv_)) (fun _ hk => hk.2) (.slice Ao36 t413.length co36)) (fun _ hk => hk.2) (.slice Ao37 t416.length co37)) (fun _ hk => hk.2) (.slice Ao38 t419.length co38)) (fun _ h_ => h_.1))) hb); replace HO421 := Aside0.mk (Kd.R_below (by exact (Kd.R_mono (Kd.R_far (p := ⟨gb424, 4, none⟩) (Kd.R_far (p := ⟨gb424, 3, none⟩) (Kd.R_far (p := ⟨gb424, 2, none⟩) (Kd.R_far (p := ⟨gb424, 1, none⟩) (Kd.R_far (p := ⟨gb424, 0, none⟩) (Kd.R_types HO421.out BK424.out (by decide)) (fun _ hk => hk.2) (.slice Ao32 t409.length co32)) (fun _ hk => hk.2) (.map mv_)) (fun _ hk => hk.2) (.slice Ao36 t413.length co36)) (fun _ hk => hk.2) (.slice Ao37 t416.length co37)) (fun _ hk => hk.2) (.slice Ao38 t419.length co38)) (fun _ h_ => h_.1))) hb); replace HB := bs HB hb; replace BK407 := bb BK407 hb; replace BK408 := bb BK408 hb; replace BK424 := Aside0.mk (blk_below (g := gb424) (o := .cells #[.slice Ao32 t409.length co32, .map mv_, .slice Ao36 t413.length co36, .slice Ao37 t416.length co37, .slice Ao38 t419.length co38] 83 (0, 0)) (by refine blk_put (cs := #[.slice Ao32 t409.length co32, .map mv_, .slice Ao36 t413.length co36, .slice Ao37 t416.length co37, .slice none 0 0]) ?_ 4 _ rfl; refine blk_put (cs := #[.slice Ao32 t409.length co32, .map mv_, .slice Ao36 t413.length co36, .slice none 0 0, .slice none 0 0]) ?_ 3 _ rfl; refine blk_put (cs := #[.slice Ao32 t409.length co32, .map mv_, .slice none 0 0, .slice none 0 0, .slice none 0 0]) ?_ 2 _ rfl; refine blk_put (cs := #[.slice Ao32 t409.length co32, .map none, .slice none 0 0, .slice none 0 0, .slice none 0 0]) ?_ 1 _ rfl; refine blk_put (cs := #[.slice none 0 0, .map none, .slice none 0 0, .slice none 0 0, .slice none 0 0]) ?_ 0 _ rfl; exact bk BK424) hb); clear hb hw_; have HON := HO411; have HBM := Aside0.mk (Below.refl w39.heap.size w39); have hnb40 := NB424_425.out; have hnc40 := NB425_424.out; have hcz41_0 := bc0 BK424; have hcz41_1 := bc1 BK424; have hcz41_2 := bc2 BK424; have hcz41_3 := bc3 BK424; have hcz41_4 := bc4 BK424; have hfz41_0 := blk_frozen BK424.out 0; have hfz41_1 := blk_frozen BK424.out 1; have hfz41_2 := blk_frozen BK424.out 2; have hfz41_3 := blk_frozen BK424.out 3; have hfz41_4 := blk_frozen BK424.out 4; refine Kd.R_make (Kd.int .i64) _ 3 rfl (N := 30) rfl 22 _ _ rfl (t409.length : Int) rfl rfl Try.underlying22 (.int .i64 0) 8 info3 rfl (by decide) (by omega) 0 (ok := fun _ => True) (okp := fun _ => True) rfl (fun _ hk => hk) trivial (of_decide_eq_true ‹_›) (Nat.le_trans (Nat.mul_le_mul_right _ (of_decide_eq_true ‹_› : (t409.length : Int).toNat ≤ 35184372088832)) (by omega)) (Below.refl _ _) (Nat.le_refl _) ?_; intro v427 w42 ho43 hb hg_ hnew_; have hgm_ := Kd.R_base ho43; clear hg_ hnew_; (first | rw [← Ny426.out] at ho43 | (simp only [Int.reduceToNat] at ho43; rw [← Ny426.out] at ho43)); replace HO411 := Aside0.mk (Kd.N_elder' HO411.out (Kd.R_base ho43) hb); replace HO421 := rb HO421 hb; have HO428 := Aside0.mk (Kd.R_lower (Kd.R_new' (Kd.R_new' ho43 (Kd.R_lt (rk HO415))) (Kd.R_lt (rk HO418))) (below_size (bw HB))); replace HO415 := Aside0.mk (Kd.R_elder' (rk HO415) (Kd.R_base ho43) hb); replace HO418 := Aside0.mk (Kd.R_elder' (rk HO418) (Kd.R_base ho43) hb); replace BK407 := bb BK407 hb; replace BK408 := bb BK408 hb; replace BK424 := bb BK424 hb; replace BK425 := bbO BK425 hb; replace HB := bs HB hb; replace HBM := bs HBM hb; clear hb ho43; have p24 : 0 ≤ (0 : Int) := (by omega); have q24 : (0 : Int) < ((y426.length : Int) : Int) := of_decide_eq_true ‹_›; have qi24 : (0 < y426.length) = True := eq_true (by omega); obtain ⟨go24, co24, eo24, gb24, gl24, cl24, HG24⟩ := Kd.R_form HO428.out (by omega); (first | cases eo24 | (injection eo24 with ea_ en_ ec_; (first | subst ea_ | (injection ea_ with ea_; subst ea_)); subst ec_; clear en_)); have GB24 := Aside0.mk gb24; have GM24 : GeC w39.heap.size go24 := ⟨hgm_ go24 rfl⟩; clear hgm_; have GG24 := Aside0.mk HG24; clear gb24 gl24 HG24; obtain ⟨hx24_0, hf24_0⟩ := Kd.R_celln 0 HO428.out (0 : Int) p24 q24; (try rw [show ((0 : Int)).toNat = 0 from rfl] at hx24_0); (try simp only [Nat.reduceMul, Nat.zero_mul, Nat.zero_add, Nat.reduceAdd] at hx24_0); (try rw [show ((0 : Int)).toNat = 0 from rfl] at hf24_0); (try simp only [Nat.reduceMul, Nat.zero_mul, Nat.zero_add, Nat.reduceAdd] at hf24_0); replace p24 := eq_true p24; replace q24 := eq_true q24; have n_ := Aside0.mk (Kd.R_mono (ok' := (fun k_ => some k_ ≠ (.slice Ao36 t413.length co36 : Value).ownBlock ∧ some k_ ≠ (.slice Ao37 t416.length co37 : Value).ownBlock)) HO428.out (fun k_ hk => ⟨hk.1.2, hk.2⟩)); clear HO428; have HO428 := n_; clear n_; obtain ⟨hy44_, hz44_⟩ := Kd.R_celln 0 HO428.out (0 : Int) (by omega) (of_decide_eq_true ‹_›); (try simp only [Int.reduceToNat, Int.toNat_zero, Int.toNat_ofNat, Nat.reduceMul, Nat.zero_mul, Nat.zero_add] at hy44_ hz44_); (try rw [show ((0 : Int)).toNat = 0 from rfl] at hy44_); (try rw [show ((0 : Int)).toNat = 0 from rfl] at hz44_); have HP44 := Kd.R_putg HO428.out (0 : Int) 1) | ((with_reducible refine gate_store (t := 3) (p := 32) rfl ?_); refine store_event (t := 3) (p := 32) (v := ?vo_w45) (w1 := (w42.setCell ⟨go24, (0 : Int).toNat, none⟩ (.int .i64 1))) ?hg ?ho ?hn ?hr ?_; (case ho => rfl); (case hg => rfl); (case hn => rfl); (case hr => first | (go_simp; done) | (go_simp; rfl)); intro w45 hw; have hg : w42.grownBy w45 (some go24) := (by rw [hw]; exact HP44.2); have hp_ : Kd.R (Kd.int .i64) 3 w45 w.heap.size (fun k_ => some k_ ≠ (.slice Ao36 t413.length co36 : Value).ownBlock ∧ some k_ ≠ (.slice Ao37 t416.length co37 : Value).ownBlock) (.slice (some ⟨go24, 0, none⟩) y426.length co24) y429 := (by rw [hw, Ny429.out]; exact HP44.1); clear HP44; replace BK407 := Aside0.mk (blk_grown (g := gb407) (o := .cells #[.slice A0_0 l0_0.length c0_0, .slice A0_1 l0_1.length c0_1] 29 (0, 0)) (bk BK407) hg (Kd.R_ne HO428.out BK407.out (by decide))); replace BK408 := Aside0.mk (blk_grown (g := gb408) (o := .cells #[.slice A1_0 l1_0.length c1_0, .slice A1_1 l1_1.length c1_1] 29 (0, 0)) (bk BK408) hg (Kd.R_ne HO428.out BK408.out (by decide))); replace HO411 := Aside0.mk (Kd.N_afterv (v := (.slice (some ⟨go24, 0, none⟩) y426.length co24)) (v1 := (.slice (some ⟨go24, 0, none⟩) y426.length co24)) (ok := (fun k_ => some k_ ≠ (.slice Ao36 t413.length co36 : Value).ownBlock ∧ some k_ ≠ (.slice Ao37 t416.length co37 : Value).ownBlock ∧ some k_ ≠ (.slice Ao38 t419.length co38 : Value).ownBlock ∧ k_ ≠ gb407 ∧ k_ ≠ gb408 ∧ k_ ≠ gb424 ∧ k_ ≠ gb425)) (by exact Kd.N_mono HO411.out (fun _ hk => ⟨⟨hk.1.1.1.1, ⟨hk.1.1.1.2.1, ⟨hk.1.1.1.2.2.1, ⟨hk.1.1.1.2.2.2.1, ⟨hk.1.1.1.2.2.2.2, ⟨hk.1.1.2, hk.1.2⟩⟩⟩⟩⟩⟩, hk.2⟩)) hg (.inl rfl)); replace HO415 := Aside0.mk (Kd.R_after (v := (.slice (some ⟨go24, 0, none⟩) y426.length co24)) (v1 := (.slice (some ⟨go24, 0, none⟩) y426.length co24)) (ok := (fun k_ => some k_ ≠ (.slice Ao37 t416.length co37 : Value).ownBlock)) (rk HO415) hg (.inl rfl)); replace HO418 := Aside0.mk (Kd.R_after (v := (.slice (some ⟨go24, 0, none⟩) y426.length co24)) (v1 := (.slice (some ⟨go24, 0, none⟩) y426.length co24)) (ok := (fun k_ => some k_ ≠ (.slice Ao36 t413.length co36 : Value).ownBlock)) (rk HO418) hg (.inl rfl)); replace HO421 := Aside0.mk (Kd.R_over' (v := (.slice (some ⟨go24, 0, none⟩) y426.length co24)) (rk HO421) (Kd.R_typed HO428.out) (by decide) hg); replace BK424 := Aside0.mk (blk_grown (g := gb424) (o := .cells #[.slice Ao32 t409.length co32, .map mv_, .slice Ao36 t413.length co36, .slice Ao37 t416.length co37, .slice Ao38 t419.length co38] 83 (0, 0)) (bk BK424) hg (Kd.R_ne HO428.out BK424.out (by decide))); replace BK425 := Aside0.mk (blk_grown (g := gb425) (o := O_) (bkO BK425) hg (R_neM HMO.out HO428.out BK425.out)); replace HO428 := Aside0.mk (hp_); replace HB := Aside0.mk ((by rw [hw]; exact below_set (HB.out) GB24.out : Below w.heap.size w w45)); replace HBM := Aside0.mk ((by rw [hw]; exact below_set (HBM.out) GM24.out : Below w39.heap.size w39 w45)); clear hg hw hp_; have hcz46_0 := bc0 BK424; have hcz46_1 := bc1 BK424; have hcz46_2 := bc2 BK424; have hcz46_3 := bc3 BK424; have hcz46_4 := bc4 BK424; have hfz46_0 := blk_frozen BK424.out 0; have hfz46_1 := blk_frozen BK424.out 1; have hfz46_2 := blk_frozen BK424.out 2; have hfz46_3 := blk_frozen BK424.out 3; have hfz46_4 := blk_frozen BK424.out 4))
 try simp only [Act.put, List.setIfInBounds_toArray, List.set_cons_zero, List.set_cons_succ]
 go_loopg [36] k (fun kq v36 w' => ∃ (x11_1 : List Int) (x36_1 : Int), v36 = .int .i64 x36_1 ∧ Aside0 (impl_CountPlans.l0 kq a2 t422 x11_1 t409 (t409.length : Int) x36_1 t409 t412 t413 t416 t419 = some (r1, r2)) ∧ Aside0 (kq ≤ k) ∧ Aside0 (Kd.R (Kd.int .i64) 3 w' w.heap.size (fun k_ => some k_ ≠ ((.slice Ao36 t413.length co36) : Value).ownBlock ∧ some k_ ≠ ((.slice Ao37 t416.length co37) : Value).ownBlock) (.slice (some ⟨go24, 0, none⟩) y426.length co24) x11_1) ∧ Aside0 (Kd.N k29 29 w' w.heap.size (fun k_ => some k_ ≠ ((.slice (some ⟨go24, 0, none⟩) y426.length co24) : Value).ownBlock ∧ some k_ ≠ ((.slice Ao36 t413.length co36) : Value).ownBlock ∧ some k_ ≠ ((.slice Ao37 t416.length co37) : Value).ownBlock ∧ some k_ ≠ ((.slice Ao38 t419.length co38) : Value).ownBlock ∧ k_ ≠ gb407 ∧ k_ ≠ gb408 ∧ k_ ≠ gb424 ∧ k_ ≠ gb425) (.slice Ao32 t409.length co32) t409) ∧ Aside0 (Kd.N k29 29 w' w.heap.size (fun k_ => some k_ ≠ ((.slice (some ⟨go24, 0, none⟩) y426.length co24) : Value).ownBlock ∧ some k_ ≠ ((.slice Ao36 t413.length co36) : Value).ownBlock ∧ some k_ ≠ ((.slice Ao37 t416.length co37) : Value).ownBlock ∧ some k_ ≠ ((.slice Ao38 t419.length co38) : Value).ownBlock ∧ k_ ≠ gb407 ∧ k_ ≠ gb408 ∧ k_ ≠ gb424 ∧ k_ ≠ gb425) (.slice Ao32 t409.length co32) t409) ∧ Aside0 (Kd.R (Kd.int .i64) 3 w' w.heap.size (fun k_ => some k_ ≠ ((.slice (some ⟨go24, 0, none⟩) y426.length co24) : Value).ownBlock ∧ some k_ ≠ ((.slice Ao37 t416.length co37) : Value).ownBlock) (.slice Ao36 t413.length co36) t413) ∧ Aside0 (Kd.R (Kd.int .i64) 3 w' w.heap.size (fun k_ => some k_ ≠ ((.slice (some ⟨go24, 0, none⟩) y426.length co24) : Value).ownBlock ∧ some k_ ≠ ((.slice Ao36 t413.length co36) : Value).ownBlock) (.slice Ao37 t416.length co37) t416) ∧ Aside0 (Kd.R k49 49 w' w.heap.size (fun _ => True) (.slice Ao38 t419.length co38) t419) ∧ Aside0 (w'.heap[gb407]? = some (.cells #[(.slice A0_0 l0_0.length c0_0), (.slice A0_1 l0_1.length c0_1)] 29 (0, 0))) ∧ Aside0 (w'.heap[gb408]? = some (.cells #[(.slice A1_0 l1_0.length c1_0), (.slice A1_1 l1_1.length c1_1)] 29 (0, 0))) ∧ Aside0 (w'.heap[gb424]? = some (.cells #[(.slice Ao32 t409.length co32), .map mv_, (.slice Ao36 t413.length co36), (.slice Ao37 t416.length co37), (.slice Ao38 t419.length co38)] 83 (0, 0))) ∧ Aside0 (w'.heap[gb425]? = some O_) ∧ Aside0 (Below w.heap.size w w') ∧ Aside0 (Below w39.heap.size w39 w'))
 case atStart => exact ⟨(y429), (0), (by first | rfl | (simp; done) | (simp [*]; done)), H', ⟨Nat.le_refl _⟩, ⟨rk HO428⟩, ⟨by exact Kd.N_mono HO411.out (fun _ hk => ⟨hk.2, ⟨hk.1.1, ⟨hk.1.2.1, ⟨hk.1.2.2.1, ⟨hk.1.2.2.2.1, ⟨hk.1.2.2.2.2.1, ⟨hk.1.2.2.2.2.2.1, hk.1.2.2.2.2.2.2⟩⟩⟩⟩⟩⟩⟩)⟩, ⟨by exact Kd.N_mono HO411.out (fun _ hk => ⟨hk.2, ⟨hk.1.1, ⟨hk.1.2.1, ⟨hk.1.2.2.1, ⟨hk.1.2.2.2.1, ⟨hk.1.2.2.2.2.1, ⟨hk.1.2.2.2.2.2.1, hk.1.2.2.2.2.2.2⟩⟩⟩⟩⟩⟩⟩)⟩, ⟨by exact Kd.R_mono HO415.out (fun _ hk => ⟨hk.2, hk.1⟩)⟩, ⟨by exact Kd.R_mono HO418.out (fun _ hk => ⟨hk.2, hk.1⟩)⟩, ⟨rk HO421⟩, ⟨bk BK407⟩, ⟨bk BK408⟩, ⟨bk BK424⟩, ⟨bkO BK425⟩, ⟨bw HB⟩, ⟨bw HBM⟩⟩
 case round =>
  clear H'
  try clear c1
  try clear c2
  try clear p2
  try clear q2
  try clear hx2
  try clear qi2
  try clear c3
  try clear c4
  try clear c5
  try clear c5b0
  try clear c6
  try clear c8
  try clear c14
  try clear c15
  try clear c21
  try clear c21b0
  try clear c21b1
  try clear c22
  try clear c22b0
  try clear c22b1
  try clear c23
  try clear c23b0
  try clear c23b1
  try clear p24
  try clear q24
  try clear hx24
  try clear qi24
  try clear hf24
  try clear c27
  try clear c33
  try clear c34
  try clear c40
  try clear c41
  try clear hcz10_0
  try clear hcz10_1
  try clear hcz16_0
  try clear hcz16_1
  try clear hcz16_2
  try clear hcz16_3
  try clear hcz16_4
  try clear hcz28_0
  try clear hcz28_1
  try clear hcz29_0
  try clear hcz29_1
  try clear hcz35_0
  try clear hcz35_1
  try clear hcz35_2
  try clear hcz35_3
  try clear hcz35_4
  try clear hcz41_0
  try clear hcz41_1
  try clear hcz41_2
  try clear hcz41_3
  try clear hcz41_4
  try clear hcz46_0
  try clear hcz46_1
  try clear hcz46_2
  try clear hcz46_3
  try clear hcz46_4
  try clear hcz9_0
  try clear hcz9_1
  try clear hfz10_0
  try clear hfz10_1
  try clear hfz16_0
  try clear hfz16_1
  try clear hfz16_2
  try clear hfz16_3
  try clear hfz16_4
  try clear hfz28_0
  try clear hfz28_1
  try clear hfz29_0
  try clear hfz29_1
  try clear hfz35_0
  try clear hfz35_1
  try clear hfz35_2
  try clear hfz35_3
  try clear hfz35_4
  try clear hfz41_0
  try clear hfz41_1
  try clear hfz41_2
  try clear hfz41_3
  try clear hfz41_4
  try clear hfz46_0
  try clear hfz46_1
  try clear hfz46_2
  try clear hfz46_3
  try clear hfz46_4
  try clear hfz9_0
  try clear hfz9_1
  try clear hx24_0
  try clear p24
  try clear q24
  obtain ⟨x11_1, x36_1, rfl, HA, HK1, HO_11, HO_34, HO_425000, HO_425002, HO_425003, HO_425004, BK407, BK408, BK424, BK425, HB, HBM⟩ := hrel
  have hl11_1 := (Kd.R_reads' HO_11.out).1
  rw [hl11_1] at HO_11
  (try simp only [hl11_1])
  (try simp only [hl11_1] at BK407)
  (try simp only [hl11_1] at BK408)
  (try simp only [hl11_1] at BK424)
  (try simp only [hl11_1] at BK425)
  (try simp only [hl11_1] at HO_34)
  (try simp only [hl11_1] at HO_425000)
  (try simp only [hl11_1] at HO_425002)
  (try simp only [hl11_1] at HO_425003)
  (try simp only [hl11_1] at HO_425004)
  cases gk with
  | zero => exact absurd HA.out (by simp [impl_CountPlans.l0])
  | succ k1 =>
   have H := HA.out
   clear HA
   simp only [impl_CountPlans.l0] at H
   by_cases c47 : x36_1 < (t409.length : Int)
   rotate_left
   ·rw [if_neg c47] at H
    have c47b0 : decide (x36_1 < (t409.length : Int)) = false := decide_eq_false c47
    clear c47
    by_cases c105 : 0 ≤ t422
    rotate_left
    ·rw [if_neg c105] at H
     exact absurd H (by simp)
    rw [if_pos c105] at H
    have c105b0 : decide (0 ≤ t422) = true := decide_eq_true c105
    clear c105
    by_cases c106 : t422 < (x11_1.length : Int)
    rotate_left
    ·rw [if_neg c106] at H
     exact absurd H (by simp)
    rw [if_pos c106] at H
    have c106b0 : decide (t422 < (x11_1.length : Int)) = true := decide_eq_true c106
    clear c106
    simp only [Option.some.injEq, Prod.mk.injEq] at H
    obtain ⟨rfl, rfl⟩ := H
    have p430 : 0 ≤ (t422 : Int) := of_decide_eq_true ‹_›
    have q430 : t422 < (x11_1.length : Int) := of_decide_eq_true ‹_›
    obtain ⟨ad430, e430, hx430_0⟩ := Kd.at_int (Kd.R_reads' HO_11.out).2.2 t422 p430 q430
    obtain rfl : (⟨go24, 0, none⟩ : Addr) = ad430 := (by injection e430)
    (first | simp only [add_plain] at hx430_0 | simp only [add_at] at hx430_0 | simp only [Addr.add, Nat.zero_add] at hx430_0 | skip)
    replace p430 := eq_true p430
    replace q430 := eq_true q430
    go_wp2
    go_ret2
    exact ⟨by first | rfl | (simp [errW_none, errW_some] <;> rfl) | (simp [*, errW_none, errW_some] <;> rfl), bw HB⟩
   rw [if_pos c47] at H
   have c47b0 : decide (x36_1 < (t409.length : Int)) = true := decide_eq_true c47
   clear c47
   by_cases c48 : 0 ≤ x36_1
   rotate_left
   ·rw [if_neg c48] at H
    exact absurd H (by simp)
   rw [if_pos c48] at H
   have c48b0 : decide (0 ≤ x36_1) = true := decide_eq_true c48
   clear c48
   by_cases c49 : x36_1 < (t409.length : Int)
   rotate_left
   ·rw [if_neg c49] at H
    exact absurd H (by simp)
   rw [if_pos c49] at H
   have c49b0 : decide (x36_1 < (t409.length : Int)) = true := decide_eq_true c49
   clear c49
   replace H := Option.bind_eq_some_iff.mp H
   obtain ⟨t433, A500, H⟩ := H
   (try dsimp only at H)
   have A50 := Aside0.mk A500
   clear A500
   have H' := Aside0.mk H
   clear H
   have p431 : 0 ≤ (x36_1 : Int) := of_decide_eq_true ‹_›
   have q431 : x36_1 < (t409.length : Int) := of_decide_eq_true ‹_›
   obtain ⟨ad431, A431_0, c431_0, A431_1, c431_1, e431, hx431_0, hx431_1, hl431_0, hi431_0, hl431_1, hi431_1⟩ := at_T29 (Kd.N_reads' HO_34.out).2.2 x36_1 p431 q431
   cases e431
   obtain ⟨adm_, Am0_, cm0_, Am1_, cm1_, em_, hxm0_, hxm1_, hlm0_, him0_, hlm1_, him1_⟩ := at_T29 (Kd.N_reads' HON.out).2.2 x36_1 p431 q431
   injection em_ with em_
   subst em_
   have hq_ := Option.some.inj ((cb hxm0_ (bw HBM)).symm.trans hx431_0)
   injection hq_ with a_ b_ c_
   rw [a_] at him0_
   have HM431_0 := Aside0.mk him0_
   clear a_ b_ c_ him0_
   have hq_ := Option.some.inj ((cb hxm1_ (bw HBM)).symm.trans hx431_1)
   injection hq_ with a_ b_ c_
   rw [a_] at him1_
   have HM431_1 := Aside0.mk him1_
   clear a_ b_ c_ him1_
   clear hxm0_ hxm1_ hlm0_ hlm1_
   obtain ⟨ce431, hce431, hMe431, hcc431⟩ := Kd.N_get HO_34.out z29 x36_1 p431 (by first | exact q431 | exact of_decide_eq_true ‹_› | (have e_ := (Kd.N_reads' HO_34.out).1; omega))
   obtain ⟨ua431_0, uc431_0, ua431_1, uc431_1, rfl, ul431_0, ge431_0, ul431_1, ge431_1⟩ := k29_openF hMe431
   have hv431_0 := hcc431 0 _ rfl
   rw [Nat.add_zero] at hv431_0
   replace hv431_0 := Option.some.inj (hv431_0.symm.trans hx431_0)
   injection hv431_0 with hva_ hvn_ hvc_
   rw [hva_] at ge431_0
   rw [hvc_] at ul431_0
   have HL431_0 := Aside0.mk (show Kd.V (Kd.int .i64) 3 _ w.heap.size _ _ ((rd_T29 t409 x36_1).f0) from Kd.V_mk ul431_0 ge431_0)
   clear hva_ hvn_ hvc_ ge431_0 ul431_0
   have hv431_1 := hcc431 1 _ rfl
   rw [add_field _ _ 1 (by omega)] at hv431_1
   replace hv431_1 := Option.some.inj (hv431_1.symm.trans hx431_1)
   injection hv431_1 with hva_ hvn_ hvc_
   rw [hva_] at ge431_1
   rw [hvc_] at ul431_1
   have HL431_1 := Aside0.mk (show Kd.V (Kd.int .i64) 3 _ w.heap.size _ _ ((rd_T29 t409 x36_1).f1) from Kd.V_mk ul431_1 ge431_1)
   clear hva_ hvn_ hvc_ ge431_1 ul431_1
   clear hcc431 hce431
   have HR431_0 := Aside0.mk hi431_0
   have HC431_0 := Aside0.mk hl431_0
   clear hi431_0 hl431_0
   have HR431_1 := Aside0.mk hi431_1
   have HC431_1 := Aside0.mk hl431_1
   clear hi431_1 hl431_1
   replace p431 := eq_true p431
   replace q431 := eq_true q431
   go_wp2_with (first | ((with_reducible refine gate_dst (N := 13) rfl ?_); refine bx 13 #[.slice none 0 0, .slice none 0 0] 29 ?_; intro gb432 hg w51 hbox hb; replace HO_11 := rb HO_11 hb; replace HO_34 := Aside0.mk (Kd.N_below (Kd.N_elderB HO_34.out gb432 (Nat.le_of_eq hg.symm)) hb); replace HO_425000 := Aside0.mk (Kd.N_below (Kd.N_elderB HO_425000.out gb432 (Nat.le_of_eq hg.symm)) hb); replace HO_425002 := rb HO_425002 hb; replace HO_425003 := rb HO_425003 hb; replace HO_425004 := rb HO_425004 hb; replace HL431_0 := Aside0.mk (Kd.V_below (Kd.V_elderB HL431_0.out gb432 (Nat.le_of_eq hg.symm)) hb); replace HL431_1 := Aside0.mk (Kd.V_below (Kd.V_elderB HL431_1.out gb432 (Nat.le_of_eq hg.symm)) hb); replace HR431_0 := Aside0.mk (Kd.C_below (by repeat (first | (with_reducible exact HR431_0.out) | (with_reducible refine Kd.C_alloc ?_ _) | (with_reducible refine Kd.C_drewN ?_ _) | (with_reducible refine Kd.C_drew ?_) | exact HR431_0.out)) hb); replace HR431_1 := Aside0.mk (Kd.C_below (by repeat (first | (with_reducible exact HR431_1.out) | (with_reducible refine Kd.C_alloc ?_ _) | (with_reducible refine Kd.C_drewN ?_ _) | (with_reducible refine Kd.C_drew ?_) | exact HR431_1.out)) hb); have BK432 := Aside0.mk (hbox); have GW432 := ge HB hg; have GM432 := ge HBM hg; have GE432 := ge HB hg; replace HB := bs HB hb; replace HBM := bs HBM hb; have NB407_432 := nl BK407 hg; have NB432_407 := nr BK407 hg; replace BK407 := bb BK407 hb; have NB408_432 := nl BK408 hg; have NB432_408 := nr BK408 hg; replace BK408 := bb BK408 hb; have NB424_432 := nl BK424 hg; have NB432_424 := nr BK424 hg; replace BK424 := bb BK424 hb; have NB425_432 := nlO BK425 hg; have NB432_425 := nrO BK425 hg; replace BK425 := bbO BK425 hb; clear hb hbox hg; have hnb52 := NB432_407.out; have hnc52 := NB407_432.out; have hnb53 := NB432_408.out; have hnc53 := NB408_432.out; have hnb54 := NB432_424.out; have hnc54 := NB424_432.out; have hnb55 := NB432_425.out; have hnc55 := NB425_432.out; have hcz56_0 := bc0 BK432; have hcz56_1 := bc1 BK432; have hfz56_0 := blk_frozen BK432.out 0; have hfz56_1 := blk_frozen BK432.out 1) | ((with_reducible refine gate_callee (f := 52) rfl ?_); refine gl 43 Try.func52 #[.agg #[.slice A431_0 ((rd_T29 t409 x36_1).f0).length c431_0, .slice A431_1 ((rd_T29 t409 x36_1).f1).length c431_1], .bool a2] ?_; (with_reducible refine (impl_Vessels_moves.calls k1 _ _ ((rd_T29 t409 x36_1).f0) _ _ ((rd_T29 t409 x36_1).f1) a2 t433 _ ?side1 ?side2 ?side3 ?side4 A50.out).mono ?_); (case side1 => repeat (first | exact ((Kd.V_reads' (by exact (Kd.V_mono (Kd.V_far (p := ⟨gb432, 1, none⟩) (Kd.V_far (p := ⟨gb432, 0, none⟩) (Kd.V_mono HL431_0.out (fun k_ hk => (⟨hk, hk.2⟩ : _ ∧ k_ ≠ gb432))) (fun _ hk => hk.2) (.slice A431_0 ((rd_T29 t409 x36_1).f0).length c431_0)) (fun _ hk => hk.2) (.slice A431_1 ((rd_T29 t409 x36_1).f1).length c431_1)) (fun _ h_ => h_.1)))).2.2) | (with_reducible refine Kd.C_alloc ?_ _) | (with_reducible refine Kd.C_drewN ?_ _) | (with_reducible refine Kd.C_drew ?_))); (case side2 => exact HC431_0.out); (case side3 => repeat (first | exact ((Kd.V_reads' (by exact (Kd.V_mono (Kd.V_far (p := ⟨gb432, 1, none⟩) (Kd.V_far (p := ⟨gb432, 0, none⟩) (Kd.V_mono HL431_1.out (fun k_ hk => (⟨hk, hk.2⟩ : _ ∧ k_ ≠ gb432))) (fun _ hk => hk.2) (.slice A431_0 ((rd_T29 t409 x36_1).f0).length c431_0)) (fun _ hk => hk.2) (.slice A431_1 ((rd_T29 t409 x36_1).f1).length c431_1)) (fun _ h_ => h_.1)))).2.2) | (with_reducible refine Kd.C_alloc ?_ _) | (with_reducible refine Kd.C_drewN ?_ _) | (with_reducible refine Kd.C_drew ?_))); (case side4 => exact HC431_1.out); rintro e w57 ⟨v434, rfl, ho0, hb⟩; refine ⟨_, rfl, ?_⟩; replace HO_11 := Aside0.mk (Kd.R_below (by exact (Kd.R_mono (Kd.R_far (p := ⟨gb432, 1, none⟩) (Kd.R_far (p := ⟨gb432, 0, none⟩) (Kd.R_types HO_11.out BK432.out (by decide)) (fun _ hk => hk.2) (.slice A431_0 ((rd_T29 t409 x36_1).f0).length c431_0)) (fun _ hk => hk.2) (.slice A431_1 ((rd_T29 t409 x36_1).f1).length c431_1)) (fun _ h_ => h_.1))) hb); replace HO_34 := Aside0.mk (Kd.N_elder' (by exact (Kd.N_mono (Kd.N_far (p := ⟨gb432, 1, none⟩) (Kd.N_far (p := ⟨gb432, 0, none⟩) (Kd.N_mono HO_34.out (fun k_ hk => (⟨hk, hk.2⟩ : _ ∧ k_ ≠ gb432))) (fun _ hk => hk.2) (.slice A431_0 ((rd_T29 t409 x36_1).f0).length c431_0)) (fun _ hk => hk.2) (.slice A431_1 ((rd_T29 t409 x36_1).f1).length c431_1)) (fun _ h_ => h_.1))) (Kd.R_base ho0) hb); replace HO_425000 := Aside0.mk (Kd.N_elder' (by exact (Kd.N_mono (Kd.N_far (p := ⟨gb432, 1, none⟩) (Kd.N_far (p := ⟨gb432, 0, none⟩) (Kd.N_mono HO_425000.out (fun k_ hk => (⟨hk, hk.2⟩ : _ ∧ k_ ≠ gb432))) (fun _ hk => hk.2) (.slice A431_0 ((rd_T29 t409 x36_1).f0).length c431_0)) (fun _ hk => hk.2) (.slice A431_1 ((rd_T29 t409 x36_1).f1).length c431_1)) (fun _ h_ => h_.1))) (Kd.R_base ho0) hb); replace HO_425002 := Aside0.mk (Kd.R_below (by exact (Kd.R_mono (Kd.R_far (p := ⟨gb432, 1, none⟩) (Kd.R_far (p := ⟨gb432, 0, none⟩) (Kd.R_types HO_425002.out BK432.out (by decide)) (fun _ hk => hk.2) (.slice A431_0 ((rd_T29 t409 x36_1).f0).length c431_0)) (fun _ hk => hk.2) (.slice A431_1 ((rd_T29 t409 x36_1).f1).length c431_1)) (fun _ h_ => h_.1))) hb); replace HO_425003 := Aside0.mk (Kd.R_below (by exact (Kd.R_mono (Kd.R_far (p := ⟨gb432, 1, none⟩) (Kd.R_far (p := ⟨gb432, 0, none⟩) (Kd.R_types HO_425003.out BK432.out (by decide)) (fun _ hk => hk.2) (.slice A431_0 ((rd_T29 t409 x36_1).f0).length c431_0)) (fun _ hk => hk.2) (.slice A431_1 ((rd_T29 t409 x36_1).f1).length c431_1)) (fun _ h_ => h_.1))) hb); have HO435 := Aside0.mk (Kd.R_lower (Kd.R_new' ho0 (Kd.R_lt (by exact (Kd.R_mono (Kd.R_far (p := ⟨gb432, 1, none⟩) (Kd.R_far (p := ⟨gb432, 0, none⟩) (Kd.R_types HO_425004.out BK432.out (by decide)) (fun _ hk => hk.2) (.slice A431_0 ((rd_T29 t409 x36_1).f0).length c431_0)) (fun _ hk => hk.2) (.slice A431_1 ((rd_T29 t409 x36_1).f1).length c431_1)) (fun _ h_ => h_.1))))) (below_size (bw HB))); replace HO_425004 := Aside0.mk (Kd.R_elder' (by exact (Kd.R_mono (Kd.R_far (p := ⟨gb432, 1, none⟩) (Kd.R_far (p := ⟨gb432, 0, none⟩) (Kd.R_types HO_425004.out BK432.out (by decide)) (fun _ hk => hk.2) (.slice A431_0 ((rd_T29 t409 x36_1).f0).length c431_0)) (fun _ hk => hk.2) (.slice A431_1 ((rd_T29 t409 x36_1).f1).length c431_1)) (fun _ h_ => h_.1))) (Kd.R_base ho0) hb); replace BK407 := bb BK407 hb; replace BK408 := bb BK408 hb; replace BK424 := bb BK424 hb; replace BK425 := bbO BK425 hb; replace HR431_0 := Aside0.mk (Kd.C_below ((Kd.V_reads' (by exact (Kd.V_mono (Kd.V_far (p := ⟨gb432, 1, none⟩) (Kd.V_far (p := ⟨gb432, 0, none⟩) (Kd.V_mono HL431_0.out (fun k_ hk => (⟨hk, hk.2⟩ : _ ∧ k_ ≠ gb432))) (fun _ hk => hk.2) (.slice A431_0 ((rd_T29 t409 x36_1).f0).length c431_0)) (fun _ hk => hk.2) (.slice A431_1 ((rd_T29 t409 x36_1).f1).length c431_1)) (fun _ h_ => h_.1)))).2.2) hb); replace HL431_0 := Aside0.mk (Kd.V_elder' (by exact (Kd.V_mono (Kd.V_far (p := ⟨gb432, 1, none⟩) (Kd.V_far (p := ⟨gb432, 0, none⟩) (Kd.V_mono HL431_0.out (fun k_ hk => (⟨hk, hk.2⟩ : _ ∧ k_ ≠ gb432))) (fun _ hk => hk.2) (.slice A431_0 ((rd_T29 t409 x36_1).f0).length c431_0)) (fun _ hk => hk.2) (.slice A431_1 ((rd_T29 t409 x36_1).f1).length c431_1)) (fun _ h_ => h_.1))) (Kd.R_base ho0) hb); replace HR431_1 := Aside0.mk (Kd.C_below ((Kd.V_reads' (by exact (Kd.V_mono (Kd.V_far (p := ⟨gb432, 1, none⟩) (Kd.V_far (p := ⟨gb432, 0, none⟩) (Kd.V_mono HL431_1.out (fun k_ hk => (⟨hk, hk.2⟩ : _ ∧ k_ ≠ gb432))) (fun _ hk => hk.2) (.slice A431_0 ((rd_T29 t409 x36_1).f0).length c431_0)) (fun _ hk => hk.2) (.slice A431_1 ((rd_T29 t409 x36_1).f1).length c431_1)) (fun _ h_ => h_.1)))).2.2) hb); replace HL431_1 := Aside0.mk (Kd.V_elder' (by exact (Kd.V_mono (Kd.V_far (p := ⟨gb432, 1, none⟩) (Kd.V_far (p := ⟨gb432, 0, none⟩) (Kd.V_mono HL431_1.out (fun k_ hk => (⟨hk, hk.2⟩ : _ ∧ k_ ≠ gb432))) (fun _ hk => hk.2) (.slice A431_0 ((rd_T29 t409 x36_1).f0).length c431_0)) (fun _ hk => hk.2) (.slice A431_1 ((rd_T29 t409 x36_1).f1).length c431_1)) (fun _ h_ => h_.1))) (Kd.R_base ho0) hb); replace BK432 := Aside0.mk (blk_below (g := gb432) (o := .cells #[.slice A431_0 ((rd_T29 t409 x36_1).f0).length c431_0, .slice A431_1 ((rd_T29 t409 x36_1).f1).length c431_1] 29 (0, 0)) (by refine blk_put (cs := #[.slice A431_0 ((rd_T29 t409 x36_1).f0).length c431_0, .slice none 0 0]) ?_ 1 _ rfl; refine blk_put (cs := #[.slice none 0 0, .slice none 0 0]) ?_ 0 _ rfl; exact bk BK432) hb); replace HB := bs HB hb; replace HBM := bs HBM hb; (try clear hb); (try clear ho0); obtain ⟨Ao58, co58, eo58⟩ := Kd.R_slice HO435.out; subst eo58))
   try simp only [Act.put, List.setIfInBounds_toArray, List.set_cons_zero, List.set_cons_succ]
   go_loopg [45] k1 (fun kq v45 w' => ∃ (x11_2 : List Int) (x45_2 : Int), v45 = .int .i64 x45_2 ∧ Aside0 (impl_CountPlans.l1 kq a2 t422 x11_2 x36_1 t409 (t409.length : Int) x36_1 t433 (t433.length : Int) x45_2 t409 t412 t413 t416 t419 ((rd_T29 t409 x36_1).f0) ((rd_T29 t409 x36_1).f1) = some (r1, r2)) ∧ Aside0 (kq ≤ k1) ∧ Aside0 (Kd.R (Kd.int .i64) 3 w' w.heap.size (fun k_ => some k_ ≠ ((.slice Ao36 t413.length co36) : Value).ownBlock ∧ some k_ ≠ ((.slice Ao37 t416.length co37) : Value).ownBlock) (.slice (some ⟨go24, 0, none⟩) x11_1.length co24) x11_2) ∧ Aside0 (Kd.N k29 29 w' w.heap.size (fun k_ => some k_ ≠ ((.slice (some ⟨go24, 0, none⟩) x11_1.length co24) : Value).ownBlock ∧ some k_ ≠ ((.slice Ao58 t433.length co58) : Value).ownBlock ∧ some k_ ≠ ((.slice Ao36 t413.length co36) : Value).ownBlock ∧ some k_ ≠ ((.slice Ao37 t416.length co37) : Value).ownBlock ∧ some k_ ≠ ((.slice Ao38 t419.length co38) : Value).ownBlock ∧ k_ ≠ gb407 ∧ k_ ≠ gb408 ∧ k_ ≠ gb424 ∧ k_ ≠ gb425 ∧ k_ ≠ gb432) (.slice (some ad431) t409.length co32) t409) ∧ Aside0 (Kd.R k49 49 w' w.heap.size (fun k_ => some k_ ≠ ((.slice Ao38 t419.length co38) : Value).ownBlock) (.slice Ao58 t433.length co58) t433) ∧ Aside0 (Kd.N k29 29 w' w.heap.size (fun k_ => some k_ ≠ ((.slice (some ⟨go24, 0, none⟩) x11_1.length co24) : Value).ownBlock ∧ some k_ ≠ ((.slice Ao58 t433.length co58) : Value).ownBlock ∧ some k_ ≠ ((.slice Ao36 t413.length co36) : Value).ownBlock ∧ some k_ ≠ ((.slice Ao37 t416.length co37) : Value).ownBlock ∧ some k_ ≠ ((.slice Ao38 t419.length co38) : Value).ownBlock ∧ k_ ≠ gb407 ∧ k_ ≠ gb408 ∧ k_ ≠ gb424 ∧ k_ ≠ gb425 ∧ k_ ≠ gb432) (.slice (some ad431) t409.length co32) t409) ∧ Aside0 (Kd.R (Kd.int .i64) 3 w' w.heap.size (fun k_ => some k_ ≠ ((.slice (some ⟨go24, 0, none⟩) x11_1.length co24) : Value).ownBlock ∧ some k_ ≠ ((.slice Ao37 t416.length co37) : Value).ownBlock) (.slice Ao36 t413.length co36) t413) ∧ Aside0 (Kd.R (Kd.int .i64) 3 w' w.heap.size (fun k_ => some k_ ≠ ((.slice (some ⟨go24, 0, none⟩) x11_1.length co24) : Value).ownBlock ∧ some k_ ≠ ((.slice Ao36 t413.length co36) : Value).ownBlock) (.slice Ao37 t416.length co37) t416) ∧ Aside0 (Kd.R k49 49 w' w.heap.size (fun k_ => some k_ ≠ ((.slice Ao58 t433.length co58) : Value).ownBlock) (.slice Ao38 t419.length co38) t419) ∧ Aside0 (w'.heap[gb407]? = some (.cells #[(.slice A0_0 l0_0.length c0_0), (.slice A0_1 l0_1.length c0_1)] 29 (0, 0))) ∧ Aside0 (w'.heap[gb408]? = some (.cells #[(.slice A1_0 l1_0.length c1_0), (.slice A1_1 l1_1.length c1_1)] 29 (0, 0))) ∧ Aside0 (w'.heap[gb424]? = some (.cells #[(.slice (some ad431) t409.length co32), .map mv_, (.slice Ao36 t413.length co36), (.slice Ao37 t416.length co37), (.slice Ao38 t419.length co38)] 83 (0, 0))) ∧ Aside0 (w'.heap[gb425]? = some O_) ∧ Aside0 (w'.heap[gb432]? = some (.cells #[(.slice A431_0 ((rd_T29 t409 x36_1).f0).length c431_0), (.slice A431_1 ((rd_T29 t409 x36_1).f1).length c431_1)] 29 (0, 0))) ∧ Aside0 (Below w.heap.size w w') ∧ Aside0 (Below w39.heap.size w39 w'))
   case atStart => exact ⟨(x11_1), (0), (by first | rfl | (simp; done) | (simp [*]; done)), H', ⟨Nat.le_refl _⟩, ⟨by (try simp only [hl11_1]); exact HO_11.out⟩, ⟨by (try simp only [hl11_1]); exact Kd.N_mono HO_34.out (fun _ hk => ⟨hk.1.1.1, ⟨hk.2, ⟨hk.1.1.2.1, ⟨hk.1.1.2.2.1, ⟨hk.1.1.2.2.2.1, ⟨hk.1.1.2.2.2.2.1, ⟨hk.1.1.2.2.2.2.2.1, ⟨hk.1.1.2.2.2.2.2.2.1, ⟨hk.1.1.2.2.2.2.2.2.2, hk.1.2⟩⟩⟩⟩⟩⟩⟩⟩⟩)⟩, ⟨by (try simp only [hl11_1]); exact Kd.R_mono HO435.out (fun _ hk => hk.2)⟩, ⟨by (try simp only [hl11_1]); exact Kd.N_mono HO_425000.out (fun _ hk => ⟨hk.1.1.1, ⟨hk.2, ⟨hk.1.1.2.1, ⟨hk.1.1.2.2.1, ⟨hk.1.1.2.2.2.1, ⟨hk.1.1.2.2.2.2.1, ⟨hk.1.1.2.2.2.2.2.1, ⟨hk.1.1.2.2.2.2.2.2.1, ⟨hk.1.1.2.2.2.2.2.2.2, hk.1.2⟩⟩⟩⟩⟩⟩⟩⟩⟩)⟩, ⟨by (try simp only [hl11_1]); exact HO_425002.out⟩, ⟨by (try simp only [hl11_1]); exact HO_425003.out⟩, ⟨by (try simp only [hl11_1]); exact Kd.R_mono HO_425004.out (fun _ hk => hk.2)⟩, ⟨by (try simp only [hl11_1]); exact bk BK407⟩, ⟨by (try simp only [hl11_1]); exact bk BK408⟩, ⟨by (try simp only [hl11_1]); exact bk BK424⟩, ⟨by (try simp only [hl11_1]); exact bkO BK425⟩, ⟨by (try simp only [hl11_1]); exact bk BK432⟩, ⟨bw HB⟩, ⟨bw HBM⟩⟩
   case round =>
    clear H'
    try clear c1
    try clear c2
    try clear p2
    try clear q2
    try clear hx2
    try clear qi2
    try clear c3
    try clear c4
    try clear p4
    try clear q4
    try clear hx4
    try clear c5
    try clear c5b0
    try clear c6
    try clear c8
    try clear c14
    try clear c15
    try clear c21
    try clear c21b0
    try clear c21b1
    try clear c22
    try clear c22b0
    try clear c22b1
    try clear c23
    try clear c23b0
    try clear c23b1
    try clear p24
    try clear q24
    try clear hx24
    try clear qi24
    try clear hf24
    try clear c27
    try clear c33
    try clear c34
    try clear c40
    try clear c41
    try clear c43
    try clear p43
    try clear q43
    try clear hx43
    try clear c47
    try clear c47b0
    try clear c48
    try clear c48b0
    try clear c49
    try clear c49b0
    try clear c52
    try clear c53
    try clear c54
    try clear c55
    try clear hcz10_0
    try clear hcz10_1
    try clear hcz16_0
    try clear hcz16_1
    try clear hcz16_2
    try clear hcz16_3
    try clear hcz16_4
    try clear hcz28_0
    try clear hcz28_1
    try clear hcz29_0
    try clear hcz29_1
    try clear hcz35_0
    try clear hcz35_1
    try clear hcz35_2
    try clear hcz35_3
    try clear hcz35_4
    try clear hcz41_0
    try clear hcz41_1
    try clear hcz41_2
    try clear hcz41_3
    try clear hcz41_4
    try clear hcz46_0
    try clear hcz46_1
    try clear hcz46_2
    try clear hcz46_3
    try clear hcz46_4
    try clear hcz56_0
    try clear hcz56_1
    try clear hcz9_0
    try clear hcz9_1
    try clear hfz10_0
    try clear hfz10_1
    try clear hfz16_0
    try clear hfz16_1
    try clear hfz16_2
    try clear hfz16_3
    try clear hfz16_4
    try clear hfz28_0
    try clear hfz28_1
    try clear hfz29_0
    try clear hfz29_1
    try clear hfz35_0
    try clear hfz35_1
    try clear hfz35_2
    try clear hfz35_3
    try clear hfz35_4
    try clear hfz41_0
    try clear hfz41_1
    try clear hfz41_2
    try clear hfz41_3
    try clear hfz41_4
    try clear hfz46_0
    try clear hfz46_1
    try clear hfz46_2
    try clear hfz46_3
    try clear hfz46_4
    try clear hfz56_0
    try clear hfz56_1
    try clear hfz9_0
    try clear hfz9_1
    try clear hx24_0
    try clear hx431_0
    try clear hx431_1
    try clear p2
    try clear p24
    try clear p431
    try clear q2
    try clear q24
    try clear q431
    obtain ⟨x11_2, x45_2, rfl, HA, HK2, HO_11, HO_34, HO_43, HO_425000, HO_425002, HO_425003, HO_425004, BK407, BK408, BK424, BK425, BK432, HB, HBM⟩ := hrel
    have hl11_2 := (Kd.R_reads' HO_11.out).1
    rw [hl11_2] at HO_11
    (try simp only [hl11_2])
    (try simp only [hl11_2] at BK407)
    (try simp only [hl11_2] at BK408)
    (try simp only [hl11_2] at BK424)
    (try simp only [hl11_2] at BK425)
    (try simp only [hl11_2] at BK432)
    (try simp only [hl11_2] at HO_34)
    (try simp only [hl11_2] at HO_43)
    (try simp only [hl11_2] at HO_425000)
    (try simp only [hl11_2] at HO_425002)
    (try simp only [hl11_2] at HO_425003)
    (try simp only [hl11_2] at HO_425004)
    cases gk with
    | zero => exact absurd HA.out (by simp [impl_CountPlans.l1])
    | succ k2 =>
     have H := HA.out
     clear HA
     simp only [impl_CountPlans.l1] at H
     by_cases c59 : x45_2 < (t433.length : Int)
     rotate_left
     ·rw [if_neg c59] at H
      have c59b0 : decide (x45_2 < (t433.length : Int)) = false := decide_eq_false c59
      clear c59
      have H' := Aside0.mk H
      clear H
      go_wp2
      (try simp only [← hl11_1, ← hl11_2])
      go_roundg k2
      case measure => have := HK1.out; have := HK2.out; omega
      case rel => exact ⟨(x11_2), (wrap64 (x36_1 + 1)), (by first | rfl | (simp; done) | (simp [*]; done)), H', ⟨by have := HK1.out; have := HK2.out; omega⟩, ⟨by (try simp only [hl11_1]); (try simp only [hl11_2]); exact HO_11.out⟩, ⟨by (try simp only [hl11_1]); (try simp only [hl11_2]); exact Kd.N_mono HO_34.out (fun _ hk => ⟨hk.1, ⟨hk.2.2.1, ⟨hk.2.2.2.1, ⟨hk.2.2.2.2.1, ⟨hk.2.2.2.2.2.1, ⟨hk.2.2.2.2.2.2.1, ⟨hk.2.2.2.2.2.2.2.1, hk.2.2.2.2.2.2.2.2.1⟩⟩⟩⟩⟩⟩⟩)⟩, ⟨by (try simp only [hl11_1]); (try simp only [hl11_2]); exact Kd.N_mono HO_425000.out (fun _ hk => ⟨hk.1, ⟨hk.2.2.1, ⟨hk.2.2.2.1, ⟨hk.2.2.2.2.1, ⟨hk.2.2.2.2.2.1, ⟨hk.2.2.2.2.2.2.1, ⟨hk.2.2.2.2.2.2.2.1, hk.2.2.2.2.2.2.2.2.1⟩⟩⟩⟩⟩⟩⟩)⟩, ⟨by (try simp only [hl11_1]); (try simp only [hl11_2]); exact HO_425002.out⟩, ⟨by (try simp only [hl11_1]); (try simp only [hl11_2]); exact HO_425003.out⟩, ⟨by (try simp only [hl11_1]); (try simp only [hl11_2]); exact Kd.R_mono HO_425004.out (fun _ hk => trivial)⟩, ⟨by (try simp only [hl11_1]); (try simp only [hl11_2]); exact bk BK407⟩, ⟨by (try simp only [hl11_1]); (try simp only [hl11_2]); exact bk BK408⟩, ⟨by (try simp only [hl11_1]); (try simp only [hl11_2]); exact bk BK424⟩, ⟨by (try simp only [hl11_1]); (try simp only [hl11_2]); exact bkO BK425⟩, ⟨bw HB⟩, ⟨bw HBM⟩⟩
     rw [if_pos c59] at H
     have c59b0 : decide (x45_2 < (t433.length : Int)) = true := decide_eq_true c59
     clear c59
     by_cases c60 : 0 ≤ x45_2
     rotate_left
     ·rw [if_neg c60] at H
      exact absurd H (by simp)
     rw [if_pos c60] at H
     have c60b0 : decide (0 ≤ x45_2) = true := decide_eq_true c60
     clear c60
     by_cases c61 : x45_2 < (t433.length : Int)
     rotate_left
     ·rw [if_neg c61] at H
      exact absurd H (by simp)
     rw [if_pos c61] at H
     have c61b0 : decide (x45_2 < (t433.length : Int)) = true := decide_eq_true c61
     clear c61
     replace H := Option.bind_eq_some_iff.mp H
     obtain ⟨⟨t438, t441⟩, A620, H⟩ := H
     (try dsimp only at H)
     have A62 := Aside0.mk A620
     clear A620
     replace H := Option.bind_eq_some_iff.mp H
     obtain ⟨⟨t444, t445, t446, t447, t448⟩, A630, H⟩ := H
     (try dsimp only at H)
     have A63 := Aside0.mk A630
     clear A630
     replace H := Option.bind_eq_some_iff.mp H
     obtain ⟨t449, A640, H⟩ := H
     (try dsimp only at H)
     have A64 := Aside0.mk A640
     clear A640
     by_cases c65 : 0 ≤ t449
     rotate_left
     ·rw [if_neg c65] at H
      exact absurd H (by simp)
     rw [if_pos c65] at H
     have c65b0 : decide (0 ≤ t449) = true := decide_eq_true c65
     clear c65
     by_cases c66 : t449 < (t413.length : Int)
     rotate_left
     ·rw [if_neg c66] at H
      exact absurd H (by simp)
     rw [if_pos c66] at H
     have c66b0 : decide (t449 < (t413.length : Int)) = true := decide_eq_true c66
     clear c66
     by_cases c67 : 0 ≤ x36_1
     rotate_left
     ·rw [if_neg c67] at H
      exact absurd H (by simp)
     rw [if_pos c67] at H
     have c67b0 : decide (0 ≤ x36_1) = true := decide_eq_true c67
     clear c67
     by_cases c68 : x36_1 < (t413.length : Int)
     rotate_left
     ·rw [if_neg c68] at H
      exact absurd H (by simp)
     rw [if_pos c68] at H
     have c68b0 : decide (x36_1 < (t413.length : Int)) = true := decide_eq_true c68
     clear c68
     by_cases c69 : (rd t413 t449) = (wrap64 ((rd t413 x36_1) + 1))
     rotate_left
     ·rw [if_neg c69] at H
      have c69b0 : ((rd t413 t449) == (wrap64 ((rd t413 x36_1) + 1))) = false := beq_eq_false_iff_ne.mpr c69
      have c69b1 : ((rd t413 t449) != (wrap64 ((rd t413 x36_1) + 1))) = true := bne_iff_ne.mpr c69
      have H' := Aside0.mk H
      clear H
      have p436 : 0 ≤ (x45_2 : Int) := of_decide_eq_true ‹_›
      have q436 : x45_2 < (t433.length : Int) := of_decide_eq_true ‹_›
      obtain ⟨ad436, e436, hx436_0, hx436_1⟩ := at_T49 (Kd.R_reads' HO_43.out).2.2 x45_2 p436 q436
      cases e436
      replace p436 := eq_true p436
      replace q436 := eq_true q436
      try go_wp2_with (first | ((with_reducible refine gate_dst (N := 15) rfl ?_); refine bx 15 #[.int .i64 0, .int .i64 0] 49 ?_; intro gb437 hg w90 hbox hb; replace HO_11 := rb HO_11 hb; replace HO_34 := Aside0.mk (Kd.N_below (Kd.N_elderB HO_34.out gb437 (Nat.le_of_eq hg.symm)) hb); replace HO_43 := Aside0.mk (Kd.R_below (Kd.R_elderB (rk HO_43) gb437 (Nat.le_of_eq hg.symm)) hb); replace HO_425000 := Aside0.mk (Kd.N_below (Kd.N_elderB HO_425000.out gb437 (Nat.le_of_eq hg.symm)) hb); replace HO_425002 := rb HO_425002 hb; replace HO_425003 := rb HO_425003 hb; replace HO_425004 := Aside0.mk (Kd.R_below (Kd.R_elderB (rk HO_425004) gb437 (Nat.le_of_eq hg.symm)) hb); have BK437 := Aside0.mk (hbox); have GW437 := ge HB hg; have GM437 := ge HBM hg; have GE437 := ge HB hg; replace HB := bs HB hb; replace HBM := bs HBM hb; have NB407_437 := nl BK407 hg; have NB437_407 := nr BK407 hg; replace BK407 := bb BK407 hb; have NB408_437 := nl BK408 hg; have NB437_408 := nr BK408 hg; replace BK408 := bb BK408 hb; have NB424_437 := nl BK424 hg; have NB437_424 := nr BK424 hg; replace BK424 := bb BK424 hb; have NB425_437 := nlO BK425 hg; have NB437_425 := nrO BK425 hg; replace BK425 := bbO BK425 hb; have NB432_437 := nl BK432 hg; have NB437_432 := nr BK432 hg; replace BK432 := bb BK432 hb; clear hb hbox hg; have hnb91 := NB437_407.out; have hnc91 := NB407_437.out; have hnb92 := NB437_408.out; have hnc92 := NB408_437.out; have hnb93 := NB437_424.out; have hnc93 := NB424_437.out; have hnb94 := NB437_425.out; have hnc94 := NB425_437.out; have hnb95 := NB437_432.out; have hnc95 := NB432_437.out; have hcz96_0 := bc0 BK437; have hcz96_1 := bc1 BK437; have hfz96_0 := blk_frozen BK437.out 0; have hfz96_1 := blk_frozen BK437.out 1))
      have n0_ : Aside0 (Kd.R (Kd.int .i64) 3 ((w90.setCell ⟨gb437, 0, none⟩ (.int .i64 ((rd_T49 t433 x45_2).f0))).setCell ⟨gb437, 1, none⟩ (.int .i64 ((rd_T49 t433 x45_2).f1))) w.heap.size (fun k_ => some k_ ≠ (.slice Ao36 t413.length co36 : Value).ownBlock ∧ some k_ ≠ (.slice Ao37 t416.length co37 : Value).ownBlock) (.slice (some ⟨go24, 0, none⟩) x11_2.length co24) x11_2) := ⟨by exact Kd.R_mono (Kd.R_far (p := ⟨gb437, 1, none⟩) (Kd.R_far (p := ⟨gb437, 0, none⟩) (Kd.R_types HO_11.out BK437.out (by decide)) (fun _ hk => hk.2) (.int .i64 ((rd_T49 t433 x45_2).f0))) (fun _ hk => hk.2) (.int .i64 ((rd_T49 t433 x45_2).f1))) (fun _ hk => ⟨hk.1.1, hk.1.2⟩)⟩
      have n1_ : Aside0 (Kd.N k29 29 ((w90.setCell ⟨gb437, 0, none⟩ (.int .i64 ((rd_T49 t433 x45_2).f0))).setCell ⟨gb437, 1, none⟩ (.int .i64 ((rd_T49 t433 x45_2).f1))) w.heap.size (fun k_ => some k_ ≠ (.slice (some ⟨go24, 0, none⟩) x11_2.length co24 : Value).ownBlock ∧ some k_ ≠ (.slice (some ad436) t433.length co58 : Value).ownBlock ∧ some k_ ≠ (.slice Ao36 t413.length co36 : Value).ownBlock ∧ some k_ ≠ (.slice Ao37 t416.length co37 : Value).ownBlock ∧ some k_ ≠ (.slice Ao38 t419.length co38 : Value).ownBlock ∧ k_ ≠ gb407 ∧ k_ ≠ gb408 ∧ k_ ≠ gb424 ∧ k_ ≠ gb425 ∧ k_ ≠ gb432 ∧ k_ ≠ gb437) (.slice (some ad431) t409.length co32) t409) := ⟨by exact Kd.N_mono (Kd.N_far (p := ⟨gb437, 1, none⟩) (Kd.N_far (p := ⟨gb437, 0, none⟩) (Kd.N_mono HO_34.out (fun k_ hk => (⟨hk, hk.2⟩ : _ ∧ k_ ≠ gb437))) (fun _ hk => hk.2) (.int .i64 ((rd_T49 t433 x45_2).f0))) (fun _ hk => hk.2) (.int .i64 ((rd_T49 t433 x45_2).f1))) (fun _ hk => ⟨hk.1.1.1, ⟨hk.1.1.2.1, ⟨hk.1.1.2.2.1, ⟨hk.1.1.2.2.2.1, ⟨hk.1.1.2.2.2.2.1, ⟨hk.1.1.2.2.2.2.2.1, ⟨hk.1.1.2.2.2.2.2.2.1, ⟨hk.1.1.2.2.2.2.2.2.2.1, ⟨hk.1.1.2.2.2.2.2.2.2.2.1, ⟨hk.1.1.2.2.2.2.2.2.2.2.2, hk.1.2⟩⟩⟩⟩⟩⟩⟩⟩⟩⟩)⟩
      have n2_ : Aside0 (Kd.R k49 49 ((w90.setCell ⟨gb437, 0, none⟩ (.int .i64 ((rd_T49 t433 x45_2).f0))).setCell ⟨gb437, 1, none⟩ (.int .i64 ((rd_T49 t433 x45_2).f1))) w.heap.size (fun k_ => some k_ ≠ (.slice Ao38 t419.length co38 : Value).ownBlock ∧ k_ ≠ gb437) (.slice (some ad436) t433.length co58) t433) := ⟨by exact Kd.R_mono (Kd.R_far (p := ⟨gb437, 1, none⟩) (Kd.R_far (p := ⟨gb437, 0, none⟩) (Kd.R_mono HO_43.out (fun k_ hk => (⟨hk, hk.2⟩ : _ ∧ k_ ≠ gb437))) (fun _ hk => hk.2) (.int .i64 ((rd_T49 t433 x45_2).f0))) (fun _ hk => hk.2) (.int .i64 ((rd_T49 t433 x45_2).f1))) (fun _ hk => ⟨hk.1.1, hk.1.2⟩)⟩
      have n3_ : Aside0 (Kd.N k29 29 ((w90.setCell ⟨gb437, 0, none⟩ (.int .i64 ((rd_T49 t433 x45_2).f0))).setCell ⟨gb437, 1, none⟩ (.int .i64 ((rd_T49 t433 x45_2).f1))) w.heap.size (fun k_ => some k_ ≠ (.slice (some ⟨go24, 0, none⟩) x11_2.length co24 : Value).ownBlock ∧ some k_ ≠ (.slice (some ad436) t433.length co58 : Value).ownBlock ∧ some k_ ≠ (.slice Ao36 t413.length co36 : Value).ownBlock ∧ some k_ ≠ (.slice Ao37 t416.length co37 : Value).ownBlock ∧ some k_ ≠ (.slice Ao38 t419.length co38 : Value).ownBlock ∧ k_ ≠ gb407 ∧ k_ ≠ gb408 ∧ k_ ≠ gb424 ∧ k_ ≠ gb425 ∧ k_ ≠ gb432 ∧ k_ ≠ gb437) (.slice (some ad431) t409.length co32) t409) := ⟨by exact Kd.N_mono (Kd.N_far (p := ⟨gb437, 1, none⟩) (Kd.N_far (p := ⟨gb437, 0, none⟩) (Kd.N_mono HO_425000.out (fun k_ hk => (⟨hk, hk.2⟩ : _ ∧ k_ ≠ gb437))) (fun _ hk => hk.2) (.int .i64 ((rd_T49 t433 x45_2).f0))) (fun _ hk => hk.2) (.int .i64 ((rd_T49 t433 x45_2).f1))) (fun _ hk => ⟨hk.1.1.1, ⟨hk.1.1.2.1, ⟨hk.1.1.2.2.1, ⟨hk.1.1.2.2.2.1, ⟨hk.1.1.2.2.2.2.1, ⟨hk.1.1.2.2.2.2.2.1, ⟨hk.1.1.2.2.2.2.2.2.1, ⟨hk.1.1.2.2.2.2.2.2.2.1, ⟨hk.1.1.2.2.2.2.2.2.2.2.1, ⟨hk.1.1.2.2.2.2.2.2.2.2.2, hk.1.2⟩⟩⟩⟩⟩⟩⟩⟩⟩⟩)⟩
      have n4_ : Aside0 (Kd.R (Kd.int .i64) 3 ((w90.setCell ⟨gb437, 0, none⟩ (.int .i64 ((rd_T49 t433 x45_2).f0))).setCell ⟨gb437, 1, none⟩ (.int .i64 ((rd_T49 t433 x45_2).f1))) w.heap.size (fun k_ => some k_ ≠ (.slice (some ⟨go24, 0, none⟩) x11_2.length co24 : Value).ownBlock ∧ some k_ ≠ (.slice Ao37 t416.length co37 : Value).ownBlock) (.slice Ao36 t413.length co36) t413) := ⟨by exact Kd.R_mono (Kd.R_far (p := ⟨gb437, 1, none⟩) (Kd.R_far (p := ⟨gb437, 0, none⟩) (Kd.R_types HO_425002.out BK437.out (by decide)) (fun _ hk => hk.2) (.int .i64 ((rd_T49 t433 x45_2).f0))) (fun _ hk => hk.2) (.int .i64 ((rd_T49 t433 x45_2).f1))) (fun _ hk => ⟨hk.1.1, hk.1.2⟩)⟩
      have n5_ : Aside0 (Kd.R (Kd.int .i64) 3 ((w90.setCell ⟨gb437, 0, none⟩ (.int .i64 ((rd_T49 t433 x45_2).f0))).setCell ⟨gb437, 1, none⟩ (.int .i64 ((rd_T49 t433 x45_2).f1))) w.heap.size (fun k_ => some k_ ≠ (.slice (some ⟨go24, 0, none⟩) x11_2.length co24 : Value).ownBlock ∧ some k_ ≠ (.slice Ao36 t413.length co36 : Value).ownBlock) (.slice Ao37 t416.length co37) t416) := ⟨by exact Kd.R_mono (Kd.R_far (p := ⟨gb437, 1, none⟩) (Kd.R_far (p := ⟨gb437, 0, none⟩) (Kd.R_types HO_425003.out BK437.out (by decide)) (fun _ hk => hk.2) (.int .i64 ((rd_T49 t433 x45_2).f0))) (fun _ hk => hk.2) (.int .i64 ((rd_T49 t433 x45_2).f1))) (fun _ hk => ⟨hk.1.1, hk.1.2⟩)⟩
      have n6_ : Aside0 (Kd.R k49 49 ((w90.setCell ⟨gb437, 0, none⟩ (.int .i64 ((rd_T49 t433 x45_2).f0))).setCell ⟨gb437, 1, none⟩ (.int .i64 ((rd_T49 t433 x45_2).f1))) w.heap.size (fun k_ => some k_ ≠ (.slice (some ad436) t433.length co58 : Value).ownBlock ∧ k_ ≠ gb437) (.slice Ao38 t419.length co38) t419) := ⟨by exact Kd.R_mono (Kd.R_far (p := ⟨gb437, 1, none⟩) (Kd.R_far (p := ⟨gb437, 0, none⟩) (Kd.R_mono HO_425004.out (fun k_ hk => (⟨hk, hk.2⟩ : _ ∧ k_ ≠ gb437))) (fun _ hk => hk.2) (.int .i64 ((rd_T49 t433 x45_2).f0))) (fun _ hk => hk.2) (.int .i64 ((rd_T49 t433 x45_2).f1))) (fun _ hk => ⟨hk.1.1, hk.1.2⟩)⟩
      have n7_ : Aside0 (((w90.setCell ⟨gb437, 0, none⟩ (.int .i64 ((rd_T49 t433 x45_2).f0))).setCell ⟨gb437, 1, none⟩ (.int .i64 ((rd_T49 t433 x45_2).f1))).heap[gb407]? = some (.cells #[.slice A0_0 l0_0.length c0_0, .slice A0_1 l0_1.length c0_1] 29 (0, 0))) := ⟨bk BK407⟩
      have n8_ : Aside0 (((w90.setCell ⟨gb437, 0, none⟩ (.int .i64 ((rd_T49 t433 x45_2).f0))).setCell ⟨gb437, 1, none⟩ (.int .i64 ((rd_T49 t433 x45_2).f1))).heap[gb408]? = some (.cells #[.slice A1_0 l1_0.length c1_0, .slice A1_1 l1_1.length c1_1] 29 (0, 0))) := ⟨bk BK408⟩
      have n9_ : Aside0 (((w90.setCell ⟨gb437, 0, none⟩ (.int .i64 ((rd_T49 t433 x45_2).f0))).setCell ⟨gb437, 1, none⟩ (.int .i64 ((rd_T49 t433 x45_2).f1))).heap[gb424]? = some (.cells #[.slice (some ad431) t409.length co32, .map mv_, .slice Ao36 t413.length co36, .slice Ao37 t416.length co37, .slice Ao38 t419.length co38] 83 (0, 0))) := ⟨bk BK424⟩
      have n10_ : Aside0 (((w90.setCell ⟨gb437, 0, none⟩ (.int .i64 ((rd_T49 t433 x45_2).f0))).setCell ⟨gb437, 1, none⟩ (.int .i64 ((rd_T49 t433 x45_2).f1))).heap[gb425]? = some O_) := ⟨bkO BK425⟩
      have n11_ : Aside0 (((w90.setCell ⟨gb437, 0, none⟩ (.int .i64 ((rd_T49 t433 x45_2).f0))).setCell ⟨gb437, 1, none⟩ (.int .i64 ((rd_T49 t433 x45_2).f1))).heap[gb432]? = some (.cells #[.slice A431_0 ((rd_T29 t409 x36_1).f0).length c431_0, .slice A431_1 ((rd_T29 t409 x36_1).f1).length c431_1] 29 (0, 0))) := ⟨bk BK432⟩
      have n12_ : Aside0 (((w90.setCell ⟨gb437, 0, none⟩ (.int .i64 ((rd_T49 t433 x45_2).f0))).setCell ⟨gb437, 1, none⟩ (.int .i64 ((rd_T49 t433 x45_2).f1))).heap[gb437]? = some (.cells #[.int .i64 ((rd_T49 t433 x45_2).f0), .int .i64 ((rd_T49 t433 x45_2).f1)] 49 (0, 0))) := ⟨by refine blk_put (cs := #[.int .i64 ((rd_T49 t433 x45_2).f0), .int .i64 0]) ?_ 1 _ rfl; refine blk_put (cs := #[.int .i64 0, .int .i64 0]) ?_ 0 _ rfl; exact bk BK437⟩
      have n13_ : Aside0 (Below w.heap.size w ((w90.setCell ⟨gb437, 0, none⟩ (.int .i64 ((rd_T49 t433 x45_2).f0))).setCell ⟨gb437, 1, none⟩ (.int .i64 ((rd_T49 t433 x45_2).f1)))) := ⟨bw HB⟩
      have nm13_ : Aside0 (Below w39.heap.size w39 ((w90.setCell ⟨gb437, 0, none⟩ (.int .i64 ((rd_T49 t433 x45_2).f0))).setCell ⟨gb437, 1, none⟩ (.int .i64 ((rd_T49 t433 x45_2).f1)))) := ⟨bw HBM⟩
      (try clear HO_11); (try clear HO_34); (try clear HO_43); (try clear HO_425000); (try clear HO_425002); (try clear HO_425003); (try clear HO_425004); (try clear BK407); (try clear BK408); (try clear BK424); (try clear BK425); (try clear BK432); (try clear BK437); (try clear HB); (try clear HBM)
      generalize ((w90.setCell ⟨gb437, 0, none⟩ (.int .i64 ((rd_T49 t433 x45_2).f0))).setCell ⟨gb437, 1, none⟩ (.int .i64 ((rd_T49 t433 x45_2).f1))) = w97 at n0_ n1_ n2_ n3_ n4_ n5_ n6_ n7_ n8_ n9_ n10_ n11_ n12_ n13_ nm13_ ⊢
      have HO_11 := n0_
      have HO_34 := n1_
      have HO_43 := n2_
      have HO_425000 := n3_
      have HO_425002 := n4_
      have HO_425003 := n5_
      have HO_425004 := n6_
      have BK407 := n7_
      have BK408 := n8_
      have BK424 := n9_
      have BK425 := n10_
      have BK432 := n11_
      have BK437 := n12_
      have HB := n13_
      have HBM := nm13_
      clear n0_ n1_ n2_ n3_ n4_ n5_ n6_ n7_ n8_ n9_ n10_ n11_ n12_ n13_
      replace HO_11 := Aside0.mk (Kd.R_drew HO_11.out)
      replace HO_34 := Aside0.mk (Kd.N_drew HO_34.out)
      replace HO_43 := Aside0.mk (Kd.R_drew HO_43.out)
      replace HO_425000 := Aside0.mk (Kd.N_drew HO_425000.out)
      replace HO_425002 := Aside0.mk (Kd.R_drew HO_425002.out)
      replace HO_425003 := Aside0.mk (Kd.R_drew HO_425003.out)
      replace HO_425004 := Aside0.mk (Kd.R_drew HO_425004.out)
      replace BK407 := Aside0.mk (blk_drew BK407.out)
      replace BK408 := Aside0.mk (blk_drew BK408.out)
      replace BK424 := Aside0.mk (blk_drew BK424.out)
      replace BK425 := Aside0.mk (blk_drew BK425.out)
      replace BK432 := Aside0.mk (blk_drew BK432.out)
      replace BK437 := Aside0.mk (blk_drew BK437.out)
      replace HB := Aside0.mk (below_drew1 HB.out)
      replace HBM := Aside0.mk (below_drew1 HBM.out)
      refine start_ (n := 8) (S := fun w' => w'.cell? ⟨gb424, 0, none⟩ = some (.slice (some ad431) t409.length co32) ∧ w'.cell? ⟨gb424, 1, none⟩ = some (.map mv_) ∧ w'.cell? ⟨gb424, 2, none⟩ = some (.slice Ao36 t413.length co36) ∧ w'.cell? ⟨gb424, 3, none⟩ = some (.slice Ao37 t416.length co37) ∧ w'.cell? ⟨gb424, 4, none⟩ = some (.slice Ao38 t419.length co38) ∧ w'.cell? ⟨gb432, 0, none⟩ = some (.slice A431_0 ((rd_T29 t409 x36_1).f0).length c431_0) ∧ w'.cell? ⟨gb432, 1, none⟩ = some (.slice A431_1 ((rd_T29 t409 x36_1).f1).length c431_1) ∧ w'.cell? ⟨gb437, 0, none⟩ = some (.int .i64 ((rd_T49 t433 x45_2).f0)) ∧ w'.cell? ⟨gb437, 1, none⟩ = some (.int .i64 ((rd_T49 t433 x45_2).f1))) (ds := []) (bl 8 0) (by kernel_rfl) rfl rfl ⟨bc0 BK424, bc1 BK424, bc2 BK424, bc3 BK424, bc4 BK424, bc0 BK432, bc1 BK432, bc0 BK437, bc1 BK437⟩ (fun hHeld => ?_); refine with_tabW impl_CountPlans.tab12 impl_CountPlans.bits12 (fun HT_ HW_ => ?_)
      generalize w97.drew = w98 at HO_11 HO_34 HO_43 HO_425000 HO_425002 HO_425003 HO_425004 BK407 BK408 BK424 BK425 BK432 BK437 HB HBM hHeld ⊢
      refine pu 0 49 (bl 8 1) HT_.out (v := ?_) (a' := ?_) ?_ ?_ ?_
      rotate_left; (intro w'; go_simp; with_reducible rfl); rotate_left; (simp only [sqa, sqb, sqc, sqd, i64_w, i32_w]; rfl)
      refine tk 1 50 (bl 8 3) HT_.out HW_.out hHeld (v := ?_) (a' := ?_) ?_ ?_ ?_
      rotate_left; (rintro w' ⟨s0, s1, s2, s3, s4, s5, s6, s7, s8⟩; go_simp; with_reducible rfl); rotate_left; (simp only [sqa, sqb, sqc, sqd, i64_w, i32_w]; rfl)
      refine tk 2 51 (bl 8 7) HT_.out HW_.out hHeld (v := ?_) (a' := ?_) ?_ ?_ ?_
      rotate_left; (rintro w' ⟨s0, s1, s2, s3, s4, s5, s6, s7, s8⟩; go_simp; with_reducible rfl); rotate_left; (simp only [sqa, sqb, sqc, sqd, i64_w, i32_w]; rfl)
      refine tk 3 52 (bl 8 15) HT_.out HW_.out hHeld (v := ?_) (a' := ?_) ?_ ?_ ?_
      rotate_left; (rintro w' ⟨s0, s1, s2, s3, s4, s5, s6, s7, s8⟩; go_simp; with_reducible rfl); rotate_left; (simp only [sqa, sqb, sqc, sqd, i64_w, i32_w]; rfl)
      refine on 4 53 (bl 8 31) HT_.out (fun K hK => ?_)
      refine gs Try.func59 #[.agg #[.slice A431_0 ((rd_T29 t409 x36_1).f0).length c431_0, .slice A431_1 ((rd_T29 t409 x36_1).f1).length c431_1], .agg #[.int .i64 ((rd_T49 t433 x45_2).f0), .int .i64 ((rd_T49 t433 x45_2).f1)]] ?_
      with_reducible refine (impl_Vessels_behind.calls _ _ ((rd_T29 t409 x36_1).f0) _ _ ((rd_T29 t409 x36_1).f1) ((rd_T49 t433 x45_2).f0) ((rd_T49 t433 x45_2).f1) t438 t441 _ ?side1 ?side2 ?side3 ?side4 A62.out).mono ?_
      (case side1 => exact Kd.C_below HM431_0.out (bw HBM))
      (case side2 => exact HC431_0.out)
      (case side3 => exact Kd.C_below HM431_1.out (bw HBM))
      (case side4 => exact HC431_1.out)
      rintro e w99 ⟨v439, v442, rfl, ho0, ho1, hb⟩
      refine ⟨_, rfl, ?_⟩
      replace HO_34 := Aside0.mk (Kd.N_mono (Kd.N_told (Kd.N_told (Kd.N_old HO_34.out hb) (Kd.R_base ho0)) (Kd.R_base ho1)) (fun _ h_ => h_.1))
      replace HO_43 := rb HO_43 hb
      replace HO_425000 := Aside0.mk (Kd.N_mono (Kd.N_told (Kd.N_told (Kd.N_old HO_425000.out hb) (Kd.R_base ho0)) (Kd.R_base ho1)) (fun _ h_ => h_.1))
      replace HO_425004 := rb HO_425004 hb
      have HO440 := Aside0.mk (Kd.R_lower (Kd.R_new' (Kd.R_new' (Kd.R_new' ho0 (Kd.R_lt (rk HO_11))) (Kd.R_lt (rk HO_425002))) (Kd.R_lt (rk HO_425003))) (below_size (bw HB)))
      have HO443 := Aside0.mk (Kd.R_lower (Kd.R_new' (Kd.R_new' (Kd.R_new' ho1 (Kd.R_lt (rk HO_11))) (Kd.R_lt (rk HO_425002))) (Kd.R_lt (rk HO_425003))) (below_size (bw HB)))
      replace HO_11 := Aside0.mk (Kd.R_mono (Kd.R_told (Kd.R_told (Kd.R_old (rk HO_11) hb) (Kd.R_base ho0)) (Kd.R_base ho1)) (fun _ h_ => h_.1))
      replace HO_425002 := Aside0.mk (Kd.R_mono (Kd.R_told (Kd.R_told (Kd.R_old (rk HO_425002) hb) (Kd.R_base ho0)) (Kd.R_base ho1)) (fun _ h_ => h_.1))
      replace HO_425003 := Aside0.mk (Kd.R_mono (Kd.R_told (Kd.R_told (Kd.R_old (rk HO_425003) hb) (Kd.R_base ho0)) (Kd.R_base ho1)) (fun _ h_ => h_.1))
      replace BK407 := bb BK407 hb
      replace BK408 := bb BK408 hb
      replace BK424 := bb BK424 hb
      replace BK425 := bbO BK425 hb
      replace BK432 := bb BK432 hb
      replace BK437 := bb BK437 hb
      replace HB := bs HB hb
      replace HBM := bs HBM hb
      (try clear hb); (try clear hb2); (try clear hk); (try clear hi); (try clear ho0); (try clear ho1)
      obtain ⟨Ao100, co100, eo100⟩ := Kd.R_slice HO440.out
      (first | subst eo100 | (injection eo100 with f1_ f2_ f3_; have f4_ := f1_.symm; have f5_ := f3_.symm; clear f1_ f2_ f3_; subst f4_; subst f5_))
      obtain ⟨Ao101, co101, eo101⟩ := Kd.R_slice HO443.out
      (first | subst eo101 | (injection eo101 with f1_ f2_ f3_; have f4_ := f1_.symm; have f5_ := f3_.symm; clear f1_ f2_ f3_; subst f4_; subst f5_))
      refine hK.out _ _ ⟨bc0 BK424, bc1 BK424, bc2 BK424, bc3 BK424, bc4 BK424, bc0 BK432, bc1 BK432, bc0 BK437, bc1 BK437⟩ (fun hHeld => ?_)
      clear hK K
      refine norm_ (a' := ?_) ?_ ?_; rotate_left; (show Act.put _ (some 53) _ = _; simp only [sqa, sqb, sqc, sqd, i64_w, i32_w]; rfl)
      refine on 5 54 (bl 8 63) HT_.out (fun K hK => ?_)
      refine gs Try.func69 #[.agg #[.slice Ao100 t438.length co100, .slice Ao101 t441.length co101]] ?_
      with_reducible refine (impl_keyOf.callsP _ _ t438 _ _ t441 t444 t445 t446 t447 t448 _ ?side1 ?side2 ?side3 ?side4 A63.out).mono ?_
      (case side1 => exact cr HO440)
      (case side2 => exact (Kd.R_reads' HO440.out).2.1)
      (case side3 => exact cr HO443)
      (case side4 => exact (Kd.R_reads' HO443.out).2.1)
      rintro e w102 ⟨rfl, hb⟩
      refine ⟨_, rfl, ?_⟩
      replace HO_11 := rb HO_11 hb
      replace HO_34 := Aside0.mk (Kd.N_below HO_34.out hb)
      replace HO_43 := rb HO_43 hb
      replace HO_425000 := Aside0.mk (Kd.N_below HO_425000.out hb)
      replace HO_425002 := rb HO_425002 hb
      replace HO_425003 := rb HO_425003 hb
      replace HO_425004 := rb HO_425004 hb
      replace HO440 := rb HO440 hb
      replace HO443 := rb HO443 hb
      replace BK407 := bb BK407 hb
      replace BK408 := bb BK408 hb
      replace BK424 := bb BK424 hb
      replace BK425 := bbO BK425 hb
      replace BK432 := bb BK432 hb
      replace BK437 := bb BK437 hb
      replace HB := bs HB hb
      replace HBM := bs HBM hb
      (try clear hb); (try clear hb2); (try clear hk); (try clear hi)
      refine hK.out _ _ ⟨bc0 BK424, bc1 BK424, bc2 BK424, bc3 BK424, bc4 BK424, bc0 BK432, bc1 BK432, bc0 BK437, bc1 BK437⟩ (fun hHeld => ?_)
      clear hK K
      refine norm_ (a' := ?_) ?_ ?_; rotate_left; (show Act.put _ (some 54) _ = _; simp only [sqa, sqb, sqc, sqd, i64_w, i32_w]; rfl)
      refine on 6 55 (bl 8 127) HT_.out (fun K hK => ?_)
      refine look1_step HMO.out (bkO BK425) HMV.out (.tmp 50) (.tmp 54) A64.out rfl rfl ?_
      intro w103 hb
      replace HO_11 := rb HO_11 hb
      replace HO_34 := Aside0.mk (Kd.N_below HO_34.out hb)
      replace HO_43 := rb HO_43 hb
      replace HO_425000 := Aside0.mk (Kd.N_below HO_425000.out hb)
      replace HO_425002 := rb HO_425002 hb
      replace HO_425003 := rb HO_425003 hb
      replace HO_425004 := rb HO_425004 hb
      replace HO440 := rb HO440 hb
      replace HO443 := rb HO443 hb
      replace BK407 := bb BK407 hb
      replace BK408 := bb BK408 hb
      replace BK424 := bb BK424 hb
      replace BK425 := bbO BK425 hb
      replace BK432 := bb BK432 hb
      replace BK437 := bb BK437 hb
      replace HB := bs HB hb
      replace HBM := bs HBM hb
      (try clear hb); (try clear hb2); (try clear hk); (try clear hi)
      refine hK.out _ _ ⟨bc0 BK424, bc1 BK424, bc2 BK424, bc3 BK424, bc4 BK424, bc0 BK432, bc1 BK432, bc0 BK437, bc1 BK437⟩ (fun hHeld => ?_)
      clear hK K
      refine norm_ (a' := ?_) ?_ ?_; rotate_left; (show Act.put _ (some 55) _ = _; simp only [sqa, sqb, sqc, sqd, i64_w, i32_w]; rfl)
      refine pu 7 16 (bl 8 255) HT_.out (v := ?_) (a' := ?_) ?_ ?_ ?_
      rotate_left; (intro w'; go_simp; with_reducible rfl); rotate_left; (simp only [sqa, sqb, sqc, sqd, i64_w, i32_w]; rfl)
      refine done_ (done_of HT_.out (by kernel_rfl)) ?_
      try go_wp2
      replace HO_11 := Aside0.mk (Kd.R_drew HO_11.out)
      replace HO_34 := Aside0.mk (Kd.N_drew HO_34.out)
      replace HO_43 := Aside0.mk (Kd.R_drew HO_43.out)
      replace HO_425000 := Aside0.mk (Kd.N_drew HO_425000.out)
      replace HO_425002 := Aside0.mk (Kd.R_drew HO_425002.out)
      replace HO_425003 := Aside0.mk (Kd.R_drew HO_425003.out)
      replace HO_425004 := Aside0.mk (Kd.R_drew HO_425004.out)
      replace HO440 := Aside0.mk (Kd.R_drew HO440.out)
      replace HO443 := Aside0.mk (Kd.R_drew HO443.out)
      replace BK407 := Aside0.mk (blk_drew BK407.out)
      replace BK408 := Aside0.mk (blk_drew BK408.out)
      replace BK424 := Aside0.mk (blk_drew BK424.out)
      replace BK425 := Aside0.mk (blk_drew BK425.out)
      replace BK432 := Aside0.mk (blk_drew BK432.out)
      replace BK437 := Aside0.mk (blk_drew BK437.out)
      replace HB := Aside0.mk (below_drew1 HB.out)
      replace HBM := Aside0.mk (below_drew1 HBM.out)
      have p450 : 0 ≤ (t449 : Int) := of_decide_eq_true ‹_›
      have q450 : t449 < (t413.length : Int) := of_decide_eq_true ‹_›
      obtain ⟨ad450, e450, hx450_0⟩ := Kd.at_int (Kd.R_reads' HO_425002.out).2.2 t449 p450 q450
      cases e450
      replace p450 := eq_true p450
      replace q450 := eq_true q450
      have p451 : 0 ≤ (x36_1 : Int) := of_decide_eq_true ‹_›
      have q451 : x36_1 < (t413.length : Int) := of_decide_eq_true ‹_›
      obtain ⟨ad451, e451, hx451_0⟩ := Kd.at_int (Kd.R_reads' HO_425002.out).2.2 x36_1 p451 q451
      obtain rfl : ad450 = ad451 := (by injection e451)
      replace p451 := eq_true p451
      replace q451 := eq_true q451
      refine start_ (n := 12) (S := fun w' => w'.cell? ⟨gb424, 0, none⟩ = some (.slice (some ad431) t409.length co32) ∧ w'.cell? ⟨gb424, 1, none⟩ = some (.map mv_) ∧ w'.cell? ⟨gb424, 2, none⟩ = some (.slice (some ad450) t413.length co36) ∧ w'.cell? ⟨gb424, 3, none⟩ = some (.slice Ao37 t416.length co37) ∧ w'.cell? ⟨gb424, 4, none⟩ = some (.slice Ao38 t419.length co38) ∧ w'.cell? (ad450.add (t449).toNat) = some (.int .i64 (rd t413 t449)) ∧ w'.cell? (ad450.add (x36_1).toNat) = some (.int .i64 (rd t413 x36_1))) (ds := []) (bl 12 0) (by kernel_rfl) rfl rfl ⟨bc0 BK424, bc1 BK424, bc2 BK424, bc3 BK424, bc4 BK424, hx450_0, hx451_0⟩ (fun hHeld => ?_); refine with_tabW impl_CountPlans.tab13 impl_CountPlans.bits13 (fun HT_ HW_ => ?_)
      generalize w103.drew = w104 at HO_11 HO_34 HO_43 HO_425000 HO_425002 HO_425003 HO_425004 HO440 HO443 BK407 BK408 BK424 BK425 BK432 BK437 HB HBM hx450_0 hx451_0 hHeld ⊢
      refine pu 0 56 (bl 12 1) HT_.out (v := ?_) (a' := ?_) ?_ ?_ ?_
      rotate_left; (intro w'; go_simp; with_reducible rfl); rotate_left; (simp only [sqa, sqb, sqc, sqd, i64_w, i32_w]; rfl)
      refine pu 2 58 (bl 12 5) HT_.out (v := ?_) (a' := ?_) ?_ ?_ ?_
      rotate_left; (intro w'; go_simp; with_reducible rfl); rotate_left; (simp only [sqa, sqb, sqc, sqd, i64_w, i32_w]; rfl)
      refine pu 5 61 (bl 12 37) HT_.out (v := ?_) (a' := ?_) ?_ ?_ ?_
      rotate_left; (intro w'; go_simp; with_reducible rfl); rotate_left; (simp only [sqa, sqb, sqc, sqd, i64_w, i32_w]; rfl)
      refine pu 7 63 (bl 12 165) HT_.out (v := ?_) (a' := ?_) ?_ ?_ ?_
      rotate_left; (intro w'; go_simp; with_reducible rfl); rotate_left; (simp only [sqa, sqb, sqc, sqd, i64_w, i32_w]; rfl)
      refine tk 1 57 (bl 12 167) HT_.out HW_.out hHeld (v := ?_) (a' := ?_) ?_ ?_ ?_
      rotate_left; (rintro w' ⟨s0, s1, s2, s3, s4, s5, s6⟩; go_simp; with_reducible rfl); rotate_left; (simp only [sqa, sqb, sqc, sqd, i64_w, i32_w]; rfl)
      refine pu 3 59 (bl 12 175) HT_.out (v := ?_) (a' := ?_) ?_ ?_ ?_
      rotate_left; (intro w'; go_simp; with_reducible rfl); rotate_left; (simp only [sqa, sqb, sqc, sqd, i64_w, i32_w]; rfl)
      refine tk 4 60 (bl 12 191) HT_.out HW_.out hHeld (v := ?_) (a' := ?_) ?_ ?_ ?_
      rotate_left; (rintro w' ⟨s0, s1, s2, s3, s4, s5, s6⟩; go_simp; with_reducible rfl); rotate_left; (simp only [sqa, sqb, sqc, sqd, i64_w, i32_w]; rfl)
      refine tk 6 62 (bl 12 255) HT_.out HW_.out hHeld (v := ?_) (a' := ?_) ?_ ?_ ?_
      rotate_left; (rintro w' ⟨s0, s1, s2, s3, s4, s5, s6⟩; go_simp; with_reducible rfl); rotate_left; (simp only [sqa, sqb, sqc, sqd, i64_w, i32_w]; rfl)
      refine pu 8 64 (bl 12 511) HT_.out (v := ?_) (a' := ?_) ?_ ?_ ?_
      rotate_left; (intro w'; go_simp; with_reducible rfl); rotate_left; (simp only [sqa, sqb, sqc, sqd, i64_w, i32_w]; rfl)
      refine tk 9 65 (bl 12 1023) HT_.out HW_.out hHeld (v := ?_) (a' := ?_) ?_ ?_ ?_
      rotate_left; (rintro w' ⟨s0, s1, s2, s3, s4, s5, s6⟩; go_simp; with_reducible rfl); rotate_left; (simp only [sqa, sqb, sqc, sqd, i64_w, i32_w]; rfl)
      refine pu 10 66 (bl 12 2047) HT_.out (v := ?_) (a' := ?_) ?_ ?_ ?_
      rotate_left; (intro w'; go_simp; with_reducible rfl); rotate_left; (simp only [sqa, sqb, sqc, sqd, i64_w, i32_w]; rfl)
      refine pu 11 67 (bl 12 4095) HT_.out (v := ?_) (a' := ?_) ?_ ?_ ?_
      rotate_left; (intro w'; go_simp; with_reducible rfl); rotate_left; (simp only [sqa, sqb, sqc, sqd, i64_w, i32_w]; rfl)
      refine done_ (done_of HT_.out (by kernel_rfl)) ?_
      try go_wp2
      (try simp only [← hl11_2])
      go_roundg k2
      case measure => have := HK1.out; have := HK2.out; omega
      case rel => exact ⟨(x11_2), (wrap64 (x45_2 + 1)), (by first | rfl | (simp; done) | (simp [*]; done)), H', ⟨by have := HK1.out; have := HK2.out; omega⟩, ⟨by (try simp only [hl11_1]); (try simp only [hl11_2]); exact Kd.R_mono HO_11.out (fun _ hk => ⟨hk.1.1.1, hk.1.1.2⟩)⟩, ⟨by (try simp only [hl11_1]); (try simp only [hl11_2]); exact Kd.N_mono HO_34.out (fun _ hk => ⟨hk.1.1.1, ⟨hk.1.1.2.1, ⟨hk.1.1.2.2.1, ⟨hk.1.1.2.2.2.1, ⟨hk.1.1.2.2.2.2.1, ⟨hk.1.1.2.2.2.2.2.1, ⟨hk.1.1.2.2.2.2.2.2.1, ⟨hk.1.1.2.2.2.2.2.2.2.1, ⟨hk.1.1.2.2.2.2.2.2.2.2.1, hk.1.1.2.2.2.2.2.2.2.2.2.1⟩⟩⟩⟩⟩⟩⟩⟩⟩)⟩, ⟨by (try simp only [hl11_1]); (try simp only [hl11_2]); exact Kd.R_mono HO_43.out (fun _ hk => hk.1)⟩, ⟨by (try simp only [hl11_1]); (try simp only [hl11_2]); exact Kd.N_mono HO_425000.out (fun _ hk => ⟨hk.1.1.1, ⟨hk.1.1.2.1, ⟨hk.1.1.2.2.1, ⟨hk.1.1.2.2.2.1, ⟨hk.1.1.2.2.2.2.1, ⟨hk.1.1.2.2.2.2.2.1, ⟨hk.1.1.2.2.2.2.2.2.1, ⟨hk.1.1.2.2.2.2.2.2.2.1, ⟨hk.1.1.2.2.2.2.2.2.2.2.1, hk.1.1.2.2.2.2.2.2.2.2.2.1⟩⟩⟩⟩⟩⟩⟩⟩⟩)⟩, ⟨by (try simp only [hl11_1]); (try simp only [hl11_2]); exact Kd.R_mono HO_425002.out (fun _ hk => ⟨hk.1.1.1, hk.1.1.2⟩)⟩, ⟨by (try simp only [hl11_1]); (try simp only [hl11_2]); exact Kd.R_mono HO_425003.out (fun _ hk => ⟨hk.1.1.1, hk.1.1.2⟩)⟩, ⟨by (try simp only [hl11_1]); (try simp only [hl11_2]); exact Kd.R_mono HO_425004.out (fun _ hk => hk.1)⟩, ⟨by (try simp only [hl11_1]); (try simp only [hl11_2]); exact bk BK407⟩, ⟨by (try simp only [hl11_1]); (try simp only [hl11_2]); exact bk BK408⟩, ⟨by (try simp only [hl11_1]); (try simp only [hl11_2]); exact bk BK424⟩, ⟨by (try simp only [hl11_1]); (try simp only [hl11_2]); exact bkO BK425⟩, ⟨by (try simp only [hl11_1]); (try simp only [hl11_2]); exact bk BK432⟩, ⟨bw HB⟩, ⟨bw HBM⟩⟩
     rw [if_pos c69] at H
     have c69b0 : ((rd t413 t449) == (wrap64 ((rd t413 x36_1) + 1))) = true := beq_iff_eq.mpr c69
     have c69b1 : ((rd t413 t449) != (wrap64 ((rd t413 x36_1) + 1))) = false := bne_eq_false_iff_eq.mpr c69
     clear c69
     by_cases c70 : t449 < (x11_2.length : Int)
     rotate_left
     ·rw [if_neg c70] at H
      exact absurd H (by simp)
     rw [if_pos c70] at H
     have c70b0 : decide (t449 < (x11_2.length : Int)) = true := decide_eq_true c70
     clear c70
     by_cases c71 : x36_1 < (x11_2.length : Int)
     rotate_left
     ·rw [if_neg c71] at H
      exact absurd H (by simp)
     rw [if_pos c71] at H
     have c71b0 : decide (x36_1 < (x11_2.length : Int)) = true := decide_eq_true c71
     clear c71
     obtain ⟨y454, hy454⟩ : ∃ y_ : List Int, y_ = (x11_2.set (t449 : Int).toNat (wrap64 ((rd x11_2 t449) + (rd x11_2 x36_1)))) := ⟨_, rfl⟩
     replace H : (impl_CountPlans.l1 k2 a2 t422 y454 x36_1 t409 (t409.length : Int) x36_1 t433 (t433.length : Int) (wrap64 (x45_2 + 1)) t409 t412 t413 t416 t419 ((rd_T29 t409 x36_1).f0) ((rd_T29 t409 x36_1).f1)) = some (r1, r2) := by first | (rw [hy454]; with_reducible exact H) | (have H2_ := (Option.bind_some _ _).symm.trans H; rw [hy454]; with_reducible exact H2_) | (have H2_ := (Option.bind_some _ _).symm.trans H; with_reducible exact H2_) | with_reducible exact H | (rw [hy454]; exact H) | exact H
     have Ny454 := Aside0.mk hy454
     clear hy454
     have H' := Aside0.mk H
     clear H
     have p436 : 0 ≤ (x45_2 : Int) := of_decide_eq_true ‹_›
     have q436 : x45_2 < (t433.length : Int) := of_decide_eq_true ‹_›
     obtain ⟨ad436, e436, hx436_0, hx436_1⟩ := at_T49 (Kd.R_reads' HO_43.out).2.2 x45_2 p436 q436
     cases e436
     replace p436 := eq_true p436
     replace q436 := eq_true q436
     try go_wp2_with (first | ((with_reducible refine gate_dst (N := 15) rfl ?_); refine bx 15 #[.int .i64 0, .int .i64 0] 49 ?_; intro gb437 hg w73 hbox hb; replace HO_11 := rb HO_11 hb; replace HO_34 := Aside0.mk (Kd.N_below (Kd.N_elderB HO_34.out gb437 (Nat.le_of_eq hg.symm)) hb); replace HO_43 := Aside0.mk (Kd.R_below (Kd.R_elderB (rk HO_43) gb437 (Nat.le_of_eq hg.symm)) hb); replace HO_425000 := Aside0.mk (Kd.N_below (Kd.N_elderB HO_425000.out gb437 (Nat.le_of_eq hg.symm)) hb); replace HO_425002 := rb HO_425002 hb; replace HO_425003 := rb HO_425003 hb; replace HO_425004 := Aside0.mk (Kd.R_below (Kd.R_elderB (rk HO_425004) gb437 (Nat.le_of_eq hg.symm)) hb); have BK437 := Aside0.mk (hbox); have GW437 := ge HB hg; have GM437 := ge HBM hg; have GE437 := ge HB hg; replace HB := bs HB hb; replace HBM := bs HBM hb; have NB407_437 := nl BK407 hg; have NB437_407 := nr BK407 hg; replace BK407 := bb BK407 hb; have NB408_437 := nl BK408 hg; have NB437_408 := nr BK408 hg; replace BK408 := bb BK408 hb; have NB424_437 := nl BK424 hg; have NB437_424 := nr BK424 hg; replace BK424 := bb BK424 hb; have NB425_437 := nlO BK425 hg; have NB437_425 := nrO BK425 hg; replace BK425 := bbO BK425 hb; have NB432_437 := nl BK432 hg; have NB437_432 := nr BK432 hg; replace BK432 := bb BK432 hb; clear hb hbox hg; have hnb74 := NB437_407.out; have hnc74 := NB407_437.out; have hnb75 := NB437_408.out; have hnc75 := NB408_437.out; have hnb76 := NB437_424.out; have hnc76 := NB424_437.out; have hnb77 := NB437_425.out; have hnc77 := NB425_437.out; have hnb78 := NB437_432.out; have hnc78 := NB432_437.out; have hcz79_0 := bc0 BK437; have hcz79_1 := bc1 BK437; have hfz79_0 := blk_frozen BK437.out 0; have hfz79_1 := blk_frozen BK437.out 1))
     have n0_ : Aside0 (Kd.R (Kd.int .i64) 3 ((w73.setCell ⟨gb437, 0, none⟩ (.int .i64 ((rd_T49 t433 x45_2).f0))).setCell ⟨gb437, 1, none⟩ (.int .i64 ((rd_T49 t433 x45_2).f1))) w.heap.size (fun k_ => some k_ ≠ (.slice Ao36 t413.length co36 : Value).ownBlock ∧ some k_ ≠ (.slice Ao37 t416.length co37 : Value).ownBlock) (.slice (some ⟨go24, 0, none⟩) x11_2.length co24) x11_2) := ⟨by exact Kd.R_mono (Kd.R_far (p := ⟨gb437, 1, none⟩) (Kd.R_far (p := ⟨gb437, 0, none⟩) (Kd.R_types HO_11.out BK437.out (by decide)) (fun _ hk => hk.2) (.int .i64 ((rd_T49 t433 x45_2).f0))) (fun _ hk => hk.2) (.int .i64 ((rd_T49 t433 x45_2).f1))) (fun _ hk => ⟨hk.1.1, hk.1.2⟩)⟩
     have n1_ : Aside0 (Kd.N k29 29 ((w73.setCell ⟨gb437, 0, none⟩ (.int .i64 ((rd_T49 t433 x45_2).f0))).setCell ⟨gb437, 1, none⟩ (.int .i64 ((rd_T49 t433 x45_2).f1))) w.heap.size (fun k_ => some k_ ≠ (.slice (some ⟨go24, 0, none⟩) x11_2.length co24 : Value).ownBlock ∧ some k_ ≠ (.slice (some ad436) t433.length co58 : Value).ownBlock ∧ some k_ ≠ (.slice Ao36 t413.length co36 : Value).ownBlock ∧ some k_ ≠ (.slice Ao37 t416.length co37 : Value).ownBlock ∧ some k_ ≠ (.slice Ao38 t419.length co38 : Value).ownBlock ∧ k_ ≠ gb407 ∧ k_ ≠ gb408 ∧ k_ ≠ gb424 ∧ k_ ≠ gb425 ∧ k_ ≠ gb432 ∧ k_ ≠ gb437) (.slice (some ad431) t409.length co32) t409) := ⟨by exact Kd.N_mono (Kd.N_far (p := ⟨gb437, 1, none⟩) (Kd.N_far (p := ⟨gb437, 0, none⟩) (Kd.N_mono HO_34.out (fun k_ hk => (⟨hk, hk.2⟩ : _ ∧ k_ ≠ gb437))) (fun _ hk => hk.2) (.int .i64 ((rd_T49 t433 x45_2).f0))) (fun _ hk => hk.2) (.int .i64 ((rd_T49 t433 x45_2).f1))) (fun _ hk => ⟨hk.1.1.1, ⟨hk.1.1.2.1, ⟨hk.1.1.2.2.1, ⟨hk.1.1.2.2.2.1, ⟨hk.1.1.2.2.2.2.1, ⟨hk.1.1.2.2.2.2.2.1, ⟨hk.1.1.2.2.2.2.2.2.1, ⟨hk.1.1.2.2.2.2.2.2.2.1, ⟨hk.1.1.2.2.2.2.2.2.2.2.1, ⟨hk.1.1.2.2.2.2.2.2.2.2.2, hk.1.2⟩⟩⟩⟩⟩⟩⟩⟩⟩⟩)⟩
     have n2_ : Aside0 (Kd.R k49 49 ((w73.setCell ⟨gb437, 0, none⟩ (.int .i64 ((rd_T49 t433 x45_2).f0))).setCell ⟨gb437, 1, none⟩ (.int .i64 ((rd_T49 t433 x45_2).f1))) w.heap.size (fun k_ => some k_ ≠ (.slice Ao38 t419.length co38 : Value).ownBlock ∧ k_ ≠ gb437) (.slice (some ad436) t433.length co58) t433) := ⟨by exact Kd.R_mono (Kd.R_far (p := ⟨gb437, 1, none⟩) (Kd.R_far (p := ⟨gb437, 0, none⟩) (Kd.R_mono HO_43.out (fun k_ hk => (⟨hk, hk.2⟩ : _ ∧ k_ ≠ gb437))) (fun _ hk => hk.2) (.int .i64 ((rd_T49 t433 x45_2).f0))) (fun _ hk => hk.2) (.int .i64 ((rd_T49 t433 x45_2).f1))) (fun _ hk => ⟨hk.1.1, hk.1.2⟩)⟩
     have n3_ : Aside0 (Kd.N k29 29 ((w73.setCell ⟨gb437, 0, none⟩ (.int .i64 ((rd_T49 t433 x45_2).f0))).setCell ⟨gb437, 1, none⟩ (.int .i64 ((rd_T49 t433 x45_2).f1))) w.heap.size (fun k_ => some k_ ≠ (.slice (some ⟨go24, 0, none⟩) x11_2.length co24 : Value).ownBlock ∧ some k_ ≠ (.slice (some ad436) t433.length co58 : Value).ownBlock ∧ some k_ ≠ (.slice Ao36 t413.length co36 : Value).ownBlock ∧ some k_ ≠ (.slice Ao37 t416.length co37 : Value).ownBlock ∧ some k_ ≠ (.slice Ao38 t419.length co38 : Value).ownBlock ∧ k_ ≠ gb407 ∧ k_ ≠ gb408 ∧ k_ ≠ gb424 ∧ k_ ≠ gb425 ∧ k_ ≠ gb432 ∧ k_ ≠ gb437) (.slice (some ad431) t409.length co32) t409) := ⟨by exact Kd.N_mono (Kd.N_far (p := ⟨gb437, 1, none⟩) (Kd.N_far (p := ⟨gb437, 0, none⟩) (Kd.N_mono HO_425000.out (fun k_ hk => (⟨hk, hk.2⟩ : _ ∧ k_ ≠ gb437))) (fun _ hk => hk.2) (.int .i64 ((rd_T49 t433 x45_2).f0))) (fun _ hk => hk.2) (.int .i64 ((rd_T49 t433 x45_2).f1))) (fun _ hk => ⟨hk.1.1.1, ⟨hk.1.1.2.1, ⟨hk.1.1.2.2.1, ⟨hk.1.1.2.2.2.1, ⟨hk.1.1.2.2.2.2.1, ⟨hk.1.1.2.2.2.2.2.1, ⟨hk.1.1.2.2.2.2.2.2.1, ⟨hk.1.1.2.2.2.2.2.2.2.1, ⟨hk.1.1.2.2.2.2.2.2.2.2.1, ⟨hk.1.1.2.2.2.2.2.2.2.2.2, hk.1.2⟩⟩⟩⟩⟩⟩⟩⟩⟩⟩)⟩
     have n4_ : Aside0 (Kd.R (Kd.int .i64) 3 ((w73.setCell ⟨gb437, 0, none⟩ (.int .i64 ((rd_T49 t433 x45_2).f0))).setCell ⟨gb437, 1, none⟩ (.int .i64 ((rd_T49 t433 x45_2).f1))) w.heap.size (fun k_ => some k_ ≠ (.slice (some ⟨go24, 0, none⟩) x11_2.length co24 : Value).ownBlock ∧ some k_ ≠ (.slice Ao37 t416.length co37 : Value).ownBlock) (.slice Ao36 t413.length co36) t413) := ⟨by exact Kd.R_mono (Kd.R_far (p := ⟨gb437, 1, none⟩) (Kd.R_far (p := ⟨gb437, 0, none⟩) (Kd.R_types HO_425002.out BK437.out (by decide)) (fun _ hk => hk.2) (.int .i64 ((rd_T49 t433 x45_2).f0))) (fun _ hk => hk.2) (.int .i64 ((rd_T49 t433 x45_2).f1))) (fun _ hk => ⟨hk.1.1, hk.1.2⟩)⟩
     have n5_ : Aside0 (Kd.R (Kd.int .i64) 3 ((w73.setCell ⟨gb437, 0, none⟩ (.int .i64 ((rd_T49 t433 x45_2).f0))).setCell ⟨gb437, 1, none⟩ (.int .i64 ((rd_T49 t433 x45_2).f1))) w.heap.size (fun k_ => some k_ ≠ (.slice (some ⟨go24, 0, none⟩) x11_2.length co24 : Value).ownBlock ∧ some k_ ≠ (.slice Ao36 t413.length co36 : Value).ownBlock) (.slice Ao37 t416.length co37) t416) := ⟨by exact Kd.R_mono (Kd.R_far (p := ⟨gb437, 1, none⟩) (Kd.R_far (p := ⟨gb437, 0, none⟩) (Kd.R_types HO_425003.out BK437.out (by decide)) (fun _ hk => hk.2) (.int .i64 ((rd_T49 t433 x45_2).f0))) (fun _ hk => hk.2) (.int .i64 ((rd_T49 t433 x45_2).f1))) (fun _ hk => ⟨hk.1.1, hk.1.2⟩)⟩
     have n6_ : Aside0 (Kd.R k49 49 ((w73.setCell ⟨gb437, 0, none⟩ (.int .i64 ((rd_T49 t433 x45_2).f0))).setCell ⟨gb437, 1, none⟩ (.int .i64 ((rd_T49 t433 x45_2).f1))) w.heap.size (fun k_ => some k_ ≠ (.slice (some ad436) t433.length co58 : Value).ownBlock ∧ k_ ≠ gb437) (.slice Ao38 t419.length co38) t419) := ⟨by exact Kd.R_mono (Kd.R_far (p := ⟨gb437, 1, none⟩) (Kd.R_far (p := ⟨gb437, 0, none⟩) (Kd.R_mono HO_425004.out (fun k_ hk => (⟨hk, hk.2⟩ : _ ∧ k_ ≠ gb437))) (fun _ hk => hk.2) (.int .i64 ((rd_T49 t433 x45_2).f0))) (fun _ hk => hk.2) (.int .i64 ((rd_T49 t433 x45_2).f1))) (fun _ hk => ⟨hk.1.1, hk.1.2⟩)⟩
     have n7_ : Aside0 (((w73.setCell ⟨gb437, 0, none⟩ (.int .i64 ((rd_T49 t433 x45_2).f0))).setCell ⟨gb437, 1, none⟩ (.int .i64 ((rd_T49 t433 x45_2).f1))).heap[gb407]? = some (.cells #[.slice A0_0 l0_0.length c0_0, .slice A0_1 l0_1.length c0_1] 29 (0, 0))) := ⟨bk BK407⟩
     have n8_ : Aside0 (((w73.setCell ⟨gb437, 0, none⟩ (.int .i64 ((rd_T49 t433 x45_2).f0))).setCell ⟨gb437, 1, none⟩ (.int .i64 ((rd_T49 t433 x45_2).f1))).heap[gb408]? = some (.cells #[.slice A1_0 l1_0.length c1_0, .slice A1_1 l1_1.length c1_1] 29 (0, 0))) := ⟨bk BK408⟩
     have n9_ : Aside0 (((w73.setCell ⟨gb437, 0, none⟩ (.int .i64 ((rd_T49 t433 x45_2).f0))).setCell ⟨gb437, 1, none⟩ (.int .i64 ((rd_T49 t433 x45_2).f1))).heap[gb424]? = some (.cells #[.slice (some ad431) t409.length co32, .map mv_, .slice Ao36 t413.length co36, .slice Ao37 t416.length co37, .slice Ao38 t419.length co38] 83 (0, 0))) := ⟨bk BK424⟩
     have n10_ : Aside0 (((w73.setCell ⟨gb437, 0, none⟩ (.int .i64 ((rd_T49 t433 x45_2).f0))).setCell ⟨gb437, 1, none⟩ (.int .i64 ((rd_T49 t433 x45_2).f1))).heap[gb425]? = some O_) := ⟨bkO BK425⟩
     have n11_ : Aside0 (((w73.setCell ⟨gb437, 0, none⟩ (.int .i64 ((rd_T49 t433 x45_2).f0))).setCell ⟨gb437, 1, none⟩ (.int .i64 ((rd_T49 t433 x45_2).f1))).heap[gb432]? = some (.cells #[.slice A431_0 ((rd_T29 t409 x36_1).f0).length c431_0, .slice A431_1 ((rd_T29 t409 x36_1).f1).length c431_1] 29 (0, 0))) := ⟨bk BK432⟩
     have n12_ : Aside0 (((w73.setCell ⟨gb437, 0, none⟩ (.int .i64 ((rd_T49 t433 x45_2).f0))).setCell ⟨gb437, 1, none⟩ (.int .i64 ((rd_T49 t433 x45_2).f1))).heap[gb437]? = some (.cells #[.int .i64 ((rd_T49 t433 x45_2).f0), .int .i64 ((rd_T49 t433 x45_2).f1)] 49 (0, 0))) := ⟨by refine blk_put (cs := #[.int .i64 ((rd_T49 t433 x45_2).f0), .int .i64 0]) ?_ 1 _ rfl; refine blk_put (cs := #[.int .i64 0, .int .i64 0]) ?_ 0 _ rfl; exact bk BK437⟩
     have n13_ : Aside0 (Below w.heap.size w ((w73.setCell ⟨gb437, 0, none⟩ (.int .i64 ((rd_T49 t433 x45_2).f0))).setCell ⟨gb437, 1, none⟩ (.int .i64 ((rd_T49 t433 x45_2).f1)))) := ⟨bw HB⟩
     have nm13_ : Aside0 (Below w39.heap.size w39 ((w73.setCell ⟨gb437, 0, none⟩ (.int .i64 ((rd_T49 t433 x45_2).f0))).setCell ⟨gb437, 1, none⟩ (.int .i64 ((rd_T49 t433 x45_2).f1)))) := ⟨bw HBM⟩
     (try clear HO_11); (try clear HO_34); (try clear HO_43); (try clear HO_425000); (try clear HO_425002); (try clear HO_425003); (try clear HO_425004); (try clear BK407); (try clear BK408); (try clear BK424); (try clear BK425); (try clear BK432); (try clear BK437); (try clear HB); (try clear HBM)
     generalize ((w73.setCell ⟨gb437, 0, none⟩ (.int .i64 ((rd_T49 t433 x45_2).f0))).setCell ⟨gb437, 1, none⟩ (.int .i64 ((rd_T49 t433 x45_2).f1))) = w80 at n0_ n1_ n2_ n3_ n4_ n5_ n6_ n7_ n8_ n9_ n10_ n11_ n12_ n13_ nm13_ ⊢
     have HO_11 := n0_
     have HO_34 := n1_
     have HO_43 := n2_
     have HO_425000 := n3_
     have HO_425002 := n4_
     have HO_425003 := n5_
     have HO_425004 := n6_
     have BK407 := n7_
     have BK408 := n8_
     have BK424 := n9_
     have BK425 := n10_
     have BK432 := n11_
     have BK437 := n12_
     have HB := n13_
     have HBM := nm13_
     clear n0_ n1_ n2_ n3_ n4_ n5_ n6_ n7_ n8_ n9_ n10_ n11_ n12_ n13_
     replace HO_11 := Aside0.mk (Kd.R_drew HO_11.out)
     replace HO_34 := Aside0.mk (Kd.N_drew HO_34.out)
     replace HO_43 := Aside0.mk (Kd.R_drew HO_43.out)
     replace HO_425000 := Aside0.mk (Kd.N_drew HO_425000.out)
     replace HO_425002 := Aside0.mk (Kd.R_drew HO_425002.out)
     replace HO_425003 := Aside0.mk (Kd.R_drew HO_425003.out)
     replace HO_425004 := Aside0.mk (Kd.R_drew HO_425004.out)
     replace BK407 := Aside0.mk (blk_drew BK407.out)
     replace BK408 := Aside0.mk (blk_drew BK408.out)
     replace BK424 := Aside0.mk (blk_drew BK424.out)
     replace BK425 := Aside0.mk (blk_drew BK425.out)
     replace BK432 := Aside0.mk (blk_drew BK432.out)
     replace BK437 := Aside0.mk (blk_drew BK437.out)
     replace HB := Aside0.mk (below_drew1 HB.out)
     replace HBM := Aside0.mk (below_drew1 HBM.out)
     refine start_ (n := 8) (S := fun w' => w'.cell? ⟨gb424, 0, none⟩ = some (.slice (some ad431) t409.length co32) ∧ w'.cell? ⟨gb424, 1, none⟩ = some (.map mv_) ∧ w'.cell? ⟨gb424, 2, none⟩ = some (.slice Ao36 t413.length co36) ∧ w'.cell? ⟨gb424, 3, none⟩ = some (.slice Ao37 t416.length co37) ∧ w'.cell? ⟨gb424, 4, none⟩ = some (.slice Ao38 t419.length co38) ∧ w'.cell? ⟨gb432, 0, none⟩ = some (.slice A431_0 ((rd_T29 t409 x36_1).f0).length c431_0) ∧ w'.cell? ⟨gb432, 1, none⟩ = some (.slice A431_1 ((rd_T29 t409 x36_1).f1).length c431_1) ∧ w'.cell? ⟨gb437, 0, none⟩ = some (.int .i64 ((rd_T49 t433 x45_2).f0)) ∧ w'.cell? ⟨gb437, 1, none⟩ = some (.int .i64 ((rd_T49 t433 x45_2).f1))) (ds := []) (bl 8 0) (by kernel_rfl) rfl rfl ⟨bc0 BK424, bc1 BK424, bc2 BK424, bc3 BK424, bc4 BK424, bc0 BK432, bc1 BK432, bc0 BK437, bc1 BK437⟩ (fun hHeld => ?_); refine with_tabW impl_CountPlans.tab12 impl_CountPlans.bits12 (fun HT_ HW_ => ?_)
     generalize w80.drew = w81 at HO_11 HO_34 HO_43 HO_425000 HO_425002 HO_425003 HO_425004 BK407 BK408 BK424 BK425 BK432 BK437 HB HBM hHeld ⊢
     refine pu 0 49 (bl 8 1) HT_.out (v := ?_) (a' := ?_) ?_ ?_ ?_
     rotate_left; (intro w'; go_simp; with_reducible rfl); rotate_left; (simp only [sqa, sqb, sqc, sqd, i64_w, i32_w]; rfl)
     refine tk 1 50 (bl 8 3) HT_.out HW_.out hHeld (v := ?_) (a' := ?_) ?_ ?_ ?_
     rotate_left; (rintro w' ⟨s0, s1, s2, s3, s4, s5, s6, s7, s8⟩; go_simp; with_reducible rfl); rotate_left; (simp only [sqa, sqb, sqc, sqd, i64_w, i32_w]; rfl)
     refine tk 2 51 (bl 8 7) HT_.out HW_.out hHeld (v := ?_) (a' := ?_) ?_ ?_ ?_
     rotate_left; (rintro w' ⟨s0, s1, s2, s3, s4, s5, s6, s7, s8⟩; go_simp; with_reducible rfl); rotate_left; (simp only [sqa, sqb, sqc, sqd, i64_w, i32_w]; rfl)
     refine tk 3 52 (bl 8 15) HT_.out HW_.out hHeld (v := ?_) (a' := ?_) ?_ ?_ ?_
     rotate_left; (rintro w' ⟨s0, s1, s2, s3, s4, s5, s6, s7, s8⟩; go_simp; with_reducible rfl); rotate_left; (simp only [sqa, sqb, sqc, sqd, i64_w, i32_w]; rfl)
     refine on 4 53 (bl 8 31) HT_.out (fun K hK => ?_)
     refine gs Try.func59 #[.agg #[.slice A431_0 ((rd_T29 t409 x36_1).f0).length c431_0, .slice A431_1 ((rd_T29 t409 x36_1).f1).length c431_1], .agg #[.int .i64 ((rd_T49 t433 x45_2).f0), .int .i64 ((rd_T49 t433 x45_2).f1)]] ?_
     with_reducible refine (impl_Vessels_behind.calls _ _ ((rd_T29 t409 x36_1).f0) _ _ ((rd_T29 t409 x36_1).f1) ((rd_T49 t433 x45_2).f0) ((rd_T49 t433 x45_2).f1) t438 t441 _ ?side1 ?side2 ?side3 ?side4 A62.out).mono ?_
     (case side1 => exact Kd.C_below HM431_0.out (bw HBM))
     (case side2 => exact HC431_0.out)
     (case side3 => exact Kd.C_below HM431_1.out (bw HBM))
     (case side4 => exact HC431_1.out)
     rintro e w82 ⟨v439, v442, rfl, ho0, ho1, hb⟩
     refine ⟨_, rfl, ?_⟩
     replace HO_34 := Aside0.mk (Kd.N_mono (Kd.N_told (Kd.N_told (Kd.N_old HO_34.out hb) (Kd.R_base ho0)) (Kd.R_base ho1)) (fun _ h_ => h_.1))
     replace HO_43 := rb HO_43 hb
     replace HO_425000 := Aside0.mk (Kd.N_mono (Kd.N_told (Kd.N_told (Kd.N_old HO_425000.out hb) (Kd.R_base ho0)) (Kd.R_base ho1)) (fun _ h_ => h_.1))
     replace HO_425004 := rb HO_425004 hb
     have HO440 := Aside0.mk (Kd.R_lower (Kd.R_new' (Kd.R_new' (Kd.R_new' ho0 (Kd.R_lt (rk HO_11))) (Kd.R_lt (rk HO_425002))) (Kd.R_lt (rk HO_425003))) (below_size (bw HB)))
     have HO443 := Aside0.mk (Kd.R_lower (Kd.R_new' (Kd.R_new' (Kd.R_new' ho1 (Kd.R_lt (rk HO_11))) (Kd.R_lt (rk HO_425002))) (Kd.R_lt (rk HO_425003))) (below_size (bw HB)))
     replace HO_11 := Aside0.mk (Kd.R_mono (Kd.R_told (Kd.R_told (Kd.R_old (rk HO_11) hb) (Kd.R_base ho0)) (Kd.R_base ho1)) (fun _ h_ => h_.1))
     replace HO_425002 := Aside0.mk (Kd.R_mono (Kd.R_told (Kd.R_told (Kd.R_old (rk HO_425002) hb) (Kd.R_base ho0)) (Kd.R_base ho1)) (fun _ h_ => h_.1))
     replace HO_425003 := Aside0.mk (Kd.R_mono (Kd.R_told (Kd.R_told (Kd.R_old (rk HO_425003) hb) (Kd.R_base ho0)) (Kd.R_base ho1)) (fun _ h_ => h_.1))
     replace BK407 := bb BK407 hb
     replace BK408 := bb BK408 hb
     replace BK424 := bb BK424 hb
     replace BK425 := bbO BK425 hb
     replace BK432 := bb BK432 hb
     replace BK437 := bb BK437 hb
     replace HB := bs HB hb
     replace HBM := bs HBM hb
     (try clear hb); (try clear hb2); (try clear hk); (try clear hi); (try clear ho0); (try clear ho1)
     obtain ⟨Ao83, co83, eo83⟩ := Kd.R_slice HO440.out
     (first | subst eo83 | (injection eo83 with f1_ f2_ f3_; have f4_ := f1_.symm; have f5_ := f3_.symm; clear f1_ f2_ f3_; subst f4_; subst f5_))
     obtain ⟨Ao84, co84, eo84⟩ := Kd.R_slice HO443.out
     (first | subst eo84 | (injection eo84 with f1_ f2_ f3_; have f4_ := f1_.symm; have f5_ := f3_.symm; clear f1_ f2_ f3_; subst f4_; subst f5_))
     refine hK.out _ _ ⟨bc0 BK424, bc1 BK424, bc2 BK424, bc3 BK424, bc4 BK424, bc0 BK432, bc1 BK432, bc0 BK437, bc1 BK437⟩ (fun hHeld => ?_)
     clear hK K
     refine norm_ (a' := ?_) ?_ ?_; rotate_left; (show Act.put _ (some 53) _ = _; simp only [sqa, sqb, sqc, sqd, i64_w, i32_w]; rfl)
     refine on 5 54 (bl 8 63) HT_.out (fun K hK => ?_)
     refine gs Try.func69 #[.agg #[.slice Ao83 t438.length co83, .slice Ao84 t441.length co84]] ?_
     with_reducible refine (impl_keyOf.callsP _ _ t438 _ _ t441 t444 t445 t446 t447 t448 _ ?side1 ?side2 ?side3 ?side4 A63.out).mono ?_
     (case side1 => exact cr HO440)
     (case side2 => exact (Kd.R_reads' HO440.out).2.1)
     (case side3 => exact cr HO443)
     (case side4 => exact (Kd.R_reads' HO443.out).2.1)
     rintro e w85 ⟨rfl, hb⟩
     refine ⟨_, rfl, ?_⟩
     replace HO_11 := rb HO_11 hb
     replace HO_34 := Aside0.mk (Kd.N_below HO_34.out hb)
     replace HO_43 := rb HO_43 hb
     replace HO_425000 := Aside0.mk (Kd.N_below HO_425000.out hb)
     replace HO_425002 := rb HO_425002 hb
     replace HO_425003 := rb HO_425003 hb
     replace HO_425004 := rb HO_425004 hb
     replace HO440 := rb HO440 hb
     replace HO443 := rb HO443 hb
     replace BK407 := bb BK407 hb
     replace BK408 := bb BK408 hb
     replace BK424 := bb BK424 hb
     replace BK425 := bbO BK425 hb
     replace BK432 := bb BK432 hb
     replace BK437 := bb BK437 hb
     replace HB := bs HB hb
     replace HBM := bs HBM hb
     (try clear hb); (try clear hb2); (try clear hk); (try clear hi)
     refine hK.out _ _ ⟨bc0 BK424, bc1 BK424, bc2 BK424, bc3 BK424, bc4 BK424, bc0 BK432, bc1 BK432, bc0 BK437, bc1 BK437⟩ (fun hHeld => ?_)
     clear hK K
     refine norm_ (a' := ?_) ?_ ?_; rotate_left; (show Act.put _ (some 54) _ = _; simp only [sqa, sqb, sqc, sqd, i64_w, i32_w]; rfl)
     refine on 6 55 (bl 8 127) HT_.out (fun K hK => ?_)
     refine look1_step HMO.out (bkO BK425) HMV.out (.tmp 50) (.tmp 54) A64.out rfl rfl ?_
     intro w86 hb
     replace HO_11 := rb HO_11 hb
     replace HO_34 := Aside0.mk (Kd.N_below HO_34.out hb)
     replace HO_43 := rb HO_43 hb
     replace HO_425000 := Aside0.mk (Kd.N_below HO_425000.out hb)
     replace HO_425002 := rb HO_425002 hb
     replace HO_425003 := rb HO_425003 hb
     replace HO_425004 := rb HO_425004 hb
     replace HO440 := rb HO440 hb
     replace HO443 := rb HO443 hb
     replace BK407 := bb BK407 hb
     replace BK408 := bb BK408 hb
     replace BK424 := bb BK424 hb
     replace BK425 := bbO BK425 hb
     replace BK432 := bb BK432 hb
     replace BK437 := bb BK437 hb
     replace HB := bs HB hb
     replace HBM := bs HBM hb
     (try clear hb); (try clear hb2); (try clear hk); (try clear hi)
     refine hK.out _ _ ⟨bc0 BK424, bc1 BK424, bc2 BK424, bc3 BK424, bc4 BK424, bc0 BK432, bc1 BK432, bc0 BK437, bc1 BK437⟩ (fun hHeld => ?_)
     clear hK K
     refine norm_ (a' := ?_) ?_ ?_; rotate_left; (show Act.put _ (some 55) _ = _; simp only [sqa, sqb, sqc, sqd, i64_w, i32_w]; rfl)
     refine pu 7 16 (bl 8 255) HT_.out (v := ?_) (a' := ?_) ?_ ?_ ?_
     rotate_left; (intro w'; go_simp; with_reducible rfl); rotate_left; (simp only [sqa, sqb, sqc, sqd, i64_w, i32_w]; rfl)
     refine done_ (done_of HT_.out (by kernel_rfl)) ?_
     try go_wp2
     replace HO_11 := Aside0.mk (Kd.R_drew HO_11.out)
     replace HO_34 := Aside0.mk (Kd.N_drew HO_34.out)
     replace HO_43 := Aside0.mk (Kd.R_drew HO_43.out)
     replace HO_425000 := Aside0.mk (Kd.N_drew HO_425000.out)
     replace HO_425002 := Aside0.mk (Kd.R_drew HO_425002.out)
     replace HO_425003 := Aside0.mk (Kd.R_drew HO_425003.out)
     replace HO_425004 := Aside0.mk (Kd.R_drew HO_425004.out)
     replace HO440 := Aside0.mk (Kd.R_drew HO440.out)
     replace HO443 := Aside0.mk (Kd.R_drew HO443.out)
     replace BK407 := Aside0.mk (blk_drew BK407.out)
     replace BK408 := Aside0.mk (blk_drew BK408.out)
     replace BK424 := Aside0.mk (blk_drew BK424.out)
     replace BK425 := Aside0.mk (blk_drew BK425.out)
     replace BK432 := Aside0.mk (blk_drew BK432.out)
     replace BK437 := Aside0.mk (blk_drew BK437.out)
     replace HB := Aside0.mk (below_drew1 HB.out)
     replace HBM := Aside0.mk (below_drew1 HBM.out)
     have p450 : 0 ≤ (t449 : Int) := of_decide_eq_true ‹_›
     have q450 : t449 < (t413.length : Int) := of_decide_eq_true ‹_›
     obtain ⟨ad450, e450, hx450_0⟩ := Kd.at_int (Kd.R_reads' HO_425002.out).2.2 t449 p450 q450
     cases e450
     replace p450 := eq_true p450
     replace q450 := eq_true q450
     have p451 : 0 ≤ (x36_1 : Int) := of_decide_eq_true ‹_›
     have q451 : x36_1 < (t413.length : Int) := of_decide_eq_true ‹_›
     obtain ⟨ad451, e451, hx451_0⟩ := Kd.at_int (Kd.R_reads' HO_425002.out).2.2 x36_1 p451 q451
     obtain rfl : ad450 = ad451 := (by injection e451)
     replace p451 := eq_true p451
     replace q451 := eq_true q451
     refine start_ (n := 12) (S := fun w' => w'.cell? ⟨gb424, 0, none⟩ = some (.slice (some ad431) t409.length co32) ∧ w'.cell? ⟨gb424, 1, none⟩ = some (.map mv_) ∧ w'.cell? ⟨gb424, 2, none⟩ = some (.slice (some ad450) t413.length co36) ∧ w'.cell? ⟨gb424, 3, none⟩ = some (.slice Ao37 t416.length co37) ∧ w'.cell? ⟨gb424, 4, none⟩ = some (.slice Ao38 t419.length co38) ∧ w'.cell? (ad450.add (t449).toNat) = some (.int .i64 (rd t413 t449)) ∧ w'.cell? (ad450.add (x36_1).toNat) = some (.int .i64 (rd t413 x36_1))) (ds := []) (bl 12 0) (by kernel_rfl) rfl rfl ⟨bc0 BK424, bc1 BK424, bc2 BK424, bc3 BK424, bc4 BK424, hx450_0, hx451_0⟩ (fun hHeld => ?_); refine with_tabW impl_CountPlans.tab13 impl_CountPlans.bits13 (fun HT_ HW_ => ?_)
     generalize w86.drew = w87 at HO_11 HO_34 HO_43 HO_425000 HO_425002 HO_425003 HO_425004 HO440 HO443 BK407 BK408 BK424 BK425 BK432 BK437 HB HBM hx450_0 hx451_0 hHeld ⊢
     refine pu 0 56 (bl 12 1) HT_.out (v := ?_) (a' := ?_) ?_ ?_ ?_
     rotate_left; (intro w'; go_simp; with_reducible rfl); rotate_left; (simp only [sqa, sqb, sqc, sqd, i64_w, i32_w]; rfl)
     refine pu 2 58 (bl 12 5) HT_.out (v := ?_) (a' := ?_) ?_ ?_ ?_
     rotate_left; (intro w'; go_simp; with_reducible rfl); rotate_left; (simp only [sqa, sqb, sqc, sqd, i64_w, i32_w]; rfl)
     refine pu 5 61 (bl 12 37) HT_.out (v := ?_) (a' := ?_) ?_ ?_ ?_
     rotate_left; (intro w'; go_simp; with_reducible rfl); rotate_left; (simp only [sqa, sqb, sqc, sqd, i64_w, i32_w]; rfl)
     refine pu 7 63 (bl 12 165) HT_.out (v := ?_) (a' := ?_) ?_ ?_ ?_
     rotate_left; (intro w'; go_simp; with_reducible rfl); rotate_left; (simp only [sqa, sqb, sqc, sqd, i64_w, i32_w]; rfl)
     refine tk 1 57 (bl 12 167) HT_.out HW_.out hHeld (v := ?_) (a' := ?_) ?_ ?_ ?_
     rotate_left; (rintro w' ⟨s0, s1, s2, s3, s4, s5, s6⟩; go_simp; with_reducible rfl); rotate_left; (simp only [sqa, sqb, sqc, sqd, i64_w, i32_w]; rfl)
     refine pu 3 59 (bl 12 175) HT_.out (v := ?_) (a' := ?_) ?_ ?_ ?_
     rotate_left; (intro w'; go_simp; with_reducible rfl); rotate_left; (simp only [sqa, sqb, sqc, sqd, i64_w, i32_w]; rfl)
     refine tk 4 60 (bl 12 191) HT_.out HW_.out hHeld (v := ?_) (a' := ?_) ?_ ?_ ?_
     rotate_left; (rintro w' ⟨s0, s1, s2, s3, s4, s5, s6⟩; go_simp; with_reducible rfl); rotate_left; (simp only [sqa, sqb, sqc, sqd, i64_w, i32_w]; rfl)
     refine tk 6 62 (bl 12 255) HT_.out HW_.out hHeld (v := ?_) (a' := ?_) ?_ ?_ ?_
     rotate_left; (rintro w' ⟨s0, s1, s2, s3, s4, s5, s6⟩; go_simp; with_reducible rfl); rotate_left; (simp only [sqa, sqb, sqc, sqd, i64_w, i32_w]; rfl)
     refine pu 8 64 (bl 12 511) HT_.out (v := ?_) (a' := ?_) ?_ ?_ ?_
     rotate_left; (intro w'; go_simp; with_reducible rfl); rotate_left; (simp only [sqa, sqb, sqc, sqd, i64_w, i32_w]; rfl)
     refine tk 9 65 (bl 12 1023) HT_.out HW_.out hHeld (v := ?_) (a' := ?_) ?_ ?_ ?_
     rotate_left; (rintro w' ⟨s0, s1, s2, s3, s4, s5, s6⟩; go_simp; with_reducible rfl); rotate_left; (simp only [sqa, sqb, sqc, sqd, i64_w, i32_w]; rfl)
     refine pu 10 66 (bl 12 2047) HT_.out (v := ?_) (a' := ?_) ?_ ?_ ?_
     rotate_left; (intro w'; go_simp; with_reducible rfl); rotate_left; (simp only [sqa, sqb, sqc, sqd, i64_w, i32_w]; rfl)
     refine pu 11 67 (bl 12 4095) HT_.out (v := ?_) (a' := ?_) ?_ ?_ ?_
     rotate_left; (intro w'; go_simp; with_reducible rfl); rotate_left; (simp only [sqa, sqb, sqc, sqd, i64_w, i32_w]; rfl)
     refine done_ (done_of HT_.out (by kernel_rfl)) ?_
     try go_wp2
     replace HO_11 := Aside0.mk (Kd.R_drew HO_11.out)
     replace HO_34 := Aside0.mk (Kd.N_drew HO_34.out)
     replace HO_43 := Aside0.mk (Kd.R_drew HO_43.out)
     replace HO_425000 := Aside0.mk (Kd.N_drew HO_425000.out)
     replace HO_425002 := Aside0.mk (Kd.R_drew HO_425002.out)
     replace HO_425003 := Aside0.mk (Kd.R_drew HO_425003.out)
     replace HO_425004 := Aside0.mk (Kd.R_drew HO_425004.out)
     replace HO440 := Aside0.mk (Kd.R_drew HO440.out)
     replace HO443 := Aside0.mk (Kd.R_drew HO443.out)
     replace BK407 := Aside0.mk (blk_drew BK407.out)
     replace BK408 := Aside0.mk (blk_drew BK408.out)
     replace BK424 := Aside0.mk (blk_drew BK424.out)
     replace BK425 := Aside0.mk (blk_drew BK425.out)
     replace BK432 := Aside0.mk (blk_drew BK432.out)
     replace BK437 := Aside0.mk (blk_drew BK437.out)
     replace HB := Aside0.mk (below_drew1 HB.out)
     replace HBM := Aside0.mk (below_drew1 HBM.out)
     have p452 : 0 ≤ (t449 : Int) := of_decide_eq_true ‹_›
     have q452 : t449 < (x11_2.length : Int) := of_decide_eq_true ‹_›
     obtain ⟨ad452, e452, hx452_0⟩ := Kd.at_int (Kd.R_reads' HO_11.out).2.2 t449 p452 q452
     obtain rfl : (⟨go24, 0, none⟩ : Addr) = ad452 := (by injection e452)
     (first | simp only [add_plain] at hx452_0 | simp only [add_at] at hx452_0 | simp only [Addr.add, Nat.zero_add] at hx452_0 | skip)
     replace p452 := eq_true p452
     replace q452 := eq_true q452
     have p453 : 0 ≤ (x36_1 : Int) := of_decide_eq_true ‹_›
     have q453 : x36_1 < (x11_2.length : Int) := of_decide_eq_true ‹_›
     obtain ⟨ad453, e453, hx453_0⟩ := Kd.at_int (Kd.R_reads' HO_11.out).2.2 x36_1 p453 q453
     obtain rfl : (⟨go24, 0, none⟩ : Addr) = ad453 := (by injection e453)
     (first | simp only [add_plain] at hx453_0 | simp only [add_at] at hx453_0 | simp only [Addr.add, Nat.zero_add] at hx453_0 | skip)
     replace p453 := eq_true p453
     replace q453 := eq_true q453
     have p72 : 0 ≤ (t449 : Int) := of_decide_eq_true ‹_›
     have q72 : (t449 : Int) < ((x11_2.length : Int) : Int) := of_decide_eq_true ‹_›
     obtain ⟨hx72_0, hf72_0⟩ := Kd.R_celln 0 HO_11.out (t449 : Int) p72 q72
     replace p72 := eq_true p72
     replace q72 := eq_true q72
     have HP89 := Kd.R_putn HO_11.out (t449 : Int) (wrap64 ((rd x11_2 t449) + (rd x11_2 x36_1)))
     rw [← Ny454.out] at HP89
     have HQ89 := Aside0.mk HP89
     clear HP89
     refine start_ (n := 11) (S := fun w' => w'.cell? ⟨go24, (t449).toNat, none⟩ = some (.int .i64 (rd x11_2 t449)) ∧ w'.cell? ⟨go24, (x36_1).toNat, none⟩ = some (.int .i64 (rd x11_2 x36_1))) (ds := [10]) (bl 11 0) (by kernel_rfl) rfl rfl ⟨hx452_0, hx453_0⟩ (fun hHeld => ?_); refine with_tabW impl_CountPlans.tab14 impl_CountPlans.bits14 (fun HT_ HW_ => ?_)
     generalize w87.drew = w88 at HO_11 HO_34 HO_43 HO_425000 HO_425002 HO_425003 HO_425004 HO440 HO443 BK407 BK408 BK424 BK425 BK432 BK437 HB HBM HQ89 hf72_0 hx452_0 hx453_0 hx72_0 hHeld ⊢
     refine pu 0 68 (bl 11 1) HT_.out (v := ?_) (a' := ?_) ?_ ?_ ?_
     rotate_left; (intro w'; go_simp; with_reducible rfl); rotate_left; (simp only [sqa, sqb, sqc, sqd, i64_w, i32_w]; rfl)
     refine pu 1 69 (bl 11 3) HT_.out (v := ?_) (a' := ?_) ?_ ?_ ?_
     rotate_left; (intro w'; go_simp; with_reducible rfl); rotate_left; (simp only [sqa, sqb, sqc, sqd, i64_w, i32_w]; rfl)
     refine pu 2 70 (bl 11 7) HT_.out (v := ?_) (a' := ?_) ?_ ?_ ?_
     rotate_left; (intro w'; go_simp; with_reducible rfl); rotate_left; (simp only [sqa, sqb, sqc, sqd, i64_w, i32_w]; rfl)
     refine pu 4 72 (bl 11 23) HT_.out (v := ?_) (a' := ?_) ?_ ?_ ?_
     rotate_left; (intro w'; go_simp; with_reducible rfl); rotate_left; (simp only [sqa, sqb, sqc, sqd, i64_w, i32_w]; rfl)
     refine pu 5 73 (bl 11 55) HT_.out (v := ?_) (a' := ?_) ?_ ?_ ?_
     rotate_left; (intro w'; go_simp; with_reducible rfl); rotate_left; (simp only [sqa, sqb, sqc, sqd, i64_w, i32_w]; rfl)
     refine pu 6 74 (bl 11 119) HT_.out (v := ?_) (a' := ?_) ?_ ?_ ?_
     rotate_left; (intro w'; go_simp; with_reducible rfl); rotate_left; (simp only [sqa, sqb, sqc, sqd, i64_w, i32_w]; rfl)
     refine tk 3 71 (bl 11 127) HT_.out HW_.out hHeld (v := ?_) (a' := ?_) ?_ ?_ ?_
     rotate_left; (rintro w' ⟨s0, s1⟩; go_simp; with_reducible rfl); rotate_left; (simp only [sqa, sqb, sqc, sqd, i64_w, i32_w]; rfl)
     refine tk 7 75 (bl 11 255) HT_.out HW_.out hHeld (v := ?_) (a' := ?_) ?_ ?_ ?_
     rotate_left; (rintro w' ⟨s0, s1⟩; go_simp; with_reducible rfl); rotate_left; (simp only [sqa, sqb, sqc, sqd, i64_w, i32_w]; rfl)
     refine pu 8 76 (bl 11 511) HT_.out (v := ?_) (a' := ?_) ?_ ?_ ?_
     rotate_left; (intro w'; go_simp; with_reducible rfl); rotate_left; (simp only [sqa, sqb, sqc, sqd, i64_w, i32_w]; rfl)
     refine pu 9 77 (bl 11 1023) HT_.out (v := ?_) (a' := ?_) ?_ ?_ ?_
     rotate_left; (intro w'; go_simp; with_reducible rfl); rotate_left; (simp only [sqa, sqb, sqc, sqd, i64_w, i32_w]; rfl)
     refine last_ (i := 10) (N := none) (bl 11 2047) rfl rfl (one_of HT_.out (by kernel_rfl)) (by decide) (fun K hK => ?_)
     refine skip_ (w1 := ?_) (by rfl) rfl ?_ ?_
     rotate_left
     ·go_simp
      rfl
     refine hK.out _ _ ?_
     clear hK K
     refine done_ (done_of HT_.out (by kernel_rfl)) ?_
     try go_wp2
     (try simp only [← hl11_2])
     go_roundg k2
     case measure => have := HK1.out; have := HK2.out; omega
     case rel => exact ⟨(y454), (wrap64 (x45_2 + 1)), (by first | rfl | (simp; done) | (simp [*]; done)), H', ⟨by have := HK1.out; have := HK2.out; omega⟩, ⟨by (try simp only [hl11_1]); (try simp only [hl11_2]); exact Kd.R_mono HQ89.out (fun _ hk => ⟨hk.1.1.1, hk.1.1.2⟩)⟩, ⟨by (try simp only [hl11_1]); (try simp only [hl11_2]); exact Kd.N_mono (Kd.N_far (p := ⟨go24, (t449 : Int).toNat, none⟩) (Kd.N_mono HO_34.out (fun k_ hk => (⟨hk, fun e_ => hk.1.1.1 (by rw [e_]; rfl)⟩ : _ ∧ k_ ≠ go24))) (fun _ hk => hk.2) (.int .i64 (wrap64 ((rd x11_2 t449) + (rd x11_2 x36_1))))) (fun _ hk => ⟨hk.1.1.1.1, ⟨hk.1.1.1.2.1, ⟨hk.1.1.1.2.2.1, ⟨hk.1.1.1.2.2.2.1, ⟨hk.1.1.1.2.2.2.2.1, ⟨hk.1.1.1.2.2.2.2.2.1, ⟨hk.1.1.1.2.2.2.2.2.2.1, ⟨hk.1.1.1.2.2.2.2.2.2.2.1, ⟨hk.1.1.1.2.2.2.2.2.2.2.2.1, hk.1.1.1.2.2.2.2.2.2.2.2.2.1⟩⟩⟩⟩⟩⟩⟩⟩⟩)⟩, ⟨by (try simp only [hl11_1]); (try simp only [hl11_2]); exact Kd.R_mono (Kd.R_far (p := ⟨go24, (t449 : Int).toNat, none⟩) (R_typesE HO_43.out (R_blkE HO_11.out) (by decide)) (fun _ hk => hk.2) (.int .i64 (wrap64 ((rd x11_2 t449) + (rd x11_2 x36_1))))) (fun _ hk => hk.1.1)⟩, ⟨by (try simp only [hl11_1]); (try simp only [hl11_2]); exact Kd.N_mono (Kd.N_far (p := ⟨go24, (t449 : Int).toNat, none⟩) (Kd.N_mono HO_425000.out (fun k_ hk => (⟨hk, fun e_ => hk.1.1.1 (by rw [e_]; rfl)⟩ : _ ∧ k_ ≠ go24))) (fun _ hk => hk.2) (.int .i64 (wrap64 ((rd x11_2 t449) + (rd x11_2 x36_1))))) (fun _ hk => ⟨hk.1.1.1.1, ⟨hk.1.1.1.2.1, ⟨hk.1.1.1.2.2.1, ⟨hk.1.1.1.2.2.2.1, ⟨hk.1.1.1.2.2.2.2.1, ⟨hk.1.1.1.2.2.2.2.2.1, ⟨hk.1.1.1.2.2.2.2.2.2.1, ⟨hk.1.1.1.2.2.2.2.2.2.2.1, ⟨hk.1.1.1.2.2.2.2.2.2.2.2.1, hk.1.1.1.2.2.2.2.2.2.2.2.2.1⟩⟩⟩⟩⟩⟩⟩⟩⟩)⟩, ⟨by (try simp only [hl11_1]); (try simp only [hl11_2]); exact Kd.R_mono (Kd.R_far (p := ⟨go24, (t449 : Int).toNat, none⟩) (Kd.R_mono HO_425002.out (fun k_ hk => (⟨hk, fun e_ => hk.1.1.1 (by rw [e_]; rfl)⟩ : _ ∧ k_ ≠ go24))) (fun _ hk => hk.2) (.int .i64 (wrap64 ((rd x11_2 t449) + (rd x11_2 x36_1))))) (fun _ hk => ⟨hk.1.1.1.1, hk.1.1.1.2⟩)⟩, ⟨by (try simp only [hl11_1]); (try simp only [hl11_2]); exact Kd.R_mono (Kd.R_far (p := ⟨go24, (t449 : Int).toNat, none⟩) (Kd.R_mono HO_425003.out (fun k_ hk => (⟨hk, fun e_ => hk.1.1.1 (by rw [e_]; rfl)⟩ : _ ∧ k_ ≠ go24))) (fun _ hk => hk.2) (.int .i64 (wrap64 ((rd x11_2 t449) + (rd x11_2 x36_1))))) (fun _ hk => ⟨hk.1.1.1.1, hk.1.1.1.2⟩)⟩, ⟨by (try simp only [hl11_1]); (try simp only [hl11_2]); exact Kd.R_mono (Kd.R_far (p := ⟨go24, (t449 : Int).toNat, none⟩) (R_typesE HO_425004.out (R_blkE HO_11.out) (by decide)) (fun _ hk => hk.2) (.int .i64 (wrap64 ((rd x11_2 t449) + (rd x11_2 x36_1))))) (fun _ hk => hk.1.1)⟩, ⟨by (try simp only [hl11_1]); (try simp only [hl11_2]); refine blk_far ?_ (by have h_ := Kd.R_ne HO_11.out BK407.out (by decide); intro e_; exact h_ (by rw [e_]; rfl)) _; exact bk BK407⟩, ⟨by (try simp only [hl11_1]); (try simp only [hl11_2]); refine blk_far ?_ (by have h_ := Kd.R_ne HO_11.out BK408.out (by decide); intro e_; exact h_ (by rw [e_]; rfl)) _; exact bk BK408⟩, ⟨by (try simp only [hl11_1]); (try simp only [hl11_2]); refine blk_far ?_ (by have h_ := Kd.R_ne HO_11.out BK424.out (by decide); intro e_; exact h_ (by rw [e_]; rfl)) _; exact bk BK424⟩, ⟨by (try simp only [hl11_1]); (try simp only [hl11_2]); refine blk_farO ?_ (by have h_ := R_neM HMO.out HO_11.out BK425.out; intro e_; exact h_ (by rw [e_]; rfl)) _; exact bkO BK425⟩, ⟨by (try simp only [hl11_1]); (try simp only [hl11_2]); refine blk_far ?_ (by have h_ := Kd.R_ne HO_11.out BK432.out (by decide); intro e_; exact h_ (by rw [e_]; rfl)) _; exact bk BK432⟩, ⟨by repeat (first | (with_reducible first | exact HB.out | apply below_alloc | apply pw_below_drewN | apply below_drew1 | refine below_set ?_ GB24.out | refine below_set ?_ GE407.out | refine below_set ?_ GE408.out | refine below_set ?_ GE424.out | refine below_set ?_ GE425.out | refine below_set ?_ GE432.out | refine below_set ?_ GE437.out) | exact HB.out)⟩, ⟨bw HBM⟩⟩
end Go.Proofs.Ytigpkicbigpilaa.V
