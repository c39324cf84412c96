-- Functions of the program as plain functions, and that the calls come to them. Written by a program (ownprint.py); nothing here is trusted: Lean checks it.
import Derived.Test.YtigpkicbigpilaaTfVx0
import Derived.Test.YtigpkicbigpilaaTfVx2
namespace Go.Proofs.Ytigpkicbigpilaa.V
open Go.RowKit Go.Proofs.YtigpkicbigpilaaW.PrintWords Go.Proofs.YtigpkicbigpilaaW.PrintLast Go.Proofs.YtigpkicbigpilaaW.PrintMore Go.Proofs.Ytigpkicbigpilaa.Sq
attribute [local go_sem] max2_int min2_int max_two min_two max_three min_three max_four min_four   -- for this text's walks alone
set_option linter.unusedVariables false
set_option linter.unusedSimpArgs false
def impl_Vessels_amount.f (l0_0 : List Int) (l0_1 : List Int) (a1_0 : Int) (a1_1 : Int) : Option (Int) := if a1_0 < 0 then ((impl_Vessels_room.f l0_0 l0_1 a1_1).bind fun t206 => (some t206)) else (if a1_1 < 0 then (if 0 ≤ a1_0 then (if a1_0 < (l0_1.length : Int) then (some (rd l0_1 a1_0)) else (none)) else (none)) else (if 0 ≤ a1_0 then (if a1_0 < (l0_1.length : Int) then ((impl_Vessels_room.f l0_0 l0_1 a1_1).bind fun t209 => (some (mn (rd l0_1 a1_0) t209))) else (none)) else (none)))
def impl_Vessels_amount.T5 : Bool × List (List Nat × List Nat) := (true, [([], []), ([0], [0]), ([], []), ([2], [2]), ([1, 3], [1, 3]), ([4], [4]), ([], []), ([], []), ([7], [7]), ([6, 8], [6, 8]), ([5, 9], [5, 9]), ([10, 9, 0, 1, 2, 3, 4, 5, 6, 7, 8, 9, 10], [10])])
def impl_Vessels_amount.B5 : List Nat := [0, 1, 0, 4, 15, 31, 0, 0, 128, 448, 1023, 2047]
theorem impl_Vessels_amount.tab5 : rtab .any (opsOf Try.f58 5) = impl_Vessels_amount.T5 := by kernel_rfl
theorem impl_Vessels_amount.bits5 : waitsOk impl_Vessels_amount.T5.2 impl_Vessels_amount.B5 = true := by kernel_rfl
set_option maxHeartbeats 8000000 in
set_option maxRecDepth 100000 in
theorem impl_Vessels_amount.calls (A0_0 : Option Addr) (c0_0 : Nat) (l0_0 : List Int) (A0_1 : Option Addr) (c0_1 : Nat) (l0_1 : List Int) (a1_0 : Int) (a1_1 : Int) (r : Int) (w : World) (hr0_0 : Kd.C (Kd.int .i64) w A0_0 l0_0.length l0_0) (hc0_0 : l0_0.length ≤ c0_0) (hr0_1 : Kd.C (Kd.int .i64) w A0_1 l0_1.length l0_1) (hc0_1 : l0_1.length ≤ c0_1) (h : impl_Vessels_amount.f l0_0 l0_1 a1_0 a1_1 = some r) :
  Calls Try.prog 58 #[.agg #[.slice A0_0 l0_0.length c0_0, .slice A0_1 l0_1.length c0_1], .agg #[.int .i64 a1_0, .int .i64 a1_1]] w fun e w' => e = .returned (.int .i64 r) ∧ Below w.heap.size w w' := by
 have hu29 := Try.underlying29
 have hu49 := Try.underlying49
 have HR0_0 := Aside0.mk hr0_0
 have HC0_0 := Aside0.mk hc0_0
 clear hr0_0 hc0_0
 have HR0_1 := Aside0.mk hr0_1
 have HC0_1 := Aside0.mk hc0_1
 clear hr0_1 hc0_1
 have HB := Aside0.mk (Below.refl w.heap.size w)
 have H : (if a1_0 < 0 then ((impl_Vessels_room.f l0_0 l0_1 a1_1).bind fun t206 => (some t206)) else (if a1_1 < 0 then (if 0 ≤ a1_0 then (if a1_0 < (l0_1.length : Int) then (some (rd l0_1 a1_0)) else (none)) else (none)) else (if 0 ≤ a1_0 then (if a1_0 < (l0_1.length : Int) then ((impl_Vessels_room.f l0_0 l0_1 a1_1).bind fun t209 => (some (mn (rd l0_1 a1_0) t209))) else (none)) else (none)))) = some r := h
 clear h
 by_cases c3 : a1_0 < 0
 ·rw [if_pos c3] at H
  have c3b0 : decide (a1_0 < 0) = true := decide_eq_true c3
  clear c3
  replace H := Option.bind_eq_some_iff.mp H
  obtain ⟨t206, A40, H⟩ := H
  (try dsimp only at H)
  have A4 := Aside0.mk A40
  clear A40
  obtain rfl := Option.some.inj H
  go_enter Try.func58, Try.ntmps58
  go_wp2_with (first | ((with_reducible refine gate_dst (N := 2) rfl ?_); refine bx 2 #[.slice A0_0 l0_0.length c0_0, .slice A0_1 l0_1.length c0_1] 29 ?_; intro gb204 hg w5 hbox hb; have BK204 := Aside0.mk (hbox); have GW204 := ge HB hg; have GE204 := ge HB hg; replace HB := bs HB hb; clear hb hbox hg) | ((with_reducible refine gate_dst (N := 3) rfl ?_); refine bx 3 #[.int .i64 a1_0, .int .i64 a1_1] 49 ?_; intro gb205 hg w6 hbox hb; have BK205 := Aside0.mk (hbox); have GW205 := ge HB hg; have GE205 := ge HB hg; replace HB := bs HB hb; have NB204_205 := nl BK204 hg; have NB205_204 := nr BK204 hg; replace BK204 := bb BK204 hb; clear hb hbox hg; have hnb7 := NB205_204.out; have hnc7 := NB204_205.out; have hcz8_0 := bc0 BK205; have hcz8_1 := bc1 BK205; have hfz8_0 := blk_frozen BK205.out 0; have hfz8_1 := blk_frozen BK205.out 1; have hcz9_0 := bc0 BK204; have hcz9_1 := bc1 BK204; have hfz9_0 := blk_frozen BK204.out 0; have hfz9_1 := blk_frozen BK204.out 1) | ((with_reducible refine gate_callee (f := 80) rfl ?_); refine gl 12 Try.func80 #[.agg #[.slice A0_0 l0_0.length c0_0, .slice A0_1 l0_1.length c0_1], .int .i64 a1_1] ?_; (with_reducible refine (impl_Vessels_room.calls _ _ l0_0 _ _ l0_1 a1_1 t206 _ ?side1 ?side2 ?side3 ?side4 A4.out).mono ?_); (case side1 => exact ck HR0_0 HB); (case side2 => exact HC0_0.out); (case side3 => exact ck HR0_1 HB); (case side4 => exact HC0_1.out); rintro e w10 ⟨rfl, hb⟩; refine ⟨_, rfl, ?_⟩; replace BK204 := bb BK204 hb; replace BK205 := bb BK205 hb; replace HB := bs HB hb; (try clear hb)))
  go_ret
  exact ⟨by first | rfl | (simp [errW_none, errW_some] <;> rfl) | (simp [*, errW_none, errW_some] <;> rfl), bw HB⟩
 rw [if_neg c3] at H
 have c3b0 : decide (a1_0 < 0) = false := decide_eq_false c3
 clear c3
 by_cases c11 : a1_1 < 0
 ·rw [if_pos c11] at H
  have c11b0 : decide (a1_1 < 0) = true := decide_eq_true c11
  clear c11
  by_cases c12 : 0 ≤ a1_0
  rotate_left
  ·rw [if_neg c12] at H
   exact absurd H (by simp)
  rw [if_pos c12] at H
  have c12b0 : decide (0 ≤ a1_0) = true := decide_eq_true c12
  clear c12
  by_cases c13 : a1_0 < (l0_1.length : Int)
  rotate_left
  ·rw [if_neg c13] at H
   exact absurd H (by simp)
  rw [if_pos c13] at H
  have c13b0 : decide (a1_0 < (l0_1.length : Int)) = true := decide_eq_true c13
  clear c13
  obtain rfl := Option.some.inj H
  go_enter Try.func58, Try.ntmps58
  go_wp2_with (first | ((with_reducible refine gate_dst (N := 2) rfl ?_); refine bx 2 #[.slice A0_0 l0_0.length c0_0, .slice A0_1 l0_1.length c0_1] 29 ?_; intro gb204 hg w14 hbox hb; have BK204 := Aside0.mk (hbox); have GW204 := ge HB hg; have GE204 := ge HB hg; replace HB := bs HB hb; clear hb hbox hg) | ((with_reducible refine gate_dst (N := 3) rfl ?_); refine bx 3 #[.int .i64 a1_0, .int .i64 a1_1] 49 ?_; intro gb205 hg w15 hbox hb; have BK205 := Aside0.mk (hbox); have GW205 := ge HB hg; have GE205 := ge HB hg; replace HB := bs HB hb; have NB204_205 := nl BK204 hg; have NB205_204 := nr BK204 hg; replace BK204 := bb BK204 hb; clear hb hbox hg; have hnb16 := NB205_204.out; have hnc16 := NB204_205.out; have hcz17_0 := bc0 BK205; have hcz17_1 := bc1 BK205; have hfz17_0 := blk_frozen BK205.out 0; have hfz17_1 := blk_frozen BK205.out 1; have hcz18_0 := bc0 BK204; have hcz18_1 := bc1 BK204; have hfz18_0 := blk_frozen BK204.out 0; have hfz18_1 := blk_frozen BK204.out 1; have p207 : 0 ≤ (a1_0 : Int) := of_decide_eq_true ‹_›; have q207 : a1_0 < (l0_1.length : Int) := of_decide_eq_true ‹_›; obtain ⟨ad207, e207, hx207_0⟩ := Kd.at_int HR0_1.out a1_0 p207 q207; cases e207; replace hx207_0 := (HB.out.cell (World.block_lt_of_cell? w _ hx207_0)).trans hx207_0; replace p207 := eq_true p207; replace q207 := eq_true q207))
  go_ret
  exact ⟨by first | rfl | (simp [errW_none, errW_some] <;> rfl) | (simp [*, errW_none, errW_some] <;> rfl), bw HB⟩
 rw [if_neg c11] at H
 have c11b0 : decide (a1_1 < 0) = false := decide_eq_false c11
 clear c11
 by_cases c19 : 0 ≤ a1_0
 rotate_left
 ·rw [if_neg c19] at H
  exact absurd H (by simp)
 rw [if_pos c19] at H
 have c19b0 : decide (0 ≤ a1_0) = true := decide_eq_true c19
 clear c19
 by_cases c20 : a1_0 < (l0_1.length : Int)
 rotate_left
 ·rw [if_neg c20] at H
  exact absurd H (by simp)
 rw [if_pos c20] at H
 have c20b0 : decide (a1_0 < (l0_1.length : Int)) = true := decide_eq_true c20
 clear c20
 replace H := Option.bind_eq_some_iff.mp H
 obtain ⟨t209, A210, H⟩ := H
 (try dsimp only at H)
 have A21 := Aside0.mk A210
 clear A210
 obtain ⟨ji22, hji22⟩ : ∃ j_ : Int, (mn (rd l0_1 a1_0) t209) = j_ := ⟨_, rfl⟩
 replace H : (some ji22) = some r := by first | (rw [hji22] at H; exact H) | (simp only [hji22] at H ⊢; exact H)
 (try rw [hji22] at A21)
 have hji22_ : (if t209 < (rd l0_1 a1_0) then t209 else (rd l0_1 a1_0)) = ji22 := hji22
 obtain rfl := Option.some.inj H
 go_enter Try.func58, Try.ntmps58
 try go_wp2_with (first | ((with_reducible refine gate_dst (N := 2) rfl ?_); refine bx 2 #[.slice A0_0 l0_0.length c0_0, .slice A0_1 l0_1.length c0_1] 29 ?_; intro gb204 hg w23 hbox hb; have BK204 := Aside0.mk (hbox); have GW204 := ge HB hg; have GE204 := ge HB hg; replace HB := bs HB hb; clear hb hbox hg) | ((with_reducible refine gate_dst (N := 3) rfl ?_); refine bx 3 #[.int .i64 a1_0, .int .i64 a1_1] 49 ?_; intro gb205 hg w24 hbox hb; have BK205 := Aside0.mk (hbox); have GW205 := ge HB hg; have GE205 := ge HB hg; replace HB := bs HB hb; have NB204_205 := nl BK204 hg; have NB205_204 := nr BK204 hg; replace BK204 := bb BK204 hb; clear hb hbox hg; have hnb25 := NB205_204.out; have hnc25 := NB204_205.out; have hcz26_0 := bc0 BK205; have hcz26_1 := bc1 BK205; have hfz26_0 := blk_frozen BK205.out 0; have hfz26_1 := blk_frozen BK205.out 1))
 replace BK204 := Aside0.mk (blk_drew BK204.out)
 replace BK205 := Aside0.mk (blk_drew BK205.out)
 replace HB := Aside0.mk (below_drew1 HB.out)
 have p208 : 0 ≤ (a1_0 : Int) := of_decide_eq_true ‹_›
 have q208 : a1_0 < (l0_1.length : Int) := of_decide_eq_true ‹_›
 obtain ⟨ad208, e208, hx208_0⟩ := Kd.at_int HR0_1.out a1_0 p208 q208
 have hw208_0 := hx208_0
 cases e208
 replace hx208_0 := (HB.out.cell (World.block_lt_of_cell? w _ hx208_0)).trans hx208_0
 replace p208 := eq_true p208
 replace q208 := eq_true q208
 refine start_ (n := 12) (S := fun w' => w'.cell? ⟨gb204, 0, none⟩ = some (.slice A0_0 l0_0.length c0_0) ∧ w'.cell? ⟨gb204, 1, none⟩ = some (.slice (some ad208) l0_1.length c0_1) ∧ w'.cell? ⟨gb205, 0, none⟩ = some (.int .i64 a1_0) ∧ w'.cell? ⟨gb205, 1, none⟩ = some (.int .i64 a1_1) ∧ w'.cell? (ad208.add (a1_0).toNat) = some (.int .i64 (rd l0_1 a1_0))) (ds := []) (bl 12 0) (by kernel_rfl) rfl rfl ⟨bc0 BK204, bc1 BK204, bc0 BK205, bc1 BK205, ((HB.out.cell (World.block_lt_of_cell? w _ hw208_0)).trans hw208_0)⟩ (fun hHeld => ?_); refine with_tabW impl_Vessels_amount.tab5 impl_Vessels_amount.bits5 (fun HT_ HW_ => ?_)
 generalize w24.drew = w27 at BK204 BK205 HB hx208_0 hHeld ⊢
 refine pu 0 23 (bl 12 1) HT_.out (v := ?_) (a' := ?_) ?_ ?_ ?_
 rotate_left; (intro w'; go_simp; with_reducible rfl); rotate_left; (simp only [sqa, sqb, sqc, sqd, i64_w, i32_w]; rfl)
 refine pu 2 25 (bl 12 5) HT_.out (v := ?_) (a' := ?_) ?_ ?_ ?_
 rotate_left; (intro w'; go_simp; with_reducible rfl); rotate_left; (simp only [sqa, sqb, sqc, sqd, i64_w, i32_w]; rfl)
 refine pu 7 30 (bl 12 133) HT_.out (v := ?_) (a' := ?_) ?_ ?_ ?_
 rotate_left; (intro w'; go_simp; with_reducible rfl); rotate_left; (simp only [sqa, sqb, sqc, sqd, i64_w, i32_w]; rfl)
 refine tk 1 24 (bl 12 135) HT_.out HW_.out hHeld (v := ?_) (a' := ?_) ?_ ?_ ?_
 rotate_left; (rintro w' ⟨s0, s1, s2, s3, s4⟩; go_simp; with_reducible rfl); rotate_left; (simp only [sqa, sqb, sqc, sqd, i64_w, i32_w]; rfl)
 refine tk 3 26 (bl 12 143) HT_.out HW_.out hHeld (v := ?_) (a' := ?_) ?_ ?_ ?_
 rotate_left; (rintro w' ⟨s0, s1, s2, s3, s4⟩; go_simp; with_reducible rfl); rotate_left; (simp only [sqa, sqb, sqc, sqd, i64_w, i32_w]; rfl)
 refine pu 4 27 (bl 12 159) HT_.out (v := ?_) (a' := ?_) ?_ ?_ ?_
 rotate_left; (intro w'; go_simp; with_reducible rfl); rotate_left; (simp only [sqa, sqb, sqc, sqd, i64_w, i32_w]; rfl)
 refine tk 5 28 (bl 12 191) HT_.out HW_.out hHeld (v := ?_) (a' := ?_) ?_ ?_ ?_
 rotate_left; (rintro w' ⟨s0, s1, s2, s3, s4⟩; go_simp; with_reducible rfl); rotate_left; (simp only [sqa, sqb, sqc, sqd, i64_w, i32_w]; rfl)
 refine tk 6 29 (bl 12 255) HT_.out HW_.out hHeld (v := ?_) (a' := ?_) ?_ ?_ ?_
 rotate_left; (rintro w' ⟨s0, s1, s2, s3, s4⟩; go_simp; with_reducible rfl); rotate_left; (simp only [sqa, sqb, sqc, sqd, i64_w, i32_w]; rfl)
 refine tk 8 31 (bl 12 511) HT_.out HW_.out hHeld (v := ?_) (a' := ?_) ?_ ?_ ?_
 rotate_left; (rintro w' ⟨s0, s1, s2, s3, s4⟩; go_simp; with_reducible rfl); rotate_left; (simp only [sqa, sqb, sqc, sqd, i64_w, i32_w]; rfl)
 refine on 9 32 (bl 12 1023) HT_.out (fun K hK => ?_)
 refine gs Try.func80 #[.agg #[.slice A0_0 l0_0.length c0_0, .slice (some ad208) l0_1.length c0_1], .int .i64 a1_1] ?_
 with_reducible refine (impl_Vessels_room.calls _ _ l0_0 _ _ l0_1 a1_1 t209 _ ?side1 ?side2 ?side3 ?side4 A21.out).mono ?_
 (case side1 => exact ck HR0_0 HB)
 (case side2 => exact HC0_0.out)
 (case side3 => exact ck HR0_1 HB)
 (case side4 => exact HC0_1.out)
 rintro e w28 ⟨rfl, hb⟩
 refine ⟨_, rfl, ?_⟩
 replace BK204 := bb BK204 hb
 replace BK205 := bb BK205 hb
 replace HB := bs HB hb
 (try clear hb); (try clear hb2); (try clear hk); (try clear hi)
 refine hK.out _ _ ⟨bc0 BK204, bc1 BK204, bc0 BK205, bc1 BK205, ((HB.out.cell (World.block_lt_of_cell? w _ hw208_0)).trans hw208_0)⟩ (fun hHeld => ?_)
 clear hK K
 refine norm_ (a' := ?_) ?_ ?_; rotate_left; (show Act.put _ (some 32) _ = _; simp only [sqa, sqb, sqc, sqd, i64_w, i32_w]; rfl)
 refine pu 10 33 (bl 12 2047) HT_.out (v := ?_) (a' := ?_) ?_ ?_ ?_
 rotate_left; (intro w'; go_simp; with_reducible rfl); rotate_left; (simp only [sqa, sqb, sqc, sqd, i64_w, i32_w]; rfl)
 refine pu 11 4 (bl 12 4095) HT_.out (v := ?_) (a' := ?_) ?_ ?_ ?_
 rotate_left; (intro w'; go_simp; with_reducible rfl); rotate_left; (simp only [sqa, sqb, sqc, sqd, i64_w, i32_w]; rfl)
 refine done_ (done_of HT_.out (by kernel_rfl)) ?_
 try go_wp2
 go_ret
 exact ⟨by first | rfl | (simp [errW_none, errW_some] <;> rfl) | (simp only [← hji22]; first | rfl | (simp [errW_none, errW_some] <;> rfl)) | (simp [*, errW_none, errW_some] <;> rfl), bw HB⟩
mutual
def impl_Vessels_moves.j0 : Nat → Int → List Int → List Int → Option ((List (S49)))
 | 0, _, _, _ => none
 | k + 1, x5, x211000, x211001 => impl_Vessels_moves.l0 k x5 (([] : List (S49))) x5 x211000 x211001
def impl_Vessels_moves.l0 : Nat → Int → List (S49) → Int → List Int → List Int → Option ((List (S49)))
 | 0, _, _, _, _, _ => none
 | k + 1, x5, x6, x7, x211000, x211001 => if x7 < (x211000.length : Int) then (impl_Vessels_moves.l1 k x5 x6 x7 x5 x211000 x211001) else (some x6)
def impl_Vessels_moves.l1 : Nat → Int → List (S49) → Int → Int → List Int → List Int → Option ((List (S49)))
 | 0, _, _, _, _, _, _ => none
 | k + 1, x5, x6, x7, x8, x211000, x211001 => if x8 < (x211000.length : Int) then (if x7 = x8 then (impl_Vessels_moves.l1 k x5 x6 x7 (wrap64 (x8 + 1)) x211000 x211001) else ((impl_Vessels_amount.f x211000 x211001 x7 x8).bind fun t215 => (if t215 > 0 then (if x6.length < 8796093022208 then (impl_Vessels_moves.l1 k x5 (x6 ++ [(⟨x7, x8⟩ : S49)]) x7 (wrap64 (x8 + 1)) x211000 x211001) else (none)) else (impl_Vessels_moves.l1 k x5 x6 x7 (wrap64 (x8 + 1)) x211000 x211001)))) else (impl_Vessels_moves.l0 k x5 x6 (wrap64 (x7 + 1)) x211000 x211001)
end
def impl_Vessels_moves.f (k : Nat) (l0_0 : List Int) (l0_1 : List Int) (a1 : Bool) : Option ((List (S49))) := if a1 = true then (impl_Vessels_moves.j0 k 0 l0_0 l0_1) else (impl_Vessels_moves.j0 k (-1) l0_0 l0_1)
set_option maxHeartbeats 8000000 in
set_option maxRecDepth 100000 in
theorem impl_Vessels_moves.calls (k : Nat) (A0_0 : Option Addr) (c0_0 : Nat) (l0_0 : List Int) (A0_1 : Option Addr) (c0_1 : Nat) (l0_1 : List Int) (a1 : Bool) (r : List (S49)) (w : World) (hr0_0 : Kd.C (Kd.int .i64) w A0_0 l0_0.length l0_0) (hc0_0 : l0_0.length ≤ c0_0) (hr0_1 : Kd.C (Kd.int .i64) w A0_1 l0_1.length l0_1) (hc0_1 : l0_1.length ≤ c0_1) (h : impl_Vessels_moves.f k l0_0 l0_1 a1 = some r) :
  Calls Try.prog 52 #[.agg #[.slice A0_0 l0_0.length c0_0, .slice A0_1 l0_1.length c0_1], .bool a1] w fun e w' => ∃ v0_ : Value, e = .returned (v0_) ∧ Kd.R k49 49 w' w.heap.size (fun _ => True) v0_ r ∧ Below w.heap.size w w' := by
 have hu29 := Try.underlying29
 have hu49 := Try.underlying49
 have HR0_0 := Aside0.mk hr0_0
 have HC0_0 := Aside0.mk hc0_0
 clear hr0_0 hc0_0
 have HR0_1 := Aside0.mk hr0_1
 have HC0_1 := Aside0.mk hc0_1
 clear hr0_1 hc0_1
 have HB := Aside0.mk (Below.refl w.heap.size w)
 have H : (if a1 = true then (impl_Vessels_moves.j0 k 0 l0_0 l0_1) else (impl_Vessels_moves.j0 k (-1) l0_0 l0_1)) = some r := h
 clear h
 have HC3 := Aside0.mk H
 clear H
 go_enter Try.func52, Try.ntmps52
 go_upto_if 10 with (first | ((with_reducible refine gate_dst (N := 2) rfl ?_); refine bx 2 #[.slice A0_0 l0_0.length c0_0, .slice A0_1 l0_1.length c0_1] 29 ?_; intro gb210 hg w4 hbox hb; have n0_ := bs HB hb; have n1_ := Aside0.mk (hbox); have n2_ := ge HB hg; have n3_ := ge HB hg; clear HB; have HB := n0_; have BK210 := n1_; have GW210 := n2_; have GE210 := n3_; clear n0_ n1_ n2_ n3_; clear hb hbox hg))
 (try simp only [Act.put, List.setIfInBounds_toArray, List.set_cons_zero, List.set_cons_succ])
 go_cut [5] (fun v5 wc => ∃ (kq : Nat) (x5_2 : Int), v5 = .int .i64 x5_2 ∧ Aside0 (impl_Vessels_moves.j0 kq x5_2 l0_0 l0_1 = some r) ∧ Aside0 (kq ≤ k) ∧ Aside0 (wc.heap[gb210]? = some (.cells #[(.slice A0_0 l0_0.length c0_0), (.slice A0_1 l0_1.length c0_1)] 29 (0, 0))) ∧ Aside0 (Below w.heap.size w wc))
 case first =>
  have H := HC3.out
  clear HC3
  by_cases c5 : a1 = true
  ·subst c5
   have H1 : (impl_Vessels_moves.j0 k 0 l0_0 l0_1) = some r := by rw [if_pos rfl] at H; exact H
   clear H
   have H := H1
   clear H1
   have H' := Aside0.mk H
   clear H
   go_wp2
   go_meet
   case rel => exact ⟨_, (0), (by first | rfl | (simp; done) | (simp [*]; done)), H', ⟨by first | omega | exact Nat.le_refl _⟩, ⟨bk BK210⟩, ⟨bw HB⟩⟩
  replace c5 := Bool.eq_false_iff.mpr c5
  subst c5
  have H1 : (impl_Vessels_moves.j0 k (-1) l0_0 l0_1) = some r := by rw [if_neg (show ¬ (false = true) by decide)] at H; exact H
  clear H
  have H := H1
  clear H1
  have H' := Aside0.mk H
  clear H
  go_wp2
  go_meet
  case rel => exact ⟨_, ((-1)), (by first | rfl | (simp; done) | (simp [*]; done)), H', ⟨by first | omega | exact Nat.le_refl _⟩, ⟨bk BK210⟩, ⟨bw HB⟩⟩
 case rest =>
  clear HC3
  try clear p2
  try clear c5
  obtain ⟨kq, x5_2, rfl, HA, HJ2, BK210, HB⟩ := hcut
  cases kq with
  | zero => exact absurd HA.out (by simp [impl_Vessels_moves.j0])
  | succ kj2 =>
   have H := HA.out
   clear HA
   simp only [impl_Vessels_moves.j0] at H
   obtain ⟨y211, hy211⟩ : ∃ y_ : List (S49), y_ = (([] : List (S49))) := ⟨_, rfl⟩
   replace H : (impl_Vessels_moves.l0 kj2 x5_2 y211 x5_2 l0_0 l0_1) = some r := by first | (rw [hy211]; with_reducible exact H) | (have H2_ := (Option.bind_some _ _).symm.trans H; rw [hy211]; with_reducible exact H2_) | (have H2_ := (Option.bind_some _ _).symm.trans H; with_reducible exact H2_) | with_reducible exact H | (rw [hy211]; exact H) | exact H
   have Ny211 := Aside0.mk hy211
   clear hy211
   have H' := Aside0.mk H
   clear H
   go_wp2_with (first | ((with_reducible refine gate_dst (N := 11) rfl ?_); refine Kd.R_lit k49 _ 49 ?hg (N := 11) ?hd (xs := ([] : List (S49))) (inner := []) (ok := fun _ => True) (okp := fun _ => True) ?hr ?hp (fun _ hk => hk) trivial (Below.refl _ _) (Nat.le_refl _) (by simp) ?_; (case hd => rfl); (case hg => rfl); (case hr => first | (go_simp; done) | (go_simp; rfl)); (case hp => exact (Reps.none _ _)); intro v212 w6 ho7 hb hg_ hnew_; clear hg_ hnew_; (first | rw [← Ny211.out] at ho7 | (simp only [Int.reduceToNat] at ho7; rw [← Ny211.out] at ho7)); have HO213 := lo ho7 HB; replace BK210 := bb BK210 hb; replace HB := bs HB hb; clear hb ho7))
   try simp only [Act.put, List.setIfInBounds_toArray, List.set_cons_zero, List.set_cons_succ]
   go_loopg [6, 7] kj2 (fun kq v6 v7 w' => ∃ (x6_2 : List (S49)) (x7_2 : Int), v7 = .int .i64 x7_2 ∧ Aside0 (impl_Vessels_moves.l0 kq x5_2 x6_2 x7_2 l0_0 l0_1 = some r) ∧ Aside0 (kq ≤ kj2) ∧ Aside0 (Kd.R k49 49 w' w.heap.size (fun _ => True) v6 x6_2) ∧ Aside0 (w'.heap[gb210]? = some (.cells #[(.slice A0_0 l0_0.length c0_0), (.slice A0_1 l0_1.length c0_1)] 29 (0, 0))) ∧ Aside0 (Below w.heap.size w w'))
   case atStart => exact ⟨(y211), (x5_2), (by first | rfl | (simp; done) | (simp [*]; done)), H', ⟨Nat.le_refl _⟩, ⟨rk HO213⟩, ⟨bk BK210⟩, ⟨bw HB⟩⟩
   case round =>
    clear H'
    try clear p2
    try clear c5
    try clear p2
    obtain ⟨x6_2, x7_2, rfl, HA, HK2, HO_6, BK210, HB⟩ := hrel
    cases gk with
    | zero => exact absurd HA.out (by simp [impl_Vessels_moves.l0])
    | succ k2 =>
     have H := HA.out
     clear HA
     simp only [impl_Vessels_moves.l0] at H
     by_cases c8 : x7_2 < (l0_0.length : Int)
     rotate_left
     ·rw [if_neg c8] at H
      have c8b0 : decide (x7_2 < (l0_0.length : Int)) = false := decide_eq_false c8
      clear c8
      obtain rfl := Option.some.inj H
      have hcz34_0 := bc0 BK210
      have hcz34_1 := bc1 BK210
      have hfz34_0 := blk_frozen BK210.out 0
      have hfz34_1 := blk_frozen BK210.out 1
      go_wp2
      go_ret
      exact ⟨_, by first | rfl | (simp [errW_none, errW_some] <;> rfl) | (simp [*, errW_none, errW_some] <;> rfl), rk HO_6, bw HB⟩
     rw [if_pos c8] at H
     have c8b0 : decide (x7_2 < (l0_0.length : Int)) = true := decide_eq_true c8
     clear c8
     have H' := Aside0.mk H
     clear H
     have hcz9_0 := bc0 BK210
     have hcz9_1 := bc1 BK210
     have hfz9_0 := blk_frozen BK210.out 0
     have hfz9_1 := blk_frozen BK210.out 1
     go_wp2
     try simp only [Act.put, List.setIfInBounds_toArray, List.set_cons_zero, List.set_cons_succ]
     go_loopg [6, 8] k2 (fun kq v6 v8 w' => ∃ (x6_3 : List (S49)) (x8_3 : Int), v8 = .int .i64 x8_3 ∧ Aside0 (impl_Vessels_moves.l1 kq x5_2 x6_3 x7_2 x8_3 l0_0 l0_1 = some r) ∧ Aside0 (kq ≤ k2) ∧ Aside0 (Kd.R k49 49 w' w.heap.size (fun _ => True) v6 x6_3) ∧ Aside0 (w'.heap[gb210]? = some (.cells #[(.slice A0_0 l0_0.length c0_0), (.slice A0_1 l0_1.length c0_1)] 29 (0, 0))) ∧ Aside0 (Below w.heap.size w w'))
     case atStart => exact ⟨(x6_2), (x5_2), (by first | rfl | (simp; done) | (simp [*]; done)), H', ⟨Nat.le_refl _⟩, ⟨rk HO_6⟩, ⟨bk BK210⟩, ⟨bw HB⟩⟩
     case round =>
      clear H'
      try clear p2
      try clear c5
      try clear c8
      try clear c8b0
      try clear hcz9_0
      try clear hcz9_1
      try clear hfz9_0
      try clear hfz9_1
      try clear p2
      obtain ⟨x6_3, x8_3, rfl, HA, HK3, HO_6, BK210, HB⟩ := hrel
      cases gk with
      | zero => exact absurd HA.out (by simp [impl_Vessels_moves.l1])
      | succ k3 =>
       have H := HA.out
       clear HA
       simp only [impl_Vessels_moves.l1] at H
       by_cases c10 : x8_3 < (l0_0.length : Int)
       rotate_left
       ·rw [if_neg c10] at H
        have c10b0 : decide (x8_3 < (l0_0.length : Int)) = false := decide_eq_false c10
        clear c10
        have H' := Aside0.mk H
        clear H
        have hcz33_0 := bc0 BK210
        have hcz33_1 := bc1 BK210
        have hfz33_0 := blk_frozen BK210.out 0
        have hfz33_1 := blk_frozen BK210.out 1
        go_wp2
        go_roundg k3
        case measure => have := HJ2.out; have := HK2.out; have := HK3.out; omega
        case rel => exact ⟨(x6_3), (wrap64 (x7_2 + 1)), (by first | rfl | (simp; done) | (simp [*]; done)), H', ⟨by have := HJ2.out; have := HK2.out; have := HK3.out; omega⟩, ⟨rk HO_6⟩, ⟨bk BK210⟩, ⟨bw HB⟩⟩
       rw [if_pos c10] at H
       have c10b0 : decide (x8_3 < (l0_0.length : Int)) = true := decide_eq_true c10
       clear c10
       by_cases c11 : x7_2 = x8_3
       ·rw [if_pos c11] at H
        have c11b0 : (x7_2 == x8_3) = true := beq_iff_eq.mpr c11
        have c11b1 : (x7_2 != x8_3) = false := bne_eq_false_iff_eq.mpr c11
        clear c11
        have H' := Aside0.mk H
        clear H
        have hcz12_0 := bc0 BK210
        have hcz12_1 := bc1 BK210
        have hfz12_0 := blk_frozen BK210.out 0
        have hfz12_1 := blk_frozen BK210.out 1
        go_wp2_with (first | ((with_reducible refine gate_dst (N := 9) rfl ?_); refine bx 9 #[.int .i64 0, .int .i64 0] 49 ?_; intro gb214 hg w13 hbox hb; replace HO_6 := Aside0.mk (Kd.R_below (Kd.R_elderB (rk HO_6) gb214 (Nat.le_of_eq hg.symm)) hb); have BK214 := Aside0.mk (hbox); have GW214 := ge HB hg; have GE214 := ge HB hg; replace HB := bs HB hb; have NB210_214 := nl BK210 hg; have NB214_210 := nr BK210 hg; replace BK210 := bb BK210 hb; clear hb hbox hg; have hnb14 := NB214_210.out; have hnc14 := NB210_214.out; have hcz15_0 := bc0 BK214; have hcz15_1 := bc1 BK214; have hfz15_0 := blk_frozen BK214.out 0; have hfz15_1 := blk_frozen BK214.out 1))
        go_roundg k3
        case measure => have := HJ2.out; have := HK2.out; have := HK3.out; omega
        case rel => exact ⟨(x6_3), (wrap64 (x8_3 + 1)), (by first | rfl | (simp; done) | (simp [*]; done)), H', ⟨by have := HJ2.out; have := HK2.out; have := HK3.out; omega⟩, ⟨by exact Kd.R_mono (Kd.R_far (p := ⟨gb214, 1, none⟩) (Kd.R_far (p := ⟨gb214, 0, none⟩) (Kd.R_mono HO_6.out (fun k_ hk => (⟨hk, hk.2⟩ : _ ∧ k_ ≠ gb214))) (fun _ hk => hk.2) (.int .i64 x7_2)) (fun _ hk => hk.2) (.int .i64 x8_3)) (fun _ hk => trivial)⟩, ⟨bk BK210⟩, ⟨bw HB⟩⟩
       rw [if_neg c11] at H
       have c11b0 : (x7_2 == x8_3) = false := beq_eq_false_iff_ne.mpr c11
       have c11b1 : (x7_2 != x8_3) = true := bne_iff_ne.mpr c11
       replace H := Option.bind_eq_some_iff.mp H
       obtain ⟨t215, A160, H⟩ := H
       (try dsimp only at H)
       have A16 := Aside0.mk A160
       clear A160
       by_cases c17 : t215 > 0
       rotate_left
       ·rw [if_neg c17] at H
        have c17b0 : decide (0 < t215) = false := decide_eq_false c17
        clear c17
        have H' := Aside0.mk H
        clear H
        have hcz27_0 := bc0 BK210
        have hcz27_1 := bc1 BK210
        have hfz27_0 := blk_frozen BK210.out 0
        have hfz27_1 := blk_frozen BK210.out 1
        go_wp2_with (first | ((with_reducible refine gate_dst (N := 9) rfl ?_); refine bx 9 #[.int .i64 0, .int .i64 0] 49 ?_; intro gb214 hg w28 hbox hb; replace HO_6 := Aside0.mk (Kd.R_below (Kd.R_elderB (rk HO_6) gb214 (Nat.le_of_eq hg.symm)) hb); have BK214 := Aside0.mk (hbox); have GW214 := ge HB hg; have GE214 := ge HB hg; replace HB := bs HB hb; have NB210_214 := nl BK210 hg; have NB214_210 := nr BK210 hg; replace BK210 := bb BK210 hb; clear hb hbox hg; have hnb29 := NB214_210.out; have hnc29 := NB210_214.out; have hcz30_0 := bc0 BK214; have hcz30_1 := bc1 BK214; have hfz30_0 := blk_frozen BK214.out 0; have hfz30_1 := blk_frozen BK214.out 1; have hcz31_0 := bc0 BK210; have hcz31_1 := bc1 BK210; have hfz31_0 := blk_frozen BK210.out 0; have hfz31_1 := blk_frozen BK210.out 1) | (go_at_call 58; (with_reducible refine (impl_Vessels_amount.calls _ _ l0_0 _ _ l0_1 x7_2 x8_3 t215 _ ?side1 ?side2 ?side3 ?side4 A16.out).mono ?_); (case side1 => exact Kd.C_below HR0_0.out (bw HB)); (case side2 => exact HC0_0.out); (case side3 => exact Kd.C_below HR0_1.out (bw HB)); (case side4 => exact HC0_1.out); rintro e w32 ⟨rfl, hb⟩; replace HO_6 := Aside0.mk (Kd.R_below (by exact (Kd.R_mono (Kd.R_far (p := ⟨gb214, 1, none⟩) (Kd.R_far (p := ⟨gb214, 0, none⟩) (Kd.R_mono HO_6.out (fun k_ hk => (⟨hk, hk.2⟩ : _ ∧ k_ ≠ gb214))) (fun _ hk => hk.2) (.int .i64 x7_2)) (fun _ hk => hk.2) (.int .i64 x8_3)) (fun _ h_ => h_.1))) hb); replace BK210 := bb BK210 hb; replace BK214 := Aside0.mk (blk_below (g := gb214) (o := .cells #[.int .i64 x7_2, .int .i64 x8_3] 49 (0, 0)) (by refine blk_put (cs := #[.int .i64 x7_2, .int .i64 0]) ?_ 1 _ rfl; refine blk_put (cs := #[.int .i64 0, .int .i64 0]) ?_ 0 _ rfl; exact bk BK214) hb); replace HB := bs HB hb; (try clear hb)))
        go_roundg k3
        case measure => have := HJ2.out; have := HK2.out; have := HK3.out; omega
        case rel => exact ⟨(x6_3), (wrap64 (x8_3 + 1)), (by first | rfl | (simp; done) | (simp [*]; done)), H', ⟨by have := HJ2.out; have := HK2.out; have := HK3.out; omega⟩, ⟨by exact Kd.R_mono HO_6.out (fun _ hk => trivial)⟩, ⟨bk BK210⟩, ⟨bw HB⟩⟩
       rw [if_pos c17] at H
       have c17b0 : decide (0 < t215) = true := decide_eq_true c17
       clear c17
       by_cases c18 : x6_3.length < 8796093022208
       rotate_left
       ·rw [if_neg c18] at H
        exact absurd H (by simp)
       rw [if_pos c18] at H
       have LMc18 := Aside0.mk c18
       clear c18
       obtain ⟨y216, hy216⟩ : ∃ y_ : List (S49), y_ = (x6_3 ++ [(⟨x7_2, x8_3⟩ : S49)]) := ⟨_, rfl⟩
       replace H : (impl_Vessels_moves.l1 k3 x5_2 y216 x7_2 (wrap64 (x8_3 + 1)) l0_0 l0_1) = some r := by first | (rw [hy216]; with_reducible exact H) | (have H2_ := (Option.bind_some _ _).symm.trans H; rw [hy216]; with_reducible exact H2_) | (have H2_ := (Option.bind_some _ _).symm.trans H; with_reducible exact H2_) | with_reducible exact H | (rw [hy216]; exact H) | exact H
       have Ny216 := Aside0.mk hy216
       clear hy216
       have H' := Aside0.mk H
       clear H
       have hcz19_0 := bc0 BK210
       have hcz19_1 := bc1 BK210
       have hfz19_0 := blk_frozen BK210.out 0
       have hfz19_1 := blk_frozen BK210.out 1
       go_wp2_with (first | ((with_reducible refine gate_dst (N := 9) rfl ?_); refine bx 9 #[.int .i64 0, .int .i64 0] 49 ?_; intro gb214 hg w20 hbox hb; replace HO_6 := Aside0.mk (Kd.R_below (Kd.R_elderB (rk HO_6) gb214 (Nat.le_of_eq hg.symm)) hb); have BK214 := Aside0.mk (hbox); have GW214 := ge HB hg; have GE214 := ge HB hg; replace HB := bs HB hb; have NB210_214 := nl BK210 hg; have NB214_210 := nr BK210 hg; replace BK210 := bb BK210 hb; clear hb hbox hg; have hnb21 := NB214_210.out; have hnc21 := NB210_214.out; have hcz22_0 := bc0 BK214; have hcz22_1 := bc1 BK214; have hfz22_0 := blk_frozen BK214.out 0; have hfz22_1 := blk_frozen BK214.out 1; have hcz23_0 := bc0 BK210; have hcz23_1 := bc1 BK210; have hfz23_0 := blk_frozen BK210.out 0; have hfz23_1 := blk_frozen BK210.out 1) | (go_at_call 58; (with_reducible refine (impl_Vessels_amount.calls _ _ l0_0 _ _ l0_1 x7_2 x8_3 t215 _ ?side1 ?side2 ?side3 ?side4 A16.out).mono ?_); (case side1 => exact Kd.C_below HR0_0.out (bw HB)); (case side2 => exact HC0_0.out); (case side3 => exact Kd.C_below HR0_1.out (bw HB)); (case side4 => exact HC0_1.out); rintro e w24 ⟨rfl, hb⟩; replace HO_6 := Aside0.mk (Kd.R_below (by exact (Kd.R_mono (Kd.R_far (p := ⟨gb214, 1, none⟩) (Kd.R_far (p := ⟨gb214, 0, none⟩) (Kd.R_mono HO_6.out (fun k_ hk => (⟨hk, hk.2⟩ : _ ∧ k_ ≠ gb214))) (fun _ hk => hk.2) (.int .i64 x7_2)) (fun _ hk => hk.2) (.int .i64 x8_3)) (fun _ h_ => h_.1))) hb); replace BK210 := bb BK210 hb; replace BK214 := Aside0.mk (blk_below (g := gb214) (o := .cells #[.int .i64 x7_2, .int .i64 x8_3] 49 (0, 0)) (by refine blk_put (cs := #[.int .i64 x7_2, .int .i64 0]) ?_ 1 _ rfl; refine blk_put (cs := #[.int .i64 0, .int .i64 0]) ?_ 0 _ rfl; exact bk BK214) hb); replace HB := bs HB hb; (try clear hb); have hcz25_0 := bc0 BK214; have hcz25_1 := bc1 BK214; have hfz25_0 := blk_frozen BK214.out 0; have hfz25_1 := blk_frozen BK214.out 1) | ((with_reducible refine gate_builtin (b := .append) (xs := #[.tmp 40, .tmp 42]) rfl ?_); at_builtin; refine Kd.R_append k49 (w0 := w) w.heap.size rfl (.tmp 40) (.tmp 42) 36 49 (.agg #[(.int .i64 0), (.int .i64 0)]) 16 rfl Try.underlying36 info49 rfl (by decide) (by omega) u6 x6_3 (⟨x7_2, x8_3⟩ : S49) [.int .i64 x7_2, .int .i64 x8_3] (fun k_ => k_ ≠ gb214) (fun _ => False) rfl rfl ?aP (fun _ hk => hk.elim) ?aF ?aO ?aB ?aS ?aL ?_; (case aP => exact k49_mkM _ _ _ (⟨x7_2, x8_3⟩ : S49)); (case aB => exact (bw HB)); (case aF => exact (fun k_ hk => Kd.freshB (g := gb214) (o := .cells #[.int .i64 x7_2, .int .i64 x8_3] 49 (0, 0)) (bk BK214) k_ hk)); (case aO => exact (by exact Kd.R_mono HO_6.out (fun _ hk => hk.2))); (case aS => exact (below_size (bw HB))); (case aL => have := LMc18.out; omega); intro v217 w26 ho hb hg hat; rw [← Ny216.out] at ho; have n0_ := Aside0.mk (blk_grown (g := gb210) (o := .cells #[.slice A0_0 l0_0.length c0_0, .slice A0_1 l0_1.length c0_1] 29 (0, 0)) (bk BK210) hg (Kd.R_ne HO_6.out BK210.out (by decide))); have n1_ := Aside0.mk (blk_grown (g := gb214) (o := .cells #[.int .i64 x7_2, .int .i64 x8_3] 49 (0, 0)) (bk BK214) hg (Kd.R_away HO_6.out (fun _ hk => hk.2))); have n2_ := Aside0.mk (hb); have n3_ := Aside0.mk (ho); clear BK210; clear BK214; clear HB; clear HO_6; have BK210 := n0_; have BK214 := n1_; have HB := n2_; have HO218 := n3_; clear n0_ n1_ n2_ n3_; clear ho hb hg hat))
       go_roundg k3
       case measure => have := HJ2.out; have := HK2.out; have := HK3.out; omega
       case rel => exact ⟨(y216), (wrap64 (x8_3 + 1)), (by first | rfl | (simp; done) | (simp [*]; done)), H', ⟨by have := HJ2.out; have := HK2.out; have := HK3.out; omega⟩, ⟨by exact Kd.R_mono HO218.out (fun _ hk => trivial)⟩, ⟨bk BK210⟩, ⟨bw HB⟩⟩
def slices_Clone_int_int.f (l0 : List Int) : Option (List Int) := if l0.length < 17592186044416 then some l0 else none
set_option maxHeartbeats 8000000 in
set_option maxRecDepth 100000 in
theorem slices_Clone_int_int.calls (A0 : Option Addr) (c0 : Nat) (l0 : List Int) (r : List Int) (w : World) (hr0 : Kd.C (Kd.int .i64) w A0 l0.length l0) (hc0 : l0.length ≤ c0) (h : slices_Clone_int_int.f l0 = some r) :
  Calls Try.prog 84 #[.slice A0 l0.length c0] w fun e w' => ∃ v0_ : Value, e = .returned (v0_) ∧ Kd.R (Kd.int .i64) 3 w' w.heap.size (fun _ => True) v0_ r ∧ Below w.heap.size w w' := by
 unfold slices_Clone_int_int.f at h
 by_cases c2 : l0.length < 17592186044416
 rotate_left
 ·rw [if_neg c2] at h
  exact absurd h (by simp)
 rw [if_pos c2] at h
 obtain rfl := Option.some.inj h
 clear h
 have LMc2 := Aside0.mk c2
 have HR0 := Aside0.mk hr0
 have HB := Aside0.mk (Below.refl w.heap.size w)
 cases A0 with
 | none =>
  have hl : l0 = [] := by
   cases l0 with
   | nil => rfl
   | cons x t => obtain ⟨ad, hd, _⟩ := hr0.2.2 (by simp); cases hd
  subst hl
  clear hr0 hc0 c2
  have hq := fun (W : World) (n : Nat) => Go.Lib.run_eql_slice_nil (P := Try.prog) W 22 3 none n c0 0 0 Try.underlying22
  simp only [Option.isNone_none] at hq
  go_enter Try.func84, Try.ntmps84
  go_wp2
  go_ret
  exact ⟨.slice none 0 0, rfl, Kd.R_nil _ _ _ _ _, HB.out⟩
 | some ad =>
  clear hr0 hc0 c2
  have hq := fun (W : World) (n : Nat) => Go.Lib.run_eql_slice_nil (P := Try.prog) W 22 3 (some ad) n c0 0 0 Try.underlying22
  simp only [Option.isNone_some] at hq
  obtain ⟨y159, hy159⟩ : ∃ y_ : List Int, y_ = ([] : List Int) := ⟨_, rfl⟩
  obtain ⟨y162, hy162⟩ : ∃ y_ : List Int, y_ = y159 ++ l0 := ⟨_, rfl⟩
  have hyl : Aside0 (y162 = l0) := ⟨by rw [hy162, hy159, List.nil_append]⟩
  have LM := Aside0.mk (show y159.length + l0.length < 17592186044416 by rw [hy159]; simpa using LMc2.out)
  have Ny159 := Aside0.mk hy159
  have Ny162 := Aside0.mk hy162
  clear hy159 hy162
  go_enter Try.func84, Try.ntmps84
  go_wp2_with (first | ((with_reducible refine gate_dst (N := 5) rfl ?_); refine Kd.R_lit (Kd.int .i64) _ 3 ?hg (N := 5) ?hd (xs := ([] : List Int)) (inner := []) (ok := fun _ => True) (okp := fun _ => True) ?hr ?hp (fun _ hk => hk) trivial (Below.refl _ _) (Nat.le_refl _) (by simp) ?_; (case hd => rfl); (case hg => rfl); (case hr => first | (go_simp; done) | (go_simp; rfl)); (case hp => exact (Reps.none _ _)); intro v160 w3 ho4 hb hg_ hnew_; clear hg_ hnew_; (first | rw [← Ny159.out] at ho4 | (simp only [Int.reduceToNat] at ho4; rw [← Ny159.out] at ho4)); have HO161 := lo ho4 HB; replace HB := bs HB hb; clear hb ho4) | ((with_reducible refine gate_builtin (b := .append) (xs := #[.tmp 5, .tmp 6]) rfl ?_); at_builtin; refine Kd.R_append_rows (Kd.int .i64) (w0 := w) w.heap.size rfl (.tmp 5) (.tmp 6) 22 3 (.int .i64 0) 8 rfl Try.underlying22 info3 rfl (by decide) (by omega) v160 y159 l0 _ _ _ (fun _ => True) (fun _ => False) rfl rfl ?aO ?aR (fun _ _ h => h) (fun _ h => h.elim) ?aF ?aB ?aS ?aL ?_; (case aR => exact ck HR0 HB); (case aB => exact (bw HB)); (case aF => exact (fun _ _ => trivial)); (case aO => exact (rk HO161)); (case aS => exact (below_size (bw HB))); (case aL => have := LM.out; omega); intro v163 w5 ho hb hg hat; rw [← Ny162.out] at ho; have n0_ := Aside0.mk (hb); have n1_ := Aside0.mk (ho); clear HB; clear HO161; have HB := n0_; have HO164 := n1_; clear n0_ n1_; clear ho hb hg hat))
  go_ret
  exact ⟨_, rfl, by rw [← hyl.out]; exact HO164.out, HB.out⟩
def impl_Vessels_own.f (l0_0 : List Int) (l0_1 : List Int) : Option (List Int × List Int) := (slices_Clone_int_int.f l0_0).bind fun t221 => ((slices_Clone_int_int.f l0_1).bind fun t224 => (some (t221, t224)))
def impl_Vessels_own.T1 : Bool × List (List Nat × List Nat) := (true, [([], []), ([0], [0]), ([1], [1]), ([], []), ([3], [3]), ([4, 2], [4]), ([2, 5], [2, 5]), ([6, 5, 0, 1, 2, 3, 4, 5, 6], [6])])
def impl_Vessels_own.B1 : List Nat := [0, 1, 3, 0, 8, 31, 63, 127]
theorem impl_Vessels_own.tab1 : rtab .any (opsOf Try.f73 1) = impl_Vessels_own.T1 := by kernel_rfl
theorem impl_Vessels_own.bits1 : waitsOk impl_Vessels_own.T1.2 impl_Vessels_own.B1 = true := by kernel_rfl
set_option maxHeartbeats 8000000 in
set_option maxRecDepth 100000 in
theorem impl_Vessels_own.calls (A0_0 : Option Addr) (c0_0 : Nat) (l0_0 : List Int) (A0_1 : Option Addr) (c0_1 : Nat) (l0_1 : List Int) (r1 : List Int) (r2 : List Int) (w : World) (hr0_0 : Kd.C (Kd.int .i64) w A0_0 l0_0.length l0_0) (hc0_0 : l0_0.length ≤ c0_0) (hr0_1 : Kd.C (Kd.int .i64) w A0_1 l0_1.length l0_1) (hc0_1 : l0_1.length ≤ c0_1) (h : impl_Vessels_own.f l0_0 l0_1 = some (r1, r2)) :
  Calls Try.prog 73 #[.agg #[.slice A0_0 l0_0.length c0_0, .slice A0_1 l0_1.length c0_1]] w fun e w' => ∃ v0_ v1_ : Value, e = .returned (.agg #[v0_, v1_]) ∧ Kd.R (Kd.int .i64) 3 w' w.heap.size (fun k_ => some k_ ≠ (v1_ : Value).ownBlock) v0_ r1 ∧ Kd.R (Kd.int .i64) 3 w' w.heap.size (fun k_ => some k_ ≠ (v0_ : Value).ownBlock) v1_ r2 ∧ Below w.heap.size w w' := by
 have hu29 := Try.underlying29
 have HR0_0 := Aside0.mk hr0_0
 have HC0_0 := Aside0.mk hc0_0
 clear hr0_0 hc0_0
 have HR0_1 := Aside0.mk hr0_1
 have HC0_1 := Aside0.mk hc0_1
 clear hr0_1 hc0_1
 have HB := Aside0.mk (Below.refl w.heap.size w)
 have H : ((slices_Clone_int_int.f l0_0).bind fun t221 => ((slices_Clone_int_int.f l0_1).bind fun t224 => (some (t221, t224)))) = some (r1, r2) := h
 clear h
 replace H := Option.bind_eq_some_iff.mp H
 obtain ⟨t221, A20, H⟩ := H
 (try dsimp only at H)
 have A2 := Aside0.mk A20
 clear A20
 replace H := Option.bind_eq_some_iff.mp H
 obtain ⟨t224, A30, H⟩ := H
 (try dsimp only at H)
 have A3 := Aside0.mk A30
 clear A30
 simp only [Option.some.injEq, Prod.mk.injEq] at H
 obtain ⟨rfl, rfl⟩ := H
 go_enter Try.func73, Try.ntmps73
 try go_wp2_with (first | ((with_reducible refine gate_dst (N := 1) rfl ?_); refine bx 1 #[.slice A0_0 l0_0.length c0_0, .slice A0_1 l0_1.length c0_1] 29 ?_; intro gb219 hg w4 hbox hb; have BK219 := Aside0.mk (hbox); have GW219 := ge HB hg; have GE219 := ge HB hg; replace HB := bs HB hb; clear hb hbox hg) | ((with_reducible refine gate_dst (N := 2) rfl ?_); refine bx 2 #[.slice none 0 0, .slice none 0 0] 29 ?_; intro gb220 hg w5 hbox hb; have BK220 := Aside0.mk (hbox); have GW220 := ge HB hg; have GE220 := ge HB hg; replace HB := bs HB hb; have NB219_220 := nl BK219 hg; have NB220_219 := nr BK219 hg; replace BK219 := bb BK219 hb; clear hb hbox hg))
 replace BK219 := Aside0.mk (blk_drew BK219.out)
 replace BK220 := Aside0.mk (blk_drew BK220.out)
 replace HB := Aside0.mk (below_drew1 HB.out)
 refine start_ (n := 8) (S := fun w' => w'.cell? ⟨gb219, 0, none⟩ = some (.slice A0_0 l0_0.length c0_0) ∧ w'.cell? ⟨gb219, 1, none⟩ = some (.slice A0_1 l0_1.length c0_1)) (ds := []) (bl 8 0) (by kernel_rfl) rfl rfl ⟨bc0 BK219, bc1 BK219⟩ (fun hHeld => ?_); refine with_tabW impl_Vessels_own.tab1 impl_Vessels_own.bits1 (fun HT_ HW_ => ?_)
 generalize w5.drew = w6 at BK219 BK220 HB hHeld ⊢
 refine pu 0 3 (bl 8 1) HT_.out (v := ?_) (a' := ?_) ?_ ?_ ?_
 rotate_left; (intro w'; go_simp; with_reducible rfl); rotate_left; (simp only [sqa, sqb, sqc, sqd, i64_w, i32_w]; rfl)
 refine pu 3 6 (bl 8 9) HT_.out (v := ?_) (a' := ?_) ?_ ?_ ?_
 rotate_left; (intro w'; go_simp; with_reducible rfl); rotate_left; (simp only [sqa, sqb, sqc, sqd, i64_w, i32_w]; rfl)
 refine tk 1 4 (bl 8 11) HT_.out HW_.out hHeld (v := ?_) (a' := ?_) ?_ ?_ ?_
 rotate_left; (rintro w' ⟨s0, s1⟩; go_simp; with_reducible rfl); rotate_left; (simp only [sqa, sqb, sqc, sqd, i64_w, i32_w]; rfl)
 refine tk 4 7 (bl 8 27) HT_.out HW_.out hHeld (v := ?_) (a' := ?_) ?_ ?_ ?_
 rotate_left; (rintro w' ⟨s0, s1⟩; go_simp; with_reducible rfl); rotate_left; (simp only [sqa, sqb, sqc, sqd, i64_w, i32_w]; rfl)
 refine on 2 5 (bl 8 31) HT_.out (fun K hK => ?_)
 refine gs Try.func84 #[.slice A0_0 l0_0.length c0_0] ?_
 with_reducible refine (slices_Clone_int_int.calls _ _ l0_0 t221 _ ?side1 ?side2 A2.out).mono ?_
 (case side1 => exact ck HR0_0 HB)
 (case side2 => exact HC0_0.out)
 rintro e w7 ⟨v222, rfl, ho0, hb⟩
 refine ⟨_, rfl, ?_⟩
 have HO223 := lo ho0 HB
 replace BK219 := bb BK219 hb
 replace BK220 := bb BK220 hb
 replace HB := bs HB hb
 (try clear hb); (try clear hb2); (try clear hk); (try clear hi); (try clear ho0)
 refine hK.out _ _ ⟨bc0 BK219, bc1 BK219⟩ (fun hHeld => ?_)
 clear hK K
 refine norm_ (a' := ?_) ?_ ?_; rotate_left; (show Act.put _ (some 5) _ = _; simp only [sqa, sqb, sqc, sqd, i64_w, i32_w]; rfl)
 refine on 5 8 (bl 8 63) HT_.out (fun K hK => ?_)
 refine gs Try.func84 #[.slice A0_1 l0_1.length c0_1] ?_
 with_reducible refine (slices_Clone_int_int.calls _ _ l0_1 t224 _ ?side1 ?side2 A3.out).mono ?_
 (case side1 => exact ck HR0_1 HB)
 (case side2 => exact HC0_1.out)
 rintro e w8 ⟨v225, rfl, ho0, hb⟩
 refine ⟨_, rfl, ?_⟩
 have HO226 := Aside0.mk (Kd.R_lower (Kd.R_new' ho0 (Kd.R_lt (rk HO223))) (below_size (bw HB)))
 replace HO223 := Aside0.mk (Kd.R_elder' (rk HO223) (Kd.R_base ho0) hb)
 replace BK219 := bb BK219 hb
 replace BK220 := bb BK220 hb
 replace HB := bs HB hb
 (try clear hb); (try clear hb2); (try clear hk); (try clear hi); (try clear ho0)
 obtain ⟨Ao9, co9, eo9⟩ := Kd.R_slice HO226.out
 (first | subst eo9 | (injection eo9 with f1_ f2_ f3_; have f4_ := f1_.symm; have f5_ := f3_.symm; clear f1_ f2_ f3_; subst f4_; subst f5_))
 obtain ⟨Ao10, co10, eo10⟩ := Kd.R_slice HO223.out
 (first | subst eo10 | (injection eo10 with f1_ f2_ f3_; have f4_ := f1_.symm; have f5_ := f3_.symm; clear f1_ f2_ f3_; subst f4_; subst f5_))
 refine hK.out _ _ ⟨bc0 BK219, bc1 BK219⟩ (fun hHeld => ?_)
 clear hK K
 refine norm_ (a' := ?_) ?_ ?_; rotate_left; (show Act.put _ (some 8) _ = _; simp only [sqa, sqb, sqc, sqd, i64_w, i32_w]; rfl)
 refine pu 6 9 (bl 8 127) HT_.out (v := ?_) (a' := ?_) ?_ ?_ ?_
 rotate_left; (intro w'; go_simp; with_reducible rfl); rotate_left; (simp only [sqa, sqb, sqc, sqd, i64_w, i32_w]; rfl)
 refine one_ (i := 7) (N := none) (bl 8 255) rfl rfl (one_of HT_.out (by kernel_rfl)) (by decide) (fun K hK => ?_)
 have hs11 : w8.cell? ⟨gb220, 0, none⟩ = some (.slice none 0 0) := bc0 BK220
 have hfs11 := blk_frozen BK220.out 0
 have hns11_0 := NB219_220.out
 have hms11_0 := NB220_219.out
 have hs12 : w8.cell? ⟨gb220, 1, none⟩ = some (.slice none 0 0) := bc1 BK220
 have hfs12 := blk_frozen BK220.out 1
 have hns12_0 := NB219_220.out
 have hms12_0 := NB220_219.out
 refine skip_ (w1 := ?_) (by rfl) rfl ?_ ?_
 rotate_left
 ·go_simp
  rfl
 refine hK.out _ _ ⟨((cell_far (p := ⟨gb220, _, none⟩) NB219_220.out _).trans (((cell_far (p := ⟨gb220, _, none⟩) NB219_220.out _).trans (hHeld.1)))), ((cell_far (p := ⟨gb220, _, none⟩) NB219_220.out _).trans (((cell_far (p := ⟨gb220, _, none⟩) NB219_220.out _).trans (hHeld.2))))⟩ (fun hHeld => ?_)
 clear hK K
 refine done_ (done_of HT_.out (by kernel_rfl)) ?_
 try go_wp2
 refine bodyPost_ret (results_cell_row rfl _ _ gb220 29 #[.slice Ao10 t221.length co10, .slice Ao9 t224.length co9] (0, 0) _ rfl (by refine blk_put (cs := #[.slice Ao10 t221.length co10, .slice none 0 0]) ?_ 1 _ rfl; refine blk_put (cs := #[.slice none 0 0, .slice none 0 0]) ?_ 0 _ rfl; exact bk BK220) Try.underlying29 rfl (by kernel_rfl)) rfl ?_
 exact ⟨_, _, by first | rfl | (simp [errW_none, errW_some] <;> rfl) | (simp [*, errW_none, errW_some] <;> rfl), by exact Kd.R_mono (Kd.R_far (p := ⟨gb220, 1, none⟩) (Kd.R_far (p := ⟨gb220, 0, none⟩) (Kd.R_types HO223.out BK220.out (by decide)) (fun _ hk => hk.2) (.slice Ao10 t221.length co10)) (fun _ hk => hk.2) (.slice Ao9 t224.length co9)) (fun _ hk => hk.1.2), by exact Kd.R_mono (Kd.R_far (p := ⟨gb220, 1, none⟩) (Kd.R_far (p := ⟨gb220, 0, none⟩) (Kd.R_types HO226.out BK220.out (by decide)) (fun _ hk => hk.2) (.slice Ao10 t221.length co10)) (fun _ hk => hk.2) (.slice Ao9 t224.length co9)) (fun _ hk => hk.1.2), bw HB⟩
def impl_Vessels_behind.f (l0_0 : List Int) (l0_1 : List Int) (a1_0 : Int) (a1_1 : Int) : Option (List Int × List Int) := (impl_Vessels_own.f l0_0 l0_1).bind fun bt230 => ((impl_Vessels_amount.f l0_0 l0_1 a1_0 a1_1).bind fun t236 => (if a1_0 ≥ 0 then (if 0 ≤ a1_0 then (if a1_0 < (bt230.2.length : Int) then ((some (bt230.2.set (a1_0 : Int).toNat (wrap64 ((rd bt230.2 a1_0) - t236)) : List Int)).bind fun y239 => (if a1_1 ≥ 0 then (if 0 ≤ a1_1 then (if a1_1 < (bt230.2.length : Int) then (some (bt230.1, (y239.set (a1_1 : Int).toNat (wrap64 ((rd y239 a1_1) + t236))))) else (none)) else (none)) else (some (bt230.1, y239)))) else (none)) else (none)) else (if a1_1 ≥ 0 then (if 0 ≤ a1_1 then (if a1_1 < (bt230.2.length : Int) then (some (bt230.1, (bt230.2.set (a1_1 : Int).toNat (wrap64 ((rd bt230.2 a1_1) + t236))))) else (none)) else (none)) else (some (bt230.1, bt230.2)))))
def impl_Vessels_behind.T1 : Bool × List (List Nat × List Nat) := (true, [([], []), ([0], [0]), ([], []), ([], []), ([2, 3, 1], [2, 3]), ([], []), ([5, 1, 4, 0, 1, 5], [1, 5]), ([4, 6, 0, 1, 2, 3, 4, 5, 6], [4])])
def impl_Vessels_behind.B1 : List Nat := [0, 1, 0, 0, 15, 0, 63, 127]
theorem impl_Vessels_behind.tab1 : rtab .any (opsOf Try.f59 1) = impl_Vessels_behind.T1 := by kernel_rfl
theorem impl_Vessels_behind.bits1 : waitsOk impl_Vessels_behind.T1.2 impl_Vessels_behind.B1 = true := by kernel_rfl
set_option maxHeartbeats 8000000 in
set_option maxRecDepth 100000 in
theorem impl_Vessels_behind.calls (A0_0 : Option Addr) (c0_0 : Nat) (l0_0 : List Int) (A0_1 : Option Addr) (c0_1 : Nat) (l0_1 : List Int) (a1_0 : Int) (a1_1 : Int) (r1 : List Int) (r2 : List Int) (w : World) (hr0_0 : Kd.C (Kd.int .i64) w A0_0 l0_0.length l0_0) (hc0_0 : l0_0.length ≤ c0_0) (hr0_1 : Kd.C (Kd.int .i64) w A0_1 l0_1.length l0_1) (hc0_1 : l0_1.length ≤ c0_1) (h : impl_Vessels_behind.f l0_0 l0_1 a1_0 a1_1 = some (r1, r2)) :
  Calls Try.prog 59 #[.agg #[.slice A0_0 l0_0.length c0_0, .slice A0_1 l0_1.length c0_1], .agg #[.int .i64 a1_0, .int .i64 a1_1]] w fun e w' => ∃ v0_ v1_ : Value, e = .returned (.agg #[v0_, v1_]) ∧ Kd.R (Kd.int .i64) 3 w' w.heap.size (fun k_ => some k_ ≠ (v1_ : Value).ownBlock) v0_ r1 ∧ Kd.R (Kd.int .i64) 3 w' w.heap.size (fun k_ => some k_ ≠ (v0_ : Value).ownBlock) v1_ r2 ∧ Below w.heap.size w w' := by
 have hu29 := Try.underlying29
 have hu49 := Try.underlying49
 have HR0_0 := Aside0.mk hr0_0
 have HC0_0 := Aside0.mk hc0_0
 clear hr0_0 hc0_0
 have HR0_1 := Aside0.mk hr0_1
 have HC0_1 := Aside0.mk hc0_1
 clear hr0_1 hc0_1
 have HB := Aside0.mk (Below.refl w.heap.size w)
 have H : ((impl_Vessels_own.f l0_0 l0_1).bind fun bt230 => ((impl_Vessels_amount.f l0_0 l0_1 a1_0 a1_1).bind fun t236 => (if a1_0 ≥ 0 then (if 0 ≤ a1_0 then (if a1_0 < (bt230.2.length : Int) then ((some (bt230.2.set (a1_0 : Int).toNat (wrap64 ((rd bt230.2 a1_0) - t236)) : List Int)).bind fun y239 => (if a1_1 ≥ 0 then (if 0 ≤ a1_1 then (if a1_1 < (bt230.2.length : Int) then (some (bt230.1, (y239.set (a1_1 : Int).toNat (wrap64 ((rd y239 a1_1) + t236))))) else (none)) else (none)) else (some (bt230.1, y239)))) else (none)) else (none)) else (if a1_1 ≥ 0 then (if 0 ≤ a1_1 then (if a1_1 < (bt230.2.length : Int) then (some (bt230.1, (bt230.2.set (a1_1 : Int).toNat (wrap64 ((rd bt230.2 a1_1) + t236))))) else (none)) else (none)) else (some (bt230.1, bt230.2)))))) = some (r1, r2) := h
 clear h
 replace H := Option.bind_eq_some_iff.mp H
 obtain ⟨⟨t230, t233⟩, A30, H⟩ := H
 (try dsimp only at H)
 have A3 := Aside0.mk A30
 clear A30
 replace H := Option.bind_eq_some_iff.mp H
 obtain ⟨t236, A40, H⟩ := H
 (try dsimp only at H)
 have A4 := Aside0.mk A40
 clear A40
 by_cases c5 : a1_0 ≥ 0
 rotate_left
 ·rw [if_neg c5] at H
  have c5b0 : decide (0 ≤ a1_0) = false := decide_eq_false c5
  clear c5
  by_cases c68 : a1_1 ≥ 0
  rotate_left
  ·rw [if_neg c68] at H
   have c68b0 : decide (0 ≤ a1_1) = false := decide_eq_false c68
   clear c68
   simp only [Option.some.injEq, Prod.mk.injEq] at H
   obtain ⟨rfl, rfl⟩ := H
   go_enter Try.func59, Try.ntmps59
   try go_wp2_with (first | ((with_reducible refine gate_dst (N := 2) rfl ?_); refine bx 2 #[.slice A0_0 l0_0.length c0_0, .slice A0_1 l0_1.length c0_1] 29 ?_; intro gb227 hg w97 hbox hb; have BK227 := Aside0.mk (hbox); have GW227 := ge HB hg; have GE227 := ge HB hg; replace HB := bs HB hb; clear hb hbox hg) | ((with_reducible refine gate_dst (N := 3) rfl ?_); refine bx 3 #[.int .i64 a1_0, .int .i64 a1_1] 49 ?_; intro gb228 hg w98 hbox hb; have BK228 := Aside0.mk (hbox); have GW228 := ge HB hg; have GE228 := ge HB hg; replace HB := bs HB hb; have NB227_228 := nl BK227 hg; have NB228_227 := nr BK227 hg; replace BK227 := bb BK227 hb; clear hb hbox hg) | ((with_reducible refine gate_dst (N := 4) rfl ?_); refine bx 4 #[.slice none 0 0, .slice none 0 0] 29 ?_; intro gb229 hg w99 hbox hb; have BK229 := Aside0.mk (hbox); have GW229 := ge HB hg; have GE229 := ge HB hg; replace HB := bs HB hb; have NB227_229 := nl BK227 hg; have NB229_227 := nr BK227 hg; replace BK227 := bb BK227 hb; have NB228_229 := nl BK228 hg; have NB229_228 := nr BK228 hg; replace BK228 := bb BK228 hb; clear hb hbox hg))
   replace BK227 := Aside0.mk (blk_drew BK227.out)
   replace BK228 := Aside0.mk (blk_drew BK228.out)
   replace BK229 := Aside0.mk (blk_drew BK229.out)
   replace HB := Aside0.mk (below_drew1 HB.out)
   refine start_ (n := 8) (S := fun w' => w'.cell? ⟨gb227, 0, none⟩ = some (.slice A0_0 l0_0.length c0_0) ∧ w'.cell? ⟨gb227, 1, none⟩ = some (.slice A0_1 l0_1.length c0_1) ∧ w'.cell? ⟨gb228, 0, none⟩ = some (.int .i64 a1_0) ∧ w'.cell? ⟨gb228, 1, none⟩ = some (.int .i64 a1_1)) (ds := []) (bl 8 0) (by kernel_rfl) rfl rfl ⟨bc0 BK227, bc1 BK227, bc0 BK228, bc1 BK228⟩ (fun hHeld => ?_); refine with_tabW impl_Vessels_behind.tab1 impl_Vessels_behind.bits1 (fun HT_ HW_ => ?_)
   generalize w99.drew = w100 at BK227 BK228 BK229 HB hHeld ⊢
   refine tk 0 7 (bl 8 1) HT_.out HW_.out hHeld (v := ?_) (a' := ?_) ?_ ?_ ?_
   rotate_left; (rintro w' ⟨s0, s1, s2, s3⟩; go_simp; with_reducible rfl); rotate_left; (simp only [sqa, sqb, sqc, sqd, i64_w, i32_w]; rfl)
   refine tk 2 9 (bl 8 5) HT_.out HW_.out hHeld (v := ?_) (a' := ?_) ?_ ?_ ?_
   rotate_left; (rintro w' ⟨s0, s1, s2, s3⟩; go_simp; with_reducible rfl); rotate_left; (simp only [sqa, sqb, sqc, sqd, i64_w, i32_w]; rfl)
   refine tk 3 10 (bl 8 13) HT_.out HW_.out hHeld (v := ?_) (a' := ?_) ?_ ?_ ?_
   rotate_left; (rintro w' ⟨s0, s1, s2, s3⟩; go_simp; with_reducible rfl); rotate_left; (simp only [sqa, sqb, sqc, sqd, i64_w, i32_w]; rfl)
   refine join_ (σ := Value × Value × Nat) 2 (bl 8 63) (fun s_ => [(8, .agg #[s_.1, s_.2.1]), (11, .int .i64 t236), (5, .pointer (some ⟨s_.2.2, 0, none⟩))]) (fun s_ w' => (w'.cell? ⟨gb227, 0, none⟩ = some (.slice A0_0 l0_0.length c0_0) ∧ w'.cell? ⟨gb227, 1, none⟩ = some (.slice A0_1 l0_1.length c0_1) ∧ w'.cell? ⟨gb228, 0, none⟩ = some (.int .i64 a1_0) ∧ w'.cell? ⟨gb228, 1, none⟩ = some (.int .i64 a1_1)) ∧ (Kd.R (Kd.int .i64) 3 w' w.heap.size (fun k_ => some k_ ≠ (s_.2.1 : Value).ownBlock) s_.1 t230) ∧ (Kd.R (Kd.int .i64) 3 w' w.heap.size (fun k_ => some k_ ≠ (s_.1 : Value).ownBlock) s_.2.1 t233) ∧ (w'.heap[gb227]? = some (.cells #[.slice A0_0 l0_0.length c0_0, .slice A0_1 l0_1.length c0_1] 29 (0, 0))) ∧ (w'.heap[gb228]? = some (.cells #[.int .i64 a1_0, .int .i64 a1_1] 49 (0, 0))) ∧ (w'.heap[gb229]? = some (.cells #[.slice none 0 0, .slice none 0 0] 29 (0, 0))) ∧ (w'.heap[s_.2.2]? = some (.cells #[.slice none 0 0, .slice none 0 0] 29 (0, 0))) ∧ (w.heap.size ≤ s_.2.2) ∧ (w.heap.size ≤ s_.2.2) ∧ (gb227 ≠ s_.2.2) ∧ (s_.2.2 ≠ gb227) ∧ (gb228 ≠ s_.2.2) ∧ (s_.2.2 ≠ gb228) ∧ (gb229 ≠ s_.2.2) ∧ (s_.2.2 ≠ gb229) ∧ (Below w.heap.size w w')) ?_ ?_
   rotate_left
   ·intro hCont
    refine two_ (i := 1) (j := 5) (Ni := some 8) (Nj := some 5) (bl 8 15) (bl 8 45) rfl rfl rfl rfl (two_of HT_.out (by kernel_rfl)) (by decide) (by decide) (fun K hK => ?_) (fun K hK => ?_)
    ·skip
     refine gs Try.func73 #[.agg #[.slice A0_0 l0_0.length c0_0, .slice A0_1 l0_1.length c0_1]] ?_
     with_reducible refine (impl_Vessels_own.calls _ _ l0_0 _ _ l0_1 t230 t233 _ ?side1 ?side2 ?side3 ?side4 A3.out).mono ?_
     (case side1 => exact ck HR0_0 HB)
     (case side2 => exact HC0_0.out)
     (case side3 => exact ck HR0_1 HB)
     (case side4 => exact HC0_1.out)
     rintro e w101 ⟨v231, v234, rfl, ho0, ho1, hb⟩
     refine ⟨_, rfl, ?_⟩
     have HO232 := lo ho0 HB
     have HO235 := lo ho1 HB
     replace BK227 := bb BK227 hb
     replace BK228 := bb BK228 hb
     replace BK229 := bb BK229 hb
     replace HB := bs HB hb
     (try clear hb); (try clear hb2); (try clear hk); (try clear hi); (try clear ho0); (try clear ho1)
     refine hK.out _ _ ⟨bc0 BK227, bc1 BK227, bc0 BK228, bc1 BK228⟩ (fun hHeld => ?_)
     clear hK K
     refine norm_ (a' := ?_) ?_ ?_; rotate_left; (show Act.put _ (some 8) _ = _; simp only [sqa, sqb, sqc, sqd, i64_w, i32_w]; rfl)
     refine two_ (i := 4) (j := 5) (Ni := some 11) (Nj := some 5) (bl 8 31) (bl 8 47) rfl rfl rfl rfl (two_of HT_.out (by kernel_rfl)) (by decide) (by decide) (fun K hK => ?_) (fun K hK => ?_)
     ·skip
      refine gs Try.func58 #[.agg #[.slice A0_0 l0_0.length c0_0, .slice A0_1 l0_1.length c0_1], .agg #[.int .i64 a1_0, .int .i64 a1_1]] ?_
      with_reducible refine (impl_Vessels_amount.calls _ _ l0_0 _ _ l0_1 a1_0 a1_1 t236 _ ?side1 ?side2 ?side3 ?side4 A4.out).mono ?_
      (case side1 => exact ck HR0_0 HB)
      (case side2 => exact HC0_0.out)
      (case side3 => exact ck HR0_1 HB)
      (case side4 => exact HC0_1.out)
      rintro e w102 ⟨rfl, hb⟩
      refine ⟨_, rfl, ?_⟩
      replace HO232 := rb HO232 hb
      replace HO235 := rb HO235 hb
      replace BK227 := bb BK227 hb
      replace BK228 := bb BK228 hb
      replace BK229 := bb BK229 hb
      replace HB := bs HB hb
      (try clear hb); (try clear hb2); (try clear hk); (try clear hi)
      refine hK.out _ _ ⟨bc0 BK227, bc1 BK227, bc0 BK228, bc1 BK228⟩ (fun hHeld => ?_)
      clear hK K
      refine norm_ (a' := ?_) ?_ ?_; rotate_left; (show Act.put _ (some 11) _ = _; simp only [sqa, sqb, sqc, sqd, i64_w, i32_w]; rfl)
      refine on 5 5 (bl 8 63) HT_.out (fun K hK => ?_)
      refine box_step ?hg (N := 5) ?hd (cs := #[.slice none 0 0, .slice none 0 0]) (t := 29) ?hr ?_; (case hd => rfl); (case hg => rfl); (case hr => first | (go_simp; done) | (go_simp; rfl))
      intro gb237 hg w103 hbox hb
      replace HO232 := rb HO232 hb
      replace HO235 := rb HO235 hb
      have BK237 := Aside0.mk (hbox)
      have GW237 := ge HB hg
      have GE237 := ge HB hg
      replace HB := bs HB hb
      have NB227_237 := nl BK227 hg
      have NB237_227 := nr BK227 hg
      replace BK227 := bb BK227 hb
      have NB228_237 := nl BK228 hg
      have NB237_228 := nr BK228 hg
      replace BK228 := bb BK228 hb
      have NB229_237 := nl BK229 hg
      have NB237_229 := nr BK229 hg
      replace BK229 := bb BK229 hb
      clear hb hbox hg
      refine hK.out _ _ ⟨bc0 BK227, bc1 BK227, bc0 BK228, bc1 BK228⟩ (fun hHeld => ?_)
      clear hK K
      refine norm_ (a' := ?_) ?_ ?_; rotate_left; (show Act.put _ (some 5) _ = _; simp only [sqa, sqb, sqc, sqd, i64_w, i32_w]; rfl)
      exact norm_ (by simp only [putAll, Act.put, List.setIfInBounds_toArray, List.set_cons_zero, List.set_cons_succ]) (hCont (v231, v234, gb237) _ ⟨hHeld, (rk HO232), (rk HO235), (bk BK227), (bk BK228), (bk BK229), (bk BK237), GW237.out, GE237.out, NB227_237.out, NB237_227.out, NB228_237.out, NB237_228.out, NB229_237.out, NB237_229.out, (bw HB)⟩)
     ·skip
      refine box_step ?hg (N := 5) ?hd (cs := #[.slice none 0 0, .slice none 0 0]) (t := 29) ?hr ?_; (case hd => rfl); (case hg => rfl); (case hr => first | (go_simp; done) | (go_simp; rfl))
      intro gb237 hg w102 hbox hb
      replace HO232 := rb HO232 hb
      replace HO235 := rb HO235 hb
      have BK237 := Aside0.mk (hbox)
      have GW237 := ge HB hg
      have GE237 := ge HB hg
      replace HB := bs HB hb
      have NB227_237 := nl BK227 hg
      have NB237_227 := nr BK227 hg
      replace BK227 := bb BK227 hb
      have NB228_237 := nl BK228 hg
      have NB237_228 := nr BK228 hg
      replace BK228 := bb BK228 hb
      have NB229_237 := nl BK229 hg
      have NB237_229 := nr BK229 hg
      replace BK229 := bb BK229 hb
      clear hb hbox hg
      refine hK.out _ _ ⟨bc0 BK227, bc1 BK227, bc0 BK228, bc1 BK228⟩ (fun hHeld => ?_)
      clear hK K
      refine norm_ (a' := ?_) ?_ ?_; rotate_left; (show Act.put _ (some 5) _ = _; simp only [sqa, sqb, sqc, sqd, i64_w, i32_w]; rfl)
      refine on 4 11 (bl 8 63) HT_.out (fun K hK => ?_)
      refine gs Try.func58 #[.agg #[.slice A0_0 l0_0.length c0_0, .slice A0_1 l0_1.length c0_1], .agg #[.int .i64 a1_0, .int .i64 a1_1]] ?_
      with_reducible refine (impl_Vessels_amount.calls _ _ l0_0 _ _ l0_1 a1_0 a1_1 t236 _ ?side1 ?side2 ?side3 ?side4 A4.out).mono ?_
      (case side1 => exact ck HR0_0 HB)
      (case side2 => exact HC0_0.out)
      (case side3 => exact ck HR0_1 HB)
      (case side4 => exact HC0_1.out)
      rintro e w103 ⟨rfl, hb⟩
      refine ⟨_, rfl, ?_⟩
      replace HO232 := rb HO232 hb
      replace HO235 := rb HO235 hb
      replace BK227 := bb BK227 hb
      replace BK228 := bb BK228 hb
      replace BK229 := bb BK229 hb
      replace BK237 := bb BK237 hb
      replace HB := bs HB hb
      (try clear hb); (try clear hb2); (try clear hk); (try clear hi)
      refine hK.out _ _ ⟨bc0 BK227, bc1 BK227, bc0 BK228, bc1 BK228⟩ (fun hHeld => ?_)
      clear hK K
      refine norm_ (a' := ?_) ?_ ?_; rotate_left; (show Act.put _ (some 11) _ = _; simp only [sqa, sqb, sqc, sqd, i64_w, i32_w]; rfl)
      exact norm_ (by simp only [putAll, Act.put, List.setIfInBounds_toArray, List.set_cons_zero, List.set_cons_succ]) (hCont (v231, v234, gb237) _ ⟨hHeld, (rk HO232), (rk HO235), (bk BK227), (bk BK228), (bk BK229), (bk BK237), GW237.out, GE237.out, NB227_237.out, NB237_227.out, NB228_237.out, NB237_228.out, NB229_237.out, NB237_229.out, (bw HB)⟩)
    ·skip
     refine box_step ?hg (N := 5) ?hd (cs := #[.slice none 0 0, .slice none 0 0]) (t := 29) ?hr ?_; (case hd => rfl); (case hg => rfl); (case hr => first | (go_simp; done) | (go_simp; rfl))
     intro gb237 hg w101 hbox hb
     have BK237 := Aside0.mk (hbox)
     have GW237 := ge HB hg
     have GE237 := ge HB hg
     replace HB := bs HB hb
     have NB227_237 := nl BK227 hg
     have NB237_227 := nr BK227 hg
     replace BK227 := bb BK227 hb
     have NB228_237 := nl BK228 hg
     have NB237_228 := nr BK228 hg
     replace BK228 := bb BK228 hb
     have NB229_237 := nl BK229 hg
     have NB237_229 := nr BK229 hg
     replace BK229 := bb BK229 hb
     clear hb hbox hg
     refine hK.out _ _ ⟨bc0 BK227, bc1 BK227, bc0 BK228, bc1 BK228⟩ (fun hHeld => ?_)
     clear hK K
     refine norm_ (a' := ?_) ?_ ?_; rotate_left; (show Act.put _ (some 5) _ = _; simp only [sqa, sqb, sqc, sqd, i64_w, i32_w]; rfl)
     refine on 1 8 (bl 8 47) HT_.out (fun K hK => ?_)
     refine gs Try.func73 #[.agg #[.slice A0_0 l0_0.length c0_0, .slice A0_1 l0_1.length c0_1]] ?_
     with_reducible refine (impl_Vessels_own.calls _ _ l0_0 _ _ l0_1 t230 t233 _ ?side1 ?side2 ?side3 ?side4 A3.out).mono ?_
     (case side1 => exact ck HR0_0 HB)
     (case side2 => exact HC0_0.out)
     (case side3 => exact ck HR0_1 HB)
     (case side4 => exact HC0_1.out)
     rintro e w102 ⟨v231, v234, rfl, ho0, ho1, hb⟩
     refine ⟨_, rfl, ?_⟩
     have HO232 := lo ho0 HB
     have HO235 := lo ho1 HB
     replace BK227 := bb BK227 hb
     replace BK228 := bb BK228 hb
     replace BK229 := bb BK229 hb
     replace BK237 := bb BK237 hb
     replace HB := bs HB hb
     (try clear hb); (try clear hb2); (try clear hk); (try clear hi); (try clear ho0); (try clear ho1)
     refine hK.out _ _ ⟨bc0 BK227, bc1 BK227, bc0 BK228, bc1 BK228⟩ (fun hHeld => ?_)
     clear hK K
     refine norm_ (a' := ?_) ?_ ?_; rotate_left; (show Act.put _ (some 8) _ = _; simp only [sqa, sqb, sqc, sqd, i64_w, i32_w]; rfl)
     refine on 4 11 (bl 8 63) HT_.out (fun K hK => ?_)
     refine gs Try.func58 #[.agg #[.slice A0_0 l0_0.length c0_0, .slice A0_1 l0_1.length c0_1], .agg #[.int .i64 a1_0, .int .i64 a1_1]] ?_
     with_reducible refine (impl_Vessels_amount.calls _ _ l0_0 _ _ l0_1 a1_0 a1_1 t236 _ ?side1 ?side2 ?side3 ?side4 A4.out).mono ?_
     (case side1 => exact ck HR0_0 HB)
     (case side2 => exact HC0_0.out)
     (case side3 => exact ck HR0_1 HB)
     (case side4 => exact HC0_1.out)
     rintro e w103 ⟨rfl, hb⟩
     refine ⟨_, rfl, ?_⟩
     replace HO232 := rb HO232 hb
     replace HO235 := rb HO235 hb
     replace BK227 := bb BK227 hb
     replace BK228 := bb BK228 hb
     replace BK229 := bb BK229 hb
     replace BK237 := bb BK237 hb
     replace HB := bs HB hb
     (try clear hb); (try clear hb2); (try clear hk); (try clear hi)
     refine hK.out _ _ ⟨bc0 BK227, bc1 BK227, bc0 BK228, bc1 BK228⟩ (fun hHeld => ?_)
     clear hK K
     refine norm_ (a' := ?_) ?_ ?_; rotate_left; (show Act.put _ (some 11) _ = _; simp only [sqa, sqb, sqc, sqd, i64_w, i32_w]; rfl)
     exact norm_ (by simp only [putAll, Act.put, List.setIfInBounds_toArray, List.set_cons_zero, List.set_cons_succ]) (hCont (v231, v234, gb237) _ ⟨hHeld, (rk HO232), (rk HO235), (bk BK227), (bk BK228), (bk BK229), (bk BK237), GW237.out, GE237.out, NB227_237.out, NB237_227.out, NB228_237.out, NB237_228.out, NB229_237.out, NB237_229.out, (bw HB)⟩)
   rintro ⟨v231, v234, gb237⟩ w104 ⟨hS_, h0_, h1_, h2_, h3_, h4_, h5_, h6_, h7_, h8_, h9_, h10_, h11_, h12_, h13_, h14_⟩
   have HO232 := Aside0.mk h0_
   have HO235 := Aside0.mk h1_
   replace BK227 := Aside0.mk h2_
   replace BK228 := Aside0.mk h3_
   replace BK229 := Aside0.mk h4_
   have BK237 := Aside0.mk h5_
   have GW237 := GeC.mk h6_
   have GE237 := GeC.mk h7_
   have NB227_237 := NeC.mk h8_
   have NB237_227 := NeC.mk h9_
   have NB228_237 := NeC.mk h10_
   have NB237_228 := NeC.mk h11_
   have NB229_237 := NeC.mk h12_
   have NB237_229 := NeC.mk h13_
   replace HB := Aside0.mk h14_
   clear h0_ h1_ h2_ h3_ h4_ h5_ h6_ h7_ h8_ h9_ h10_ h11_ h12_ h13_ h14_
   have hHeld : w104.cell? ⟨gb227, 0, none⟩ = some (.slice A0_0 l0_0.length c0_0) ∧ w104.cell? ⟨gb227, 1, none⟩ = some (.slice A0_1 l0_1.length c0_1) ∧ w104.cell? ⟨gb228, 0, none⟩ = some (.int .i64 a1_0) ∧ w104.cell? ⟨gb228, 1, none⟩ = some (.int .i64 a1_1) := hS_
   obtain ⟨Ao105, co105, eo105⟩ := Kd.R_slice HO232.out
   (first | subst eo105 | (injection eo105 with f1_ f2_ f3_; have f4_ := f1_.symm; have f5_ := f3_.symm; clear f1_ f2_ f3_; subst f4_; subst f5_))
   obtain ⟨Ao107, co107, eo107⟩ := Kd.R_slice HO235.out
   (first | subst eo107 | (injection eo107 with f1_ f2_ f3_; have f4_ := f1_.symm; have f5_ := f3_.symm; clear f1_ f2_ f3_; subst f4_; subst f5_))
   refine norm_ (a' := ?_) ?_ ?_
   rotate_left
   ·simp only [putAll, Act.put, List.setIfInBounds_toArray, List.set_cons_zero, List.set_cons_succ]
    rfl
   refine one_ (i := 6) (N := none) (bl 8 127) rfl rfl (one_of HT_.out (by kernel_rfl)) (by decide) (fun K hK => ?_)
   have hs106 : w104.cell? ⟨gb237, 0, none⟩ = some (.slice none 0 0) := bc0 BK237
   have hfs106 := blk_frozen BK237.out 0
   have hns106_0 := NB227_237.out
   have hns106_1 := NB228_237.out
   have hns106_2 := NB229_237.out
   have hms106_0 := NB237_227.out
   have hms106_1 := NB237_228.out
   have hms106_2 := NB237_229.out
   have hs108 : w104.cell? ⟨gb237, 1, none⟩ = some (.slice none 0 0) := bc1 BK237
   have hfs108 := blk_frozen BK237.out 1
   have hns108_0 := NB227_237.out
   have hns108_1 := NB228_237.out
   have hns108_2 := NB229_237.out
   have hms108_0 := NB237_227.out
   have hms108_1 := NB237_228.out
   have hms108_2 := NB237_229.out
   refine skip_ (w1 := ?_) (by rfl) rfl ?_ ?_
   rotate_left
   ·go_simp
    rfl
   refine hK.out _ _ ⟨((cell_far (p := ⟨gb237, _, none⟩) NB227_237.out _).trans (((cell_far (p := ⟨gb237, _, none⟩) NB227_237.out _).trans (hHeld.1)))), ((cell_far (p := ⟨gb237, _, none⟩) NB227_237.out _).trans (((cell_far (p := ⟨gb237, _, none⟩) NB227_237.out _).trans (hHeld.2.1)))), ((cell_far (p := ⟨gb237, _, none⟩) NB228_237.out _).trans (((cell_far (p := ⟨gb237, _, none⟩) NB228_237.out _).trans (hHeld.2.2.1)))), ((cell_far (p := ⟨gb237, _, none⟩) NB228_237.out _).trans (((cell_far (p := ⟨gb237, _, none⟩) NB228_237.out _).trans (hHeld.2.2.2))))⟩ (fun hHeld => ?_)
   clear hK K
   refine pu 7 6 (bl 8 255) HT_.out (v := ?_) (a' := ?_) ?_ ?_ ?_
   rotate_left; (intro w'; go_simp; with_reducible rfl); rotate_left; (simp only [sqa, sqb, sqc, sqd, i64_w, i32_w]; rfl)
   refine done_ (done_of HT_.out (by kernel_rfl)) ?_
   have hnb109 := NB228_227.out
   have hnc109 := NB227_228.out
   have hnb110 := NB228_229.out
   have hnc110 := NB229_228.out
   have hnb111 := NB228_237.out
   have hnc111 := NB237_228.out
   have hcz112_0 := bc0 BK228
   have hcz112_1 := bc1 BK228
   have hfz112_0 := blk_frozen BK228.out 0
   have hfz112_1 := blk_frozen BK228.out 1
   have hnb113 := NB237_227.out
   have hnc113 := NB227_237.out
   have hnb114 := NB237_229.out
   have hnc114 := NB229_237.out
   have hcz115_0 := bc0 BK237
   have hcz115_1 := bc1 BK237
   have hfz115_0 := blk_frozen BK237.out 0
   have hfz115_1 := blk_frozen BK237.out 1
   have hnb116 := NB229_227.out
   have hnc116 := NB227_229.out
   have hcz117_0 := bc0 BK229
   have hcz117_1 := bc1 BK229
   have hfz117_0 := blk_frozen BK229.out 0
   have hfz117_1 := blk_frozen BK229.out 1
   try go_wp2
   refine bodyPost_ret (results_cell_row rfl _ _ gb229 29 #[.slice Ao105 t230.length co105, .slice Ao107 t233.length co107] (0, 0) _ rfl (by refine blk_put (cs := #[.slice Ao105 t230.length co105, .slice none 0 0]) ?_ 1 _ rfl; refine blk_put (cs := #[.slice none 0 0, .slice none 0 0]) ?_ 0 _ rfl; exact bk BK229) Try.underlying29 rfl (by kernel_rfl)) rfl ?_
   exact ⟨_, _, by first | rfl | (simp [errW_none, errW_some] <;> rfl) | (simp [*, errW_none, errW_some] <;> rfl), by exact Kd.R_mono (Kd.R_far (p := ⟨gb229, 1, none⟩) (Kd.R_far (p := ⟨gb229, 0, none⟩) (Kd.R_far (p := ⟨gb237, 1, none⟩) (Kd.R_far (p := ⟨gb237, 0, none⟩) (Kd.R_types (Kd.R_types HO232.out BK237.out (by decide)) BK229.out (by decide)) (fun _ hk => hk.1.2) (.slice Ao105 t230.length co105)) (fun _ hk => hk.1.2) (.slice Ao107 t233.length co107)) (fun _ hk => hk.2) (.slice Ao105 t230.length co105)) (fun _ hk => hk.2) (.slice Ao107 t233.length co107)) (fun _ hk => hk.1.1), by exact Kd.R_mono (Kd.R_far (p := ⟨gb229, 1, none⟩) (Kd.R_far (p := ⟨gb229, 0, none⟩) (Kd.R_far (p := ⟨gb237, 1, none⟩) (Kd.R_far (p := ⟨gb237, 0, none⟩) (Kd.R_types (Kd.R_types HO235.out BK237.out (by decide)) BK229.out (by decide)) (fun _ hk => hk.1.2) (.slice Ao105 t230.length co105)) (fun _ hk => hk.1.2) (.slice Ao107 t233.length co107)) (fun _ hk => hk.2) (.slice Ao105 t230.length co105)) (fun _ hk => hk.2) (.slice Ao107 t233.length co107)) (fun _ hk => hk.1.1), bw HB⟩
  rw [if_pos c68] at H
  have c68b0 : decide (0 ≤ a1_1) = true := decide_eq_true c68
  clear c68
  by_cases c69 : 0 ≤ a1_1
  rotate_left
  ·rw [if_neg c69] at H
   exact absurd H (by simp)
  rw [if_pos c69] at H
  have c69b0 : decide (0 ≤ a1_1) = true := decide_eq_true c69
  clear c69
  by_cases c70 : a1_1 < (t233.length : Int)
  rotate_left
  ·rw [if_neg c70] at H
   exact absurd H (by simp)
  rw [if_pos c70] at H
  have c70b0 : decide (a1_1 < (t233.length : Int)) = true := decide_eq_true c70
  clear c70
  obtain ⟨y243, hy243⟩ : ∃ y_ : List Int, y_ = (t233.set (a1_1 : Int).toNat (wrap64 ((rd t233 a1_1) + t236))) := ⟨_, rfl⟩
  replace H : (some (t230, y243)) = some (r1, r2) := by first | (rw [hy243]; with_reducible exact H) | (have H2_ := (Option.bind_some _ _).symm.trans H; rw [hy243]; with_reducible exact H2_) | (have H2_ := (Option.bind_some _ _).symm.trans H; with_reducible exact H2_) | with_reducible exact H | (rw [hy243]; exact H) | exact H
  have Ny243 := Aside0.mk hy243
  clear hy243
  simp only [Option.some.injEq, Prod.mk.injEq] at H
  obtain ⟨rfl, rfl⟩ := H
  go_enter Try.func59, Try.ntmps59
  try go_wp2_with (first | ((with_reducible refine gate_dst (N := 2) rfl ?_); refine bx 2 #[.slice A0_0 l0_0.length c0_0, .slice A0_1 l0_1.length c0_1] 29 ?_; intro gb227 hg w72 hbox hb; have BK227 := Aside0.mk (hbox); have GW227 := ge HB hg; have GE227 := ge HB hg; replace HB := bs HB hb; clear hb hbox hg) | ((with_reducible refine gate_dst (N := 3) rfl ?_); refine bx 3 #[.int .i64 a1_0, .int .i64 a1_1] 49 ?_; intro gb228 hg w73 hbox hb; have BK228 := Aside0.mk (hbox); have GW228 := ge HB hg; have GE228 := ge HB hg; replace HB := bs HB hb; have NB227_228 := nl BK227 hg; have NB228_227 := nr BK227 hg; replace BK227 := bb BK227 hb; clear hb hbox hg) | ((with_reducible refine gate_dst (N := 4) rfl ?_); refine bx 4 #[.slice none 0 0, .slice none 0 0] 29 ?_; intro gb229 hg w74 hbox hb; have BK229 := Aside0.mk (hbox); have GW229 := ge HB hg; have GE229 := ge HB hg; replace HB := bs HB hb; have NB227_229 := nl BK227 hg; have NB229_227 := nr BK227 hg; replace BK227 := bb BK227 hb; have NB228_229 := nl BK228 hg; have NB229_228 := nr BK228 hg; replace BK228 := bb BK228 hb; clear hb hbox hg))
  replace BK227 := Aside0.mk (blk_drew BK227.out)
  replace BK228 := Aside0.mk (blk_drew BK228.out)
  replace BK229 := Aside0.mk (blk_drew BK229.out)
  replace HB := Aside0.mk (below_drew1 HB.out)
  refine start_ (n := 8) (S := fun w' => w'.cell? ⟨gb227, 0, none⟩ = some (.slice A0_0 l0_0.length c0_0) ∧ w'.cell? ⟨gb227, 1, none⟩ = some (.slice A0_1 l0_1.length c0_1) ∧ w'.cell? ⟨gb228, 0, none⟩ = some (.int .i64 a1_0) ∧ w'.cell? ⟨gb228, 1, none⟩ = some (.int .i64 a1_1)) (ds := []) (bl 8 0) (by kernel_rfl) rfl rfl ⟨bc0 BK227, bc1 BK227, bc0 BK228, bc1 BK228⟩ (fun hHeld => ?_); refine with_tabW impl_Vessels_behind.tab1 impl_Vessels_behind.bits1 (fun HT_ HW_ => ?_)
  generalize w74.drew = w75 at BK227 BK228 BK229 HB hHeld ⊢
  refine tk 0 7 (bl 8 1) HT_.out HW_.out hHeld (v := ?_) (a' := ?_) ?_ ?_ ?_
  rotate_left; (rintro w' ⟨s0, s1, s2, s3⟩; go_simp; with_reducible rfl); rotate_left; (simp only [sqa, sqb, sqc, sqd, i64_w, i32_w]; rfl)
  refine tk 2 9 (bl 8 5) HT_.out HW_.out hHeld (v := ?_) (a' := ?_) ?_ ?_ ?_
  rotate_left; (rintro w' ⟨s0, s1, s2, s3⟩; go_simp; with_reducible rfl); rotate_left; (simp only [sqa, sqb, sqc, sqd, i64_w, i32_w]; rfl)
  refine tk 3 10 (bl 8 13) HT_.out HW_.out hHeld (v := ?_) (a' := ?_) ?_ ?_ ?_
  rotate_left; (rintro w' ⟨s0, s1, s2, s3⟩; go_simp; with_reducible rfl); rotate_left; (simp only [sqa, sqb, sqc, sqd, i64_w, i32_w]; rfl)
  refine join_ (σ := Value × Value × Nat) 2 (bl 8 63) (fun s_ => [(8, .agg #[s_.1, s_.2.1]), (11, .int .i64 t236), (5, .pointer (some ⟨s_.2.2, 0, none⟩))]) (fun s_ w' => (w'.cell? ⟨gb227, 0, none⟩ = some (.slice A0_0 l0_0.length c0_0) ∧ w'.cell? ⟨gb227, 1, none⟩ = some (.slice A0_1 l0_1.length c0_1) ∧ w'.cell? ⟨gb228, 0, none⟩ = some (.int .i64 a1_0) ∧ w'.cell? ⟨gb228, 1, none⟩ = some (.int .i64 a1_1)) ∧ (Kd.R (Kd.int .i64) 3 w' w.heap.size (fun k_ => some k_ ≠ (s_.2.1 : Value).ownBlock) s_.1 t230) ∧ (Kd.R (Kd.int .i64) 3 w' w.heap.size (fun k_ => some k_ ≠ (s_.1 : Value).ownBlock) s_.2.1 t233) ∧ (w'.heap[gb227]? = some (.cells #[.slice A0_0 l0_0.length c0_0, .slice A0_1 l0_1.length c0_1] 29 (0, 0))) ∧ (w'.heap[gb228]? = some (.cells #[.int .i64 a1_0, .int .i64 a1_1] 49 (0, 0))) ∧ (w'.heap[gb229]? = some (.cells #[.slice none 0 0, .slice none 0 0] 29 (0, 0))) ∧ (w'.heap[s_.2.2]? = some (.cells #[.slice none 0 0, .slice none 0 0] 29 (0, 0))) ∧ (w.heap.size ≤ s_.2.2) ∧ (w.heap.size ≤ s_.2.2) ∧ (gb227 ≠ s_.2.2) ∧ (s_.2.2 ≠ gb227) ∧ (gb228 ≠ s_.2.2) ∧ (s_.2.2 ≠ gb228) ∧ (gb229 ≠ s_.2.2) ∧ (s_.2.2 ≠ gb229) ∧ (Below w.heap.size w w')) ?_ ?_
  rotate_left
  ·intro hCont
   refine two_ (i := 1) (j := 5) (Ni := some 8) (Nj := some 5) (bl 8 15) (bl 8 45) rfl rfl rfl rfl (two_of HT_.out (by kernel_rfl)) (by decide) (by decide) (fun K hK => ?_) (fun K hK => ?_)
   ·skip
    refine gs Try.func73 #[.agg #[.slice A0_0 l0_0.length c0_0, .slice A0_1 l0_1.length c0_1]] ?_
    with_reducible refine (impl_Vessels_own.calls _ _ l0_0 _ _ l0_1 t230 t233 _ ?side1 ?side2 ?side3 ?side4 A3.out).mono ?_
    (case side1 => exact ck HR0_0 HB)
    (case side2 => exact HC0_0.out)
    (case side3 => exact ck HR0_1 HB)
    (case side4 => exact HC0_1.out)
    rintro e w76 ⟨v231, v234, rfl, ho0, ho1, hb⟩
    refine ⟨_, rfl, ?_⟩
    have HO232 := lo ho0 HB
    have HO235 := lo ho1 HB
    replace BK227 := bb BK227 hb
    replace BK228 := bb BK228 hb
    replace BK229 := bb BK229 hb
    replace HB := bs HB hb
    (try clear hb); (try clear hb2); (try clear hk); (try clear hi); (try clear ho0); (try clear ho1)
    refine hK.out _ _ ⟨bc0 BK227, bc1 BK227, bc0 BK228, bc1 BK228⟩ (fun hHeld => ?_)
    clear hK K
    refine norm_ (a' := ?_) ?_ ?_; rotate_left; (show Act.put _ (some 8) _ = _; simp only [sqa, sqb, sqc, sqd, i64_w, i32_w]; rfl)
    refine two_ (i := 4) (j := 5) (Ni := some 11) (Nj := some 5) (bl 8 31) (bl 8 47) rfl rfl rfl rfl (two_of HT_.out (by kernel_rfl)) (by decide) (by decide) (fun K hK => ?_) (fun K hK => ?_)
    ·skip
     refine gs Try.func58 #[.agg #[.slice A0_0 l0_0.length c0_0, .slice A0_1 l0_1.length c0_1], .agg #[.int .i64 a1_0, .int .i64 a1_1]] ?_
     with_reducible refine (impl_Vessels_amount.calls _ _ l0_0 _ _ l0_1 a1_0 a1_1 t236 _ ?side1 ?side2 ?side3 ?side4 A4.out).mono ?_
     (case side1 => exact ck HR0_0 HB)
     (case side2 => exact HC0_0.out)
     (case side3 => exact ck HR0_1 HB)
     (case side4 => exact HC0_1.out)
     rintro e w77 ⟨rfl, hb⟩
     refine ⟨_, rfl, ?_⟩
     replace HO232 := rb HO232 hb
     replace HO235 := rb HO235 hb
     replace BK227 := bb BK227 hb
     replace BK228 := bb BK228 hb
     replace BK229 := bb BK229 hb
     replace HB := bs HB hb
     (try clear hb); (try clear hb2); (try clear hk); (try clear hi)
     refine hK.out _ _ ⟨bc0 BK227, bc1 BK227, bc0 BK228, bc1 BK228⟩ (fun hHeld => ?_)
     clear hK K
     refine norm_ (a' := ?_) ?_ ?_; rotate_left; (show Act.put _ (some 11) _ = _; simp only [sqa, sqb, sqc, sqd, i64_w, i32_w]; rfl)
     refine on 5 5 (bl 8 63) HT_.out (fun K hK => ?_)
     refine box_step ?hg (N := 5) ?hd (cs := #[.slice none 0 0, .slice none 0 0]) (t := 29) ?hr ?_; (case hd => rfl); (case hg => rfl); (case hr => first | (go_simp; done) | (go_simp; rfl))
     intro gb237 hg w78 hbox hb
     replace HO232 := rb HO232 hb
     replace HO235 := rb HO235 hb
     have BK237 := Aside0.mk (hbox)
     have GW237 := ge HB hg
     have GE237 := ge HB hg
     replace HB := bs HB hb
     have NB227_237 := nl BK227 hg
     have NB237_227 := nr BK227 hg
     replace BK227 := bb BK227 hb
     have NB228_237 := nl BK228 hg
     have NB237_228 := nr BK228 hg
     replace BK228 := bb BK228 hb
     have NB229_237 := nl BK229 hg
     have NB237_229 := nr BK229 hg
     replace BK229 := bb BK229 hb
     clear hb hbox hg
     refine hK.out _ _ ⟨bc0 BK227, bc1 BK227, bc0 BK228, bc1 BK228⟩ (fun hHeld => ?_)
     clear hK K
     refine norm_ (a' := ?_) ?_ ?_; rotate_left; (show Act.put _ (some 5) _ = _; simp only [sqa, sqb, sqc, sqd, i64_w, i32_w]; rfl)
     exact norm_ (by simp only [putAll, Act.put, List.setIfInBounds_toArray, List.set_cons_zero, List.set_cons_succ]) (hCont (v231, v234, gb237) _ ⟨hHeld, (rk HO232), (rk HO235), (bk BK227), (bk BK228), (bk BK229), (bk BK237), GW237.out, GE237.out, NB227_237.out, NB237_227.out, NB228_237.out, NB237_228.out, NB229_237.out, NB237_229.out, (bw HB)⟩)
    ·skip
     refine box_step ?hg (N := 5) ?hd (cs := #[.slice none 0 0, .slice none 0 0]) (t := 29) ?hr ?_; (case hd => rfl); (case hg => rfl); (case hr => first | (go_simp; done) | (go_simp; rfl))
     intro gb237 hg w77 hbox hb
     replace HO232 := rb HO232 hb
     replace HO235 := rb HO235 hb
     have BK237 := Aside0.mk (hbox)
     have GW237 := ge HB hg
     have GE237 := ge HB hg
     replace HB := bs HB hb
     have NB227_237 := nl BK227 hg
     have NB237_227 := nr BK227 hg
     replace BK227 := bb BK227 hb
     have NB228_237 := nl BK228 hg
     have NB237_228 := nr BK228 hg
     replace BK228 := bb BK228 hb
     have NB229_237 := nl BK229 hg
     have NB237_229 := nr BK229 hg
     replace BK229 := bb BK229 hb
     clear hb hbox hg
     refine hK.out _ _ ⟨bc0 BK227, bc1 BK227, bc0 BK228, bc1 BK228⟩ (fun hHeld => ?_)
     clear hK K
     refine norm_ (a' := ?_) ?_ ?_; rotate_left; (show Act.put _ (some 5) _ = _; simp only [sqa, sqb, sqc, sqd, i64_w, i32_w]; rfl)
     refine on 4 11 (bl 8 63) HT_.out (fun K hK => ?_)
     refine gs Try.func58 #[.agg #[.slice A0_0 l0_0.length c0_0, .slice A0_1 l0_1.length c0_1], .agg #[.int .i64 a1_0, .int .i64 a1_1]] ?_
     with_reducible refine (impl_Vessels_amount.calls _ _ l0_0 _ _ l0_1 a1_0 a1_1 t236 _ ?side1 ?side2 ?side3 ?side4 A4.out).mono ?_
     (case side1 => exact ck HR0_0 HB)
     (case side2 => exact HC0_0.out)
     (case side3 => exact ck HR0_1 HB)
     (case side4 => exact HC0_1.out)
     rintro e w78 ⟨rfl, hb⟩
     refine ⟨_, rfl, ?_⟩
     replace HO232 := rb HO232 hb
     replace HO235 := rb HO235 hb
     replace BK227 := bb BK227 hb
     replace BK228 := bb BK228 hb
     replace BK229 := bb BK229 hb
     replace BK237 := bb BK237 hb
     replace HB := bs HB hb
     (try clear hb); (try clear hb2); (try clear hk); (try clear hi)
     refine hK.out _ _ ⟨bc0 BK227, bc1 BK227, bc0 BK228, bc1 BK228⟩ (fun hHeld => ?_)
     clear hK K
     refine norm_ (a' := ?_) ?_ ?_; rotate_left; (show Act.put _ (some 11) _ = _; simp only [sqa, sqb, sqc, sqd, i64_w, i32_w]; rfl)
     exact norm_ (by simp only [putAll, Act.put, List.setIfInBounds_toArray, List.set_cons_zero, List.set_cons_succ]) (hCont (v231, v234, gb237) _ ⟨hHeld, (rk HO232), (rk HO235), (bk BK227), (bk BK228), (bk BK229), (bk BK237), GW237.out, GE237.out, NB227_237.out, NB237_227.out, NB228_237.out, NB237_228.out, NB229_237.out, NB237_229.out, (bw HB)⟩)
   ·skip
    refine box_step ?hg (N := 5) ?hd (cs := #[.slice none 0 0, .slice none 0 0]) (t := 29) ?hr ?_; (case hd => rfl); (case hg => rfl); (case hr => first | (go_simp; done) | (go_simp; rfl))
    intro gb237 hg w76 hbox hb
    have BK237 := Aside0.mk (hbox)
    have GW237 := ge HB hg
    have GE237 := ge HB hg
    replace HB := bs HB hb
    have NB227_237 := nl BK227 hg
    have NB237_227 := nr BK227 hg
    replace BK227 := bb BK227 hb
    have NB228_237 := nl BK228 hg
    have NB237_228 := nr BK228 hg
    replace BK228 := bb BK228 hb
    have NB229_237 := nl BK229 hg
    have NB237_229 := nr BK229 hg
    replace BK229 := bb BK229 hb
    clear hb hbox hg
    refine hK.out _ _ ⟨bc0 BK227, bc1 BK227, bc0 BK228, bc1 BK228⟩ (fun hHeld => ?_)
    clear hK K
    refine norm_ (a' := ?_) ?_ ?_; rotate_left; (show Act.put _ (some 5) _ = _; simp only [sqa, sqb, sqc, sqd, i64_w, i32_w]; rfl)
    refine on 1 8 (bl 8 47) HT_.out (fun K hK => ?_)
    refine gs Try.func73 #[.agg #[.slice A0_0 l0_0.length c0_0, .slice A0_1 l0_1.length c0_1]] ?_
    with_reducible refine (impl_Vessels_own.calls _ _ l0_0 _ _ l0_1 t230 t233 _ ?side1 ?side2 ?side3 ?side4 A3.out).mono ?_
    (case side1 => exact ck HR0_0 HB)
    (case side2 => exact HC0_0.out)
    (case side3 => exact ck HR0_1 HB)
    (case side4 => exact HC0_1.out)
    rintro e w77 ⟨v231, v234, rfl, ho0, ho1, hb⟩
    refine ⟨_, rfl, ?_⟩
    have HO232 := lo ho0 HB
    have HO235 := lo ho1 HB
    replace BK227 := bb BK227 hb
    replace BK228 := bb BK228 hb
    replace BK229 := bb BK229 hb
    replace BK237 := bb BK237 hb
    replace HB := bs HB hb
    (try clear hb); (try clear hb2); (try clear hk); (try clear hi); (try clear ho0); (try clear ho1)
    refine hK.out _ _ ⟨bc0 BK227, bc1 BK227, bc0 BK228, bc1 BK228⟩ (fun hHeld => ?_)
    clear hK K
    refine norm_ (a' := ?_) ?_ ?_; rotate_left; (show Act.put _ (some 8) _ = _; simp only [sqa, sqb, sqc, sqd, i64_w, i32_w]; rfl)
    refine on 4 11 (bl 8 63) HT_.out (fun K hK => ?_)
    refine gs Try.func58 #[.agg #[.slice A0_0 l0_0.length c0_0, .slice A0_1 l0_1.length c0_1], .agg #[.int .i64 a1_0, .int .i64 a1_1]] ?_
    with_reducible refine (impl_Vessels_amount.calls _ _ l0_0 _ _ l0_1 a1_0 a1_1 t236 _ ?side1 ?side2 ?side3 ?side4 A4.out).mono ?_
    (case side1 => exact ck HR0_0 HB)
    (case side2 => exact HC0_0.out)
    (case side3 => exact ck HR0_1 HB)
    (case side4 => exact HC0_1.out)
    rintro e w78 ⟨rfl, hb⟩
    refine ⟨_, rfl, ?_⟩
    replace HO232 := rb HO232 hb
    replace HO235 := rb HO235 hb
    replace BK227 := bb BK227 hb
    replace BK228 := bb BK228 hb
    replace BK229 := bb BK229 hb
    replace BK237 := bb BK237 hb
    replace HB := bs HB hb
    (try clear hb); (try clear hb2); (try clear hk); (try clear hi)
    refine hK.out _ _ ⟨bc0 BK227, bc1 BK227, bc0 BK228, bc1 BK228⟩ (fun hHeld => ?_)
    clear hK K
    refine norm_ (a' := ?_) ?_ ?_; rotate_left; (show Act.put _ (some 11) _ = _; simp only [sqa, sqb, sqc, sqd, i64_w, i32_w]; rfl)
    exact norm_ (by simp only [putAll, Act.put, List.setIfInBounds_toArray, List.set_cons_zero, List.set_cons_succ]) (hCont (v231, v234, gb237) _ ⟨hHeld, (rk HO232), (rk HO235), (bk BK227), (bk BK228), (bk BK229), (bk BK237), GW237.out, GE237.out, NB227_237.out, NB237_227.out, NB228_237.out, NB237_228.out, NB229_237.out, NB237_229.out, (bw HB)⟩)
  rintro ⟨v231, v234, gb237⟩ w79 ⟨hS_, h0_, h1_, h2_, h3_, h4_, h5_, h6_, h7_, h8_, h9_, h10_, h11_, h12_, h13_, h14_⟩
  have HO232 := Aside0.mk h0_
  have HO235 := Aside0.mk h1_
  replace BK227 := Aside0.mk h2_
  replace BK228 := Aside0.mk h3_
  replace BK229 := Aside0.mk h4_
  have BK237 := Aside0.mk h5_
  have GW237 := GeC.mk h6_
  have GE237 := GeC.mk h7_
  have NB227_237 := NeC.mk h8_
  have NB237_227 := NeC.mk h9_
  have NB228_237 := NeC.mk h10_
  have NB237_228 := NeC.mk h11_
  have NB229_237 := NeC.mk h12_
  have NB237_229 := NeC.mk h13_
  replace HB := Aside0.mk h14_
  clear h0_ h1_ h2_ h3_ h4_ h5_ h6_ h7_ h8_ h9_ h10_ h11_ h12_ h13_ h14_
  have hHeld : w79.cell? ⟨gb227, 0, none⟩ = some (.slice A0_0 l0_0.length c0_0) ∧ w79.cell? ⟨gb227, 1, none⟩ = some (.slice A0_1 l0_1.length c0_1) ∧ w79.cell? ⟨gb228, 0, none⟩ = some (.int .i64 a1_0) ∧ w79.cell? ⟨gb228, 1, none⟩ = some (.int .i64 a1_1) := hS_
  obtain ⟨Ao80, co80, eo80⟩ := Kd.R_slice HO232.out
  (first | subst eo80 | (injection eo80 with f1_ f2_ f3_; have f4_ := f1_.symm; have f5_ := f3_.symm; clear f1_ f2_ f3_; subst f4_; subst f5_))
  obtain ⟨Ao82, co82, eo82⟩ := Kd.R_slice HO235.out
  (first | subst eo82 | (injection eo82 with f1_ f2_ f3_; have f4_ := f1_.symm; have f5_ := f3_.symm; clear f1_ f2_ f3_; subst f4_; subst f5_))
  refine norm_ (a' := ?_) ?_ ?_
  rotate_left
  ·simp only [putAll, Act.put, List.setIfInBounds_toArray, List.set_cons_zero, List.set_cons_succ]
   rfl
  refine one_ (i := 6) (N := none) (bl 8 127) rfl rfl (one_of HT_.out (by kernel_rfl)) (by decide) (fun K hK => ?_)
  have hs81 : w79.cell? ⟨gb237, 0, none⟩ = some (.slice none 0 0) := bc0 BK237
  have hfs81 := blk_frozen BK237.out 0
  have hns81_0 := NB227_237.out
  have hns81_1 := NB228_237.out
  have hns81_2 := NB229_237.out
  have hms81_0 := NB237_227.out
  have hms81_1 := NB237_228.out
  have hms81_2 := NB237_229.out
  have hs83 : w79.cell? ⟨gb237, 1, none⟩ = some (.slice none 0 0) := bc1 BK237
  have hfs83 := blk_frozen BK237.out 1
  have hns83_0 := NB227_237.out
  have hns83_1 := NB228_237.out
  have hns83_2 := NB229_237.out
  have hms83_0 := NB237_227.out
  have hms83_1 := NB237_228.out
  have hms83_2 := NB237_229.out
  refine skip_ (w1 := ?_) (by rfl) rfl ?_ ?_
  rotate_left
  ·go_simp
   rfl
  refine hK.out _ _ ⟨((cell_far (p := ⟨gb237, _, none⟩) NB227_237.out _).trans (((cell_far (p := ⟨gb237, _, none⟩) NB227_237.out _).trans (hHeld.1)))), ((cell_far (p := ⟨gb237, _, none⟩) NB227_237.out _).trans (((cell_far (p := ⟨gb237, _, none⟩) NB227_237.out _).trans (hHeld.2.1)))), ((cell_far (p := ⟨gb237, _, none⟩) NB228_237.out _).trans (((cell_far (p := ⟨gb237, _, none⟩) NB228_237.out _).trans (hHeld.2.2.1)))), ((cell_far (p := ⟨gb237, _, none⟩) NB228_237.out _).trans (((cell_far (p := ⟨gb237, _, none⟩) NB228_237.out _).trans (hHeld.2.2.2))))⟩ (fun hHeld => ?_)
  clear hK K
  refine pu 7 6 (bl 8 255) HT_.out (v := ?_) (a' := ?_) ?_ ?_ ?_
  rotate_left; (intro w'; go_simp; with_reducible rfl); rotate_left; (simp only [sqa, sqb, sqc, sqd, i64_w, i32_w]; rfl)
  refine done_ (done_of HT_.out (by kernel_rfl)) ?_
  have n0_ : Aside0 (Kd.R (Kd.int .i64) 3 ((w79.setCell ⟨gb237, 0, none⟩ (.slice Ao80 t230.length co80)).setCell ⟨gb237, 1, none⟩ (.slice Ao82 t233.length co82)) w.heap.size (fun k_ => some k_ ≠ (.slice Ao82 t233.length co82 : Value).ownBlock) (.slice Ao80 t230.length co80) t230) := ⟨by exact Kd.R_mono (Kd.R_far (p := ⟨gb237, 1, none⟩) (Kd.R_far (p := ⟨gb237, 0, none⟩) (Kd.R_types HO232.out BK237.out (by decide)) (fun _ hk => hk.2) (.slice Ao80 t230.length co80)) (fun _ hk => hk.2) (.slice Ao82 t233.length co82)) (fun _ hk => hk.1)⟩
  have n1_ : Aside0 (Kd.R (Kd.int .i64) 3 ((w79.setCell ⟨gb237, 0, none⟩ (.slice Ao80 t230.length co80)).setCell ⟨gb237, 1, none⟩ (.slice Ao82 t233.length co82)) w.heap.size (fun k_ => some k_ ≠ (.slice Ao80 t230.length co80 : Value).ownBlock) (.slice Ao82 t233.length co82) t233) := ⟨by exact Kd.R_mono (Kd.R_far (p := ⟨gb237, 1, none⟩) (Kd.R_far (p := ⟨gb237, 0, none⟩) (Kd.R_types HO235.out BK237.out (by decide)) (fun _ hk => hk.2) (.slice Ao80 t230.length co80)) (fun _ hk => hk.2) (.slice Ao82 t233.length co82)) (fun _ hk => hk.1)⟩
  have n2_ : Aside0 (((w79.setCell ⟨gb237, 0, none⟩ (.slice Ao80 t230.length co80)).setCell ⟨gb237, 1, none⟩ (.slice Ao82 t233.length co82)).heap[gb227]? = some (.cells #[.slice A0_0 l0_0.length c0_0, .slice A0_1 l0_1.length c0_1] 29 (0, 0))) := ⟨bk BK227⟩
  have n3_ : Aside0 (((w79.setCell ⟨gb237, 0, none⟩ (.slice Ao80 t230.length co80)).setCell ⟨gb237, 1, none⟩ (.slice Ao82 t233.length co82)).heap[gb228]? = some (.cells #[.int .i64 a1_0, .int .i64 a1_1] 49 (0, 0))) := ⟨bk BK228⟩
  have n4_ : Aside0 (((w79.setCell ⟨gb237, 0, none⟩ (.slice Ao80 t230.length co80)).setCell ⟨gb237, 1, none⟩ (.slice Ao82 t233.length co82)).heap[gb229]? = some (.cells #[.slice none 0 0, .slice none 0 0] 29 (0, 0))) := ⟨bk BK229⟩
  have n5_ : Aside0 (((w79.setCell ⟨gb237, 0, none⟩ (.slice Ao80 t230.length co80)).setCell ⟨gb237, 1, none⟩ (.slice Ao82 t233.length co82)).heap[gb237]? = some (.cells #[.slice Ao80 t230.length co80, .slice Ao82 t233.length co82] 29 (0, 0))) := ⟨by refine blk_put (cs := #[.slice Ao80 t230.length co80, .slice none 0 0]) ?_ 1 _ rfl; refine blk_put (cs := #[.slice none 0 0, .slice none 0 0]) ?_ 0 _ rfl; exact bk BK237⟩
  have n6_ : Aside0 (Below w.heap.size w ((w79.setCell ⟨gb237, 0, none⟩ (.slice Ao80 t230.length co80)).setCell ⟨gb237, 1, none⟩ (.slice Ao82 t233.length co82))) := ⟨bw HB⟩
  (try clear HO232); (try clear HO235); (try clear BK227); (try clear BK228); (try clear BK229); (try clear BK237); (try clear HB)
  generalize ((w79.setCell ⟨gb237, 0, none⟩ (.slice Ao80 t230.length co80)).setCell ⟨gb237, 1, none⟩ (.slice Ao82 t233.length co82)) = w84 at n0_ n1_ n2_ n3_ n4_ n5_ n6_ ⊢
  have HO232 := n0_
  have HO235 := n1_
  have BK227 := n2_
  have BK228 := n3_
  have BK229 := n4_
  have BK237 := n5_
  have HB := n6_
  clear n0_ n1_ n2_ n3_ n4_ n5_ n6_
  have hnb85 := NB228_227.out
  have hnc85 := NB227_228.out
  have hnb86 := NB228_229.out
  have hnc86 := NB229_228.out
  have hnb87 := NB228_237.out
  have hnc87 := NB237_228.out
  have hcz88_0 := bc0 BK228
  have hcz88_1 := bc1 BK228
  have hfz88_0 := blk_frozen BK228.out 0
  have hfz88_1 := blk_frozen BK228.out 1
  have hnb89 := NB237_227.out
  have hnc89 := NB227_237.out
  have hnb90 := NB237_229.out
  have hnc90 := NB229_237.out
  have hcz91_0 := bc0 BK237
  have hcz91_1 := bc1 BK237
  have hfz91_0 := blk_frozen BK237.out 0
  have hfz91_1 := blk_frozen BK237.out 1
  have p242 : 0 ≤ (a1_1 : Int) := of_decide_eq_true ‹_›
  have q242 : a1_1 < (t233.length : Int) := of_decide_eq_true ‹_›
  obtain ⟨ad242, e242, hx242_0⟩ := Kd.at_int (Kd.R_reads' HO235.out).2.2 a1_1 p242 q242
  cases e242
  replace p242 := eq_true p242
  replace q242 := eq_true q242
  have p71 : 0 ≤ (a1_1 : Int) := of_decide_eq_true ‹_›
  have q71 : (a1_1 : Int) < ((t233.length : Int) : Int) := of_decide_eq_true ‹_›
  obtain ⟨go71, co71, eo71, gb71, gl71, cl71, HG71⟩ := Kd.R_form HO235.out (by omega)
  (first | cases eo71 | (injection eo71 with ea_ en_ ec_; (first | subst ea_ | (injection ea_ with ea_; subst ea_)); subst ec_; clear en_))
  have GB71 := Aside0.mk gb71
  have GG71 := Aside0.mk HG71
  clear gb71 gl71 HG71
  (first | simp only [add_plain] at hx242_0 | skip)
  obtain ⟨hx71_0, hf71_0⟩ := Kd.R_celln 0 HO235.out (a1_1 : Int) p71 q71
  replace p71 := eq_true p71
  replace q71 := eq_true q71
  obtain ⟨hy92_, hz92_⟩ := Kd.R_celln 0 HO235.out (a1_1 : Int) (of_decide_eq_true ‹_›) (of_decide_eq_true ‹_›)
  have HP92 := Kd.R_putg HO235.out (a1_1 : Int) (wrap64 ((rd t233 a1_1) + t236))
  try go_wp2_with (first | ((with_reducible refine gate_store (t := 3) (p := 35) rfl ?_); refine store_event (t := 3) (p := 35) (v := ?vo_w93) (w1 := (w84.setCell ⟨go71, (a1_1 : Int).toNat, none⟩ (.int .i64 (wrap64 ((rd t233 a1_1) + t236))))) ?hg ?ho ?hn ?hr ?_; (case ho => rfl); (case hg => rfl); (case hn => rfl); (case hr => first | (go_simp; done) | (go_simp; rfl)); intro w93 hw; have hg : w84.grownBy w93 (some go71) := (by rw [hw]; exact HP92.2); have hp_ : Kd.R (Kd.int .i64) 3 w93 w.heap.size (fun k_ => some k_ ≠ (.slice Ao80 t230.length co80 : Value).ownBlock) (.slice (some ⟨go71, 0, none⟩) t233.length co82) y243 := (by rw [hw, Ny243.out]; exact HP92.1); clear HP92; replace BK227 := Aside0.mk (blk_grown (g := gb227) (o := .cells #[.slice A0_0 l0_0.length c0_0, .slice A0_1 l0_1.length c0_1] 29 (0, 0)) (bk BK227) hg (Kd.R_ne HO235.out BK227.out (by decide))); replace BK228 := Aside0.mk (blk_grown (g := gb228) (o := .cells #[.int .i64 a1_0, .int .i64 a1_1] 49 (0, 0)) (bk BK228) hg (Kd.R_ne HO235.out BK228.out (by decide))); replace BK229 := Aside0.mk (blk_grown (g := gb229) (o := .cells #[.slice none 0 0, .slice none 0 0] 29 (0, 0)) (bk BK229) hg (Kd.R_ne HO235.out BK229.out (by decide))); replace HO232 := Aside0.mk (Kd.R_after (v := (.slice (some ⟨go71, 0, none⟩) t233.length co82)) (v1 := (.slice (some ⟨go71, 0, none⟩) t233.length co82)) (ok := (fun _ => True)) (by exact Kd.R_mono HO232.out (fun _ hk => ⟨trivial, hk⟩)) hg (.inl rfl)); replace BK237 := Aside0.mk (blk_grown (g := gb237) (o := .cells #[.slice Ao80 t230.length co80, .slice (some ⟨go71, 0, none⟩) t233.length co82] 29 (0, 0)) (bk BK237) hg (Kd.R_ne HO235.out BK237.out (by decide))); replace HO235 := Aside0.mk (hp_); replace HB := Aside0.mk ((by rw [hw]; exact below_set (HB.out) GB71.out : Below w.heap.size w w93)); clear hg hw hp_; have hcz94_0 := bc0 BK237; have hcz94_1 := bc1 BK237; have hfz94_0 := blk_frozen BK237.out 0; have hfz94_1 := blk_frozen BK237.out 1; have hnb95 := NB229_227.out; have hnc95 := NB227_229.out; have hcz96_0 := bc0 BK229; have hcz96_1 := bc1 BK229; have hfz96_0 := blk_frozen BK229.out 0; have hfz96_1 := blk_frozen BK229.out 1))
  refine bodyPost_ret (results_cell_row rfl _ _ gb229 29 #[.slice Ao80 t230.length co80, .slice (some ⟨go71, 0, none⟩) t233.length co82] (0, 0) _ rfl (by refine blk_put (cs := #[.slice Ao80 t230.length co80, .slice none 0 0]) ?_ 1 _ rfl; refine blk_put (cs := #[.slice none 0 0, .slice none 0 0]) ?_ 0 _ rfl; exact bk BK229) Try.underlying29 rfl (by kernel_rfl)) rfl ?_
  exact ⟨_, _, by first | rfl | (simp [errW_none, errW_some] <;> rfl) | (simp [*, errW_none, errW_some] <;> rfl), by exact Kd.R_mono (Kd.R_far (p := ⟨gb229, 1, none⟩) (Kd.R_far (p := ⟨gb229, 0, none⟩) (Kd.R_types HO232.out BK229.out (by decide)) (fun _ hk => hk.2) (.slice Ao80 t230.length co80)) (fun _ hk => hk.2) (.slice (some ⟨go71, 0, none⟩) t233.length co82)) (fun _ hk => hk.1.2), by exact Kd.R_mono (Kd.R_far (p := ⟨gb229, 1, none⟩) (Kd.R_far (p := ⟨gb229, 0, none⟩) (Kd.R_types HO235.out BK229.out (by decide)) (fun _ hk => hk.2) (.slice Ao80 t230.length co80)) (fun _ hk => hk.2) (.slice (some ⟨go71, 0, none⟩) t233.length co82)) (fun _ hk => hk.1), bw HB⟩
 rw [if_pos c5] at H
 have c5b0 : decide (0 ≤ a1_0) = true := decide_eq_true c5
 clear c5
 by_cases c6 : 0 ≤ a1_0
 rotate_left
 ·rw [if_neg c6] at H
  exact absurd H (by simp)
 rw [if_pos c6] at H
 have c6b0 : decide (0 ≤ a1_0) = true := decide_eq_true c6
 clear c6
 by_cases c7 : a1_0 < (t233.length : Int)
 rotate_left
 ·rw [if_neg c7] at H
  exact absurd H (by simp)
 rw [if_pos c7] at H
 have c7b0 : decide (a1_0 < (t233.length : Int)) = true := decide_eq_true c7
 clear c7
 obtain ⟨y239, hy239⟩ : ∃ y_ : List Int, y_ = (t233.set (a1_0 : Int).toNat (wrap64 ((rd t233 a1_0) - t236))) := ⟨_, rfl⟩
 replace H : (if a1_1 ≥ 0 then (if 0 ≤ a1_1 then (if a1_1 < (t233.length : Int) then (some (t230, (y239.set (a1_1 : Int).toNat (wrap64 ((rd y239 a1_1) + t236))))) else (none)) else (none)) else (some (t230, y239))) = some (r1, r2) := by first | (rw [hy239]; with_reducible exact H) | (have H2_ := (Option.bind_some _ _).symm.trans H; rw [hy239]; with_reducible exact H2_) | (have H2_ := (Option.bind_some _ _).symm.trans H; with_reducible exact H2_) | with_reducible exact H | (rw [hy239]; exact H) | exact H
 have Ny239 := Aside0.mk hy239
 clear hy239
 by_cases c9 : a1_1 ≥ 0
 rotate_left
 ·rw [if_neg c9] at H
  have c9b0 : decide (0 ≤ a1_1) = false := decide_eq_false c9
  clear c9
  simp only [Option.some.injEq, Prod.mk.injEq] at H
  obtain ⟨rfl, rfl⟩ := H
  go_enter Try.func59, Try.ntmps59
  try go_wp2_with (first | ((with_reducible refine gate_dst (N := 2) rfl ?_); refine bx 2 #[.slice A0_0 l0_0.length c0_0, .slice A0_1 l0_1.length c0_1] 29 ?_; intro gb227 hg w42 hbox hb; have BK227 := Aside0.mk (hbox); have GW227 := ge HB hg; have GE227 := ge HB hg; replace HB := bs HB hb; clear hb hbox hg) | ((with_reducible refine gate_dst (N := 3) rfl ?_); refine bx 3 #[.int .i64 a1_0, .int .i64 a1_1] 49 ?_; intro gb228 hg w43 hbox hb; have BK228 := Aside0.mk (hbox); have GW228 := ge HB hg; have GE228 := ge HB hg; replace HB := bs HB hb; have NB227_228 := nl BK227 hg; have NB228_227 := nr BK227 hg; replace BK227 := bb BK227 hb; clear hb hbox hg) | ((with_reducible refine gate_dst (N := 4) rfl ?_); refine bx 4 #[.slice none 0 0, .slice none 0 0] 29 ?_; intro gb229 hg w44 hbox hb; have BK229 := Aside0.mk (hbox); have GW229 := ge HB hg; have GE229 := ge HB hg; replace HB := bs HB hb; have NB227_229 := nl BK227 hg; have NB229_227 := nr BK227 hg; replace BK227 := bb BK227 hb; have NB228_229 := nl BK228 hg; have NB229_228 := nr BK228 hg; replace BK228 := bb BK228 hb; clear hb hbox hg))
  replace BK227 := Aside0.mk (blk_drew BK227.out)
  replace BK228 := Aside0.mk (blk_drew BK228.out)
  replace BK229 := Aside0.mk (blk_drew BK229.out)
  replace HB := Aside0.mk (below_drew1 HB.out)
  refine start_ (n := 8) (S := fun w' => w'.cell? ⟨gb227, 0, none⟩ = some (.slice A0_0 l0_0.length c0_0) ∧ w'.cell? ⟨gb227, 1, none⟩ = some (.slice A0_1 l0_1.length c0_1) ∧ w'.cell? ⟨gb228, 0, none⟩ = some (.int .i64 a1_0) ∧ w'.cell? ⟨gb228, 1, none⟩ = some (.int .i64 a1_1)) (ds := []) (bl 8 0) (by kernel_rfl) rfl rfl ⟨bc0 BK227, bc1 BK227, bc0 BK228, bc1 BK228⟩ (fun hHeld => ?_); refine with_tabW impl_Vessels_behind.tab1 impl_Vessels_behind.bits1 (fun HT_ HW_ => ?_)
  generalize w44.drew = w45 at BK227 BK228 BK229 HB hHeld ⊢
  refine tk 0 7 (bl 8 1) HT_.out HW_.out hHeld (v := ?_) (a' := ?_) ?_ ?_ ?_
  rotate_left; (rintro w' ⟨s0, s1, s2, s3⟩; go_simp; with_reducible rfl); rotate_left; (simp only [sqa, sqb, sqc, sqd, i64_w, i32_w]; rfl)
  refine tk 2 9 (bl 8 5) HT_.out HW_.out hHeld (v := ?_) (a' := ?_) ?_ ?_ ?_
  rotate_left; (rintro w' ⟨s0, s1, s2, s3⟩; go_simp; with_reducible rfl); rotate_left; (simp only [sqa, sqb, sqc, sqd, i64_w, i32_w]; rfl)
  refine tk 3 10 (bl 8 13) HT_.out HW_.out hHeld (v := ?_) (a' := ?_) ?_ ?_ ?_
  rotate_left; (rintro w' ⟨s0, s1, s2, s3⟩; go_simp; with_reducible rfl); rotate_left; (simp only [sqa, sqb, sqc, sqd, i64_w, i32_w]; rfl)
  refine join_ (σ := Value × Value × Nat) 2 (bl 8 63) (fun s_ => [(8, .agg #[s_.1, s_.2.1]), (11, .int .i64 t236), (5, .pointer (some ⟨s_.2.2, 0, none⟩))]) (fun s_ w' => (w'.cell? ⟨gb227, 0, none⟩ = some (.slice A0_0 l0_0.length c0_0) ∧ w'.cell? ⟨gb227, 1, none⟩ = some (.slice A0_1 l0_1.length c0_1) ∧ w'.cell? ⟨gb228, 0, none⟩ = some (.int .i64 a1_0) ∧ w'.cell? ⟨gb228, 1, none⟩ = some (.int .i64 a1_1)) ∧ (Kd.R (Kd.int .i64) 3 w' w.heap.size (fun k_ => some k_ ≠ (s_.2.1 : Value).ownBlock) s_.1 t230) ∧ (Kd.R (Kd.int .i64) 3 w' w.heap.size (fun k_ => some k_ ≠ (s_.1 : Value).ownBlock) s_.2.1 t233) ∧ (w'.heap[gb227]? = some (.cells #[.slice A0_0 l0_0.length c0_0, .slice A0_1 l0_1.length c0_1] 29 (0, 0))) ∧ (w'.heap[gb228]? = some (.cells #[.int .i64 a1_0, .int .i64 a1_1] 49 (0, 0))) ∧ (w'.heap[gb229]? = some (.cells #[.slice none 0 0, .slice none 0 0] 29 (0, 0))) ∧ (w'.heap[s_.2.2]? = some (.cells #[.slice none 0 0, .slice none 0 0] 29 (0, 0))) ∧ (w.heap.size ≤ s_.2.2) ∧ (w.heap.size ≤ s_.2.2) ∧ (gb227 ≠ s_.2.2) ∧ (s_.2.2 ≠ gb227) ∧ (gb228 ≠ s_.2.2) ∧ (s_.2.2 ≠ gb228) ∧ (gb229 ≠ s_.2.2) ∧ (s_.2.2 ≠ gb229) ∧ (Below w.heap.size w w')) ?_ ?_
  rotate_left
  ·intro hCont
   refine two_ (i := 1) (j := 5) (Ni := some 8) (Nj := some 5) (bl 8 15) (bl 8 45) rfl rfl rfl rfl (two_of HT_.out (by kernel_rfl)) (by decide) (by decide) (fun K hK => ?_) (fun K hK => ?_)
   ·skip
    refine gs Try.func73 #[.agg #[.slice A0_0 l0_0.length c0_0, .slice A0_1 l0_1.length c0_1]] ?_
    with_reducible refine (impl_Vessels_own.calls _ _ l0_0 _ _ l0_1 t230 t233 _ ?side1 ?side2 ?side3 ?side4 A3.out).mono ?_
    (case side1 => exact ck HR0_0 HB)
    (case side2 => exact HC0_0.out)
    (case side3 => exact ck HR0_1 HB)
    (case side4 => exact HC0_1.out)
    rintro e w46 ⟨v231, v234, rfl, ho0, ho1, hb⟩
    refine ⟨_, rfl, ?_⟩
    have HO232 := lo ho0 HB
    have HO235 := lo ho1 HB
    replace BK227 := bb BK227 hb
    replace BK228 := bb BK228 hb
    replace BK229 := bb BK229 hb
    replace HB := bs HB hb
    (try clear hb); (try clear hb2); (try clear hk); (try clear hi); (try clear ho0); (try clear ho1)
    refine hK.out _ _ ⟨bc0 BK227, bc1 BK227, bc0 BK228, bc1 BK228⟩ (fun hHeld => ?_)
    clear hK K
    refine norm_ (a' := ?_) ?_ ?_; rotate_left; (show Act.put _ (some 8) _ = _; simp only [sqa, sqb, sqc, sqd, i64_w, i32_w]; rfl)
    refine two_ (i := 4) (j := 5) (Ni := some 11) (Nj := some 5) (bl 8 31) (bl 8 47) rfl rfl rfl rfl (two_of HT_.out (by kernel_rfl)) (by decide) (by decide) (fun K hK => ?_) (fun K hK => ?_)
    ·skip
     refine gs Try.func58 #[.agg #[.slice A0_0 l0_0.length c0_0, .slice A0_1 l0_1.length c0_1], .agg #[.int .i64 a1_0, .int .i64 a1_1]] ?_
     with_reducible refine (impl_Vessels_amount.calls _ _ l0_0 _ _ l0_1 a1_0 a1_1 t236 _ ?side1 ?side2 ?side3 ?side4 A4.out).mono ?_
     (case side1 => exact ck HR0_0 HB)
     (case side2 => exact HC0_0.out)
     (case side3 => exact ck HR0_1 HB)
     (case side4 => exact HC0_1.out)
     rintro e w47 ⟨rfl, hb⟩
     refine ⟨_, rfl, ?_⟩
     replace HO232 := rb HO232 hb
     replace HO235 := rb HO235 hb
     replace BK227 := bb BK227 hb
     replace BK228 := bb BK228 hb
     replace BK229 := bb BK229 hb
     replace HB := bs HB hb
     (try clear hb); (try clear hb2); (try clear hk); (try clear hi)
     refine hK.out _ _ ⟨bc0 BK227, bc1 BK227, bc0 BK228, bc1 BK228⟩ (fun hHeld => ?_)
     clear hK K
     refine norm_ (a' := ?_) ?_ ?_; rotate_left; (show Act.put _ (some 11) _ = _; simp only [sqa, sqb, sqc, sqd, i64_w, i32_w]; rfl)
     refine on 5 5 (bl 8 63) HT_.out (fun K hK => ?_)
     refine box_step ?hg (N := 5) ?hd (cs := #[.slice none 0 0, .slice none 0 0]) (t := 29) ?hr ?_; (case hd => rfl); (case hg => rfl); (case hr => first | (go_simp; done) | (go_simp; rfl))
     intro gb237 hg w48 hbox hb
     replace HO232 := rb HO232 hb
     replace HO235 := rb HO235 hb
     have BK237 := Aside0.mk (hbox)
     have GW237 := ge HB hg
     have GE237 := ge HB hg
     replace HB := bs HB hb
     have NB227_237 := nl BK227 hg
     have NB237_227 := nr BK227 hg
     replace BK227 := bb BK227 hb
     have NB228_237 := nl BK228 hg
     have NB237_228 := nr BK228 hg
     replace BK228 := bb BK228 hb
     have NB229_237 := nl BK229 hg
     have NB237_229 := nr BK229 hg
     replace BK229 := bb BK229 hb
     clear hb hbox hg
     refine hK.out _ _ ⟨bc0 BK227, bc1 BK227, bc0 BK228, bc1 BK228⟩ (fun hHeld => ?_)
     clear hK K
     refine norm_ (a' := ?_) ?_ ?_; rotate_left; (show Act.put _ (some 5) _ = _; simp only [sqa, sqb, sqc, sqd, i64_w, i32_w]; rfl)
     exact norm_ (by simp only [putAll, Act.put, List.setIfInBounds_toArray, List.set_cons_zero, List.set_cons_succ]) (hCont (v231, v234, gb237) _ ⟨hHeld, (rk HO232), (rk HO235), (bk BK227), (bk BK228), (bk BK229), (bk BK237), GW237.out, GE237.out, NB227_237.out, NB237_227.out, NB228_237.out, NB237_228.out, NB229_237.out, NB237_229.out, (bw HB)⟩)
    ·skip
     refine box_step ?hg (N := 5) ?hd (cs := #[.slice none 0 0, .slice none 0 0]) (t := 29) ?hr ?_; (case hd => rfl); (case hg => rfl); (case hr => first | (go_simp; done) | (go_simp; rfl))
     intro gb237 hg w47 hbox hb
     replace HO232 := rb HO232 hb
     replace HO235 := rb HO235 hb
     have BK237 := Aside0.mk (hbox)
     have GW237 := ge HB hg
     have GE237 := ge HB hg
     replace HB := bs HB hb
     have NB227_237 := nl BK227 hg
     have NB237_227 := nr BK227 hg
     replace BK227 := bb BK227 hb
     have NB228_237 := nl BK228 hg
     have NB237_228 := nr BK228 hg
     replace BK228 := bb BK228 hb
     have NB229_237 := nl BK229 hg
     have NB237_229 := nr BK229 hg
     replace BK229 := bb BK229 hb
     clear hb hbox hg
     refine hK.out _ _ ⟨bc0 BK227, bc1 BK227, bc0 BK228, bc1 BK228⟩ (fun hHeld => ?_)
     clear hK K
     refine norm_ (a' := ?_) ?_ ?_; rotate_left; (show Act.put _ (some 5) _ = _; simp only [sqa, sqb, sqc, sqd, i64_w, i32_w]; rfl)
     refine on 4 11 (bl 8 63) HT_.out (fun K hK => ?_)
     refine gs Try.func58 #[.agg #[.slice A0_0 l0_0.length c0_0, .slice A0_1 l0_1.length c0_1], .agg #[.int .i64 a1_0, .int .i64 a1_1]] ?_
     with_reducible refine (impl_Vessels_amount.calls _ _ l0_0 _ _ l0_1 a1_0 a1_1 t236 _ ?side1 ?side2 ?side3 ?side4 A4.out).mono ?_
     (case side1 => exact ck HR0_0 HB)
     (case side2 => exact HC0_0.out)
     (case side3 => exact ck HR0_1 HB)
     (case side4 => exact HC0_1.out)
     rintro e w48 ⟨rfl, hb⟩
     refine ⟨_, rfl, ?_⟩
     replace HO232 := rb HO232 hb
     replace HO235 := rb HO235 hb
     replace BK227 := bb BK227 hb
     replace BK228 := bb BK228 hb
     replace BK229 := bb BK229 hb
     replace BK237 := bb BK237 hb
     replace HB := bs HB hb
     (try clear hb); (try clear hb2); (try clear hk); (try clear hi)
     refine hK.out _ _ ⟨bc0 BK227, bc1 BK227, bc0 BK228, bc1 BK228⟩ (fun hHeld => ?_)
     clear hK K
     refine norm_ (a' := ?_) ?_ ?_; rotate_left; (show Act.put _ (some 11) _ = _; simp only [sqa, sqb, sqc, sqd, i64_w, i32_w]; rfl)
     exact norm_ (by simp only [putAll, Act.put, List.setIfInBounds_toArray, List.set_cons_zero, List.set_cons_succ]) (hCont (v231, v234, gb237) _ ⟨hHeld, (rk HO232), (rk HO235), (bk BK227), (bk BK228), (bk BK229), (bk BK237), GW237.out, GE237.out, NB227_237.out, NB237_227.out, NB228_237.out, NB237_228.out, NB229_237.out, NB237_229.out, (bw HB)⟩)
   ·skip
    refine box_step ?hg (N := 5) ?hd (cs := #[.slice none 0 0, .slice none 0 0]) (t := 29) ?hr ?_; (case hd => rfl); (case hg => rfl); (case hr => first | (go_simp; done) | (go_simp; rfl))
    intro gb237 hg w46 hbox hb
    have BK237 := Aside0.mk (hbox)
    have GW237 := ge HB hg
    have GE237 := ge HB hg
    replace HB := bs HB hb
    have NB227_237 := nl BK227 hg
    have NB237_227 := nr BK227 hg
    replace BK227 := bb BK227 hb
    have NB228_237 := nl BK228 hg
    have NB237_228 := nr BK228 hg
    replace BK228 := bb BK228 hb
    have NB229_237 := nl BK229 hg
    have NB237_229 := nr BK229 hg
    replace BK229 := bb BK229 hb
    clear hb hbox hg
    refine hK.out _ _ ⟨bc0 BK227, bc1 BK227, bc0 BK228, bc1 BK228⟩ (fun hHeld => ?_)
    clear hK K
    refine norm_ (a' := ?_) ?_ ?_; rotate_left; (show Act.put _ (some 5) _ = _; simp only [sqa, sqb, sqc, sqd, i64_w, i32_w]; rfl)
    refine on 1 8 (bl 8 47) HT_.out (fun K hK => ?_)
    refine gs Try.func73 #[.agg #[.slice A0_0 l0_0.length c0_0, .slice A0_1 l0_1.length c0_1]] ?_
    with_reducible refine (impl_Vessels_own.calls _ _ l0_0 _ _ l0_1 t230 t233 _ ?side1 ?side2 ?side3 ?side4 A3.out).mono ?_
    (case side1 => exact ck HR0_0 HB)
    (case side2 => exact HC0_0.out)
    (case side3 => exact ck HR0_1 HB)
    (case side4 => exact HC0_1.out)
    rintro e w47 ⟨v231, v234, rfl, ho0, ho1, hb⟩
    refine ⟨_, rfl, ?_⟩
    have HO232 := lo ho0 HB
    have HO235 := lo ho1 HB
    replace BK227 := bb BK227 hb
    replace BK228 := bb BK228 hb
    replace BK229 := bb BK229 hb
    replace BK237 := bb BK237 hb
    replace HB := bs HB hb
    (try clear hb); (try clear hb2); (try clear hk); (try clear hi); (try clear ho0); (try clear ho1)
    refine hK.out _ _ ⟨bc0 BK227, bc1 BK227, bc0 BK228, bc1 BK228⟩ (fun hHeld => ?_)
    clear hK K
    refine norm_ (a' := ?_) ?_ ?_; rotate_left; (show Act.put _ (some 8) _ = _; simp only [sqa, sqb, sqc, sqd, i64_w, i32_w]; rfl)
    refine on 4 11 (bl 8 63) HT_.out (fun K hK => ?_)
    refine gs Try.func58 #[.agg #[.slice A0_0 l0_0.length c0_0, .slice A0_1 l0_1.length c0_1], .agg #[.int .i64 a1_0, .int .i64 a1_1]] ?_
    with_reducible refine (impl_Vessels_amount.calls _ _ l0_0 _ _ l0_1 a1_0 a1_1 t236 _ ?side1 ?side2 ?side3 ?side4 A4.out).mono ?_
    (case side1 => exact ck HR0_0 HB)
    (case side2 => exact HC0_0.out)
    (case side3 => exact ck HR0_1 HB)
    (case side4 => exact HC0_1.out)
    rintro e w48 ⟨rfl, hb⟩
    refine ⟨_, rfl, ?_⟩
    replace HO232 := rb HO232 hb
    replace HO235 := rb HO235 hb
    replace BK227 := bb BK227 hb
    replace BK228 := bb BK228 hb
    replace BK229 := bb BK229 hb
    replace BK237 := bb BK237 hb
    replace HB := bs HB hb
    (try clear hb); (try clear hb2); (try clear hk); (try clear hi)
    refine hK.out _ _ ⟨bc0 BK227, bc1 BK227, bc0 BK228, bc1 BK228⟩ (fun hHeld => ?_)
    clear hK K
    refine norm_ (a' := ?_) ?_ ?_; rotate_left; (show Act.put _ (some 11) _ = _; simp only [sqa, sqb, sqc, sqd, i64_w, i32_w]; rfl)
    exact norm_ (by simp only [putAll, Act.put, List.setIfInBounds_toArray, List.set_cons_zero, List.set_cons_succ]) (hCont (v231, v234, gb237) _ ⟨hHeld, (rk HO232), (rk HO235), (bk BK227), (bk BK228), (bk BK229), (bk BK237), GW237.out, GE237.out, NB227_237.out, NB237_227.out, NB228_237.out, NB237_228.out, NB229_237.out, NB237_229.out, (bw HB)⟩)
  rintro ⟨v231, v234, gb237⟩ w49 ⟨hS_, h0_, h1_, h2_, h3_, h4_, h5_, h6_, h7_, h8_, h9_, h10_, h11_, h12_, h13_, h14_⟩
  have HO232 := Aside0.mk h0_
  have HO235 := Aside0.mk h1_
  replace BK227 := Aside0.mk h2_
  replace BK228 := Aside0.mk h3_
  replace BK229 := Aside0.mk h4_
  have BK237 := Aside0.mk h5_
  have GW237 := GeC.mk h6_
  have GE237 := GeC.mk h7_
  have NB227_237 := NeC.mk h8_
  have NB237_227 := NeC.mk h9_
  have NB228_237 := NeC.mk h10_
  have NB237_228 := NeC.mk h11_
  have NB229_237 := NeC.mk h12_
  have NB237_229 := NeC.mk h13_
  replace HB := Aside0.mk h14_
  clear h0_ h1_ h2_ h3_ h4_ h5_ h6_ h7_ h8_ h9_ h10_ h11_ h12_ h13_ h14_
  have hHeld : w49.cell? ⟨gb227, 0, none⟩ = some (.slice A0_0 l0_0.length c0_0) ∧ w49.cell? ⟨gb227, 1, none⟩ = some (.slice A0_1 l0_1.length c0_1) ∧ w49.cell? ⟨gb228, 0, none⟩ = some (.int .i64 a1_0) ∧ w49.cell? ⟨gb228, 1, none⟩ = some (.int .i64 a1_1) := hS_
  obtain ⟨Ao50, co50, eo50⟩ := Kd.R_slice HO232.out
  (first | subst eo50 | (injection eo50 with f1_ f2_ f3_; have f4_ := f1_.symm; have f5_ := f3_.symm; clear f1_ f2_ f3_; subst f4_; subst f5_))
  obtain ⟨Ao52, co52, eo52⟩ := Kd.R_slice HO235.out
  (first | subst eo52 | (injection eo52 with f1_ f2_ f3_; have f4_ := f1_.symm; have f5_ := f3_.symm; clear f1_ f2_ f3_; subst f4_; subst f5_))
  refine norm_ (a' := ?_) ?_ ?_
  rotate_left
  ·simp only [putAll, Act.put, List.setIfInBounds_toArray, List.set_cons_zero, List.set_cons_succ]
   rfl
  refine one_ (i := 6) (N := none) (bl 8 127) rfl rfl (one_of HT_.out (by kernel_rfl)) (by decide) (fun K hK => ?_)
  have hs51 : w49.cell? ⟨gb237, 0, none⟩ = some (.slice none 0 0) := bc0 BK237
  have hfs51 := blk_frozen BK237.out 0
  have hns51_0 := NB227_237.out
  have hns51_1 := NB228_237.out
  have hns51_2 := NB229_237.out
  have hms51_0 := NB237_227.out
  have hms51_1 := NB237_228.out
  have hms51_2 := NB237_229.out
  have hs53 : w49.cell? ⟨gb237, 1, none⟩ = some (.slice none 0 0) := bc1 BK237
  have hfs53 := blk_frozen BK237.out 1
  have hns53_0 := NB227_237.out
  have hns53_1 := NB228_237.out
  have hns53_2 := NB229_237.out
  have hms53_0 := NB237_227.out
  have hms53_1 := NB237_228.out
  have hms53_2 := NB237_229.out
  refine skip_ (w1 := ?_) (by rfl) rfl ?_ ?_
  rotate_left
  ·go_simp
   rfl
  refine hK.out _ _ ⟨((cell_far (p := ⟨gb237, _, none⟩) NB227_237.out _).trans (((cell_far (p := ⟨gb237, _, none⟩) NB227_237.out _).trans (hHeld.1)))), ((cell_far (p := ⟨gb237, _, none⟩) NB227_237.out _).trans (((cell_far (p := ⟨gb237, _, none⟩) NB227_237.out _).trans (hHeld.2.1)))), ((cell_far (p := ⟨gb237, _, none⟩) NB228_237.out _).trans (((cell_far (p := ⟨gb237, _, none⟩) NB228_237.out _).trans (hHeld.2.2.1)))), ((cell_far (p := ⟨gb237, _, none⟩) NB228_237.out _).trans (((cell_far (p := ⟨gb237, _, none⟩) NB228_237.out _).trans (hHeld.2.2.2))))⟩ (fun hHeld => ?_)
  clear hK K
  refine pu 7 6 (bl 8 255) HT_.out (v := ?_) (a' := ?_) ?_ ?_ ?_
  rotate_left; (intro w'; go_simp; with_reducible rfl); rotate_left; (simp only [sqa, sqb, sqc, sqd, i64_w, i32_w]; rfl)
  refine done_ (done_of HT_.out (by kernel_rfl)) ?_
  have n0_ : Aside0 (Kd.R (Kd.int .i64) 3 ((w49.setCell ⟨gb237, 0, none⟩ (.slice Ao50 t230.length co50)).setCell ⟨gb237, 1, none⟩ (.slice Ao52 t233.length co52)) w.heap.size (fun k_ => some k_ ≠ (.slice Ao52 t233.length co52 : Value).ownBlock) (.slice Ao50 t230.length co50) t230) := ⟨by exact Kd.R_mono (Kd.R_far (p := ⟨gb237, 1, none⟩) (Kd.R_far (p := ⟨gb237, 0, none⟩) (Kd.R_types HO232.out BK237.out (by decide)) (fun _ hk => hk.2) (.slice Ao50 t230.length co50)) (fun _ hk => hk.2) (.slice Ao52 t233.length co52)) (fun _ hk => hk.1)⟩
  have n1_ : Aside0 (Kd.R (Kd.int .i64) 3 ((w49.setCell ⟨gb237, 0, none⟩ (.slice Ao50 t230.length co50)).setCell ⟨gb237, 1, none⟩ (.slice Ao52 t233.length co52)) w.heap.size (fun k_ => some k_ ≠ (.slice Ao50 t230.length co50 : Value).ownBlock) (.slice Ao52 t233.length co52) t233) := ⟨by exact Kd.R_mono (Kd.R_far (p := ⟨gb237, 1, none⟩) (Kd.R_far (p := ⟨gb237, 0, none⟩) (Kd.R_types HO235.out BK237.out (by decide)) (fun _ hk => hk.2) (.slice Ao50 t230.length co50)) (fun _ hk => hk.2) (.slice Ao52 t233.length co52)) (fun _ hk => hk.1)⟩
  have n2_ : Aside0 (((w49.setCell ⟨gb237, 0, none⟩ (.slice Ao50 t230.length co50)).setCell ⟨gb237, 1, none⟩ (.slice Ao52 t233.length co52)).heap[gb227]? = some (.cells #[.slice A0_0 l0_0.length c0_0, .slice A0_1 l0_1.length c0_1] 29 (0, 0))) := ⟨bk BK227⟩
  have n3_ : Aside0 (((w49.setCell ⟨gb237, 0, none⟩ (.slice Ao50 t230.length co50)).setCell ⟨gb237, 1, none⟩ (.slice Ao52 t233.length co52)).heap[gb228]? = some (.cells #[.int .i64 a1_0, .int .i64 a1_1] 49 (0, 0))) := ⟨bk BK228⟩
  have n4_ : Aside0 (((w49.setCell ⟨gb237, 0, none⟩ (.slice Ao50 t230.length co50)).setCell ⟨gb237, 1, none⟩ (.slice Ao52 t233.length co52)).heap[gb229]? = some (.cells #[.slice none 0 0, .slice none 0 0] 29 (0, 0))) := ⟨bk BK229⟩
  have n5_ : Aside0 (((w49.setCell ⟨gb237, 0, none⟩ (.slice Ao50 t230.length co50)).setCell ⟨gb237, 1, none⟩ (.slice Ao52 t233.length co52)).heap[gb237]? = some (.cells #[.slice Ao50 t230.length co50, .slice Ao52 t233.length co52] 29 (0, 0))) := ⟨by refine blk_put (cs := #[.slice Ao50 t230.length co50, .slice none 0 0]) ?_ 1 _ rfl; refine blk_put (cs := #[.slice none 0 0, .slice none 0 0]) ?_ 0 _ rfl; exact bk BK237⟩
  have n6_ : Aside0 (Below w.heap.size w ((w49.setCell ⟨gb237, 0, none⟩ (.slice Ao50 t230.length co50)).setCell ⟨gb237, 1, none⟩ (.slice Ao52 t233.length co52))) := ⟨bw HB⟩
  (try clear HO232); (try clear HO235); (try clear BK227); (try clear BK228); (try clear BK229); (try clear BK237); (try clear HB)
  generalize ((w49.setCell ⟨gb237, 0, none⟩ (.slice Ao50 t230.length co50)).setCell ⟨gb237, 1, none⟩ (.slice Ao52 t233.length co52)) = w54 at n0_ n1_ n2_ n3_ n4_ n5_ n6_ ⊢
  have HO232 := n0_
  have HO235 := n1_
  have BK227 := n2_
  have BK228 := n3_
  have BK229 := n4_
  have BK237 := n5_
  have HB := n6_
  clear n0_ n1_ n2_ n3_ n4_ n5_ n6_
  have hnb55 := NB228_227.out
  have hnc55 := NB227_228.out
  have hnb56 := NB228_229.out
  have hnc56 := NB229_228.out
  have hnb57 := NB228_237.out
  have hnc57 := NB237_228.out
  have hcz58_0 := bc0 BK228
  have hcz58_1 := bc1 BK228
  have hfz58_0 := blk_frozen BK228.out 0
  have hfz58_1 := blk_frozen BK228.out 1
  have hnb59 := NB237_227.out
  have hnc59 := NB227_237.out
  have hnb60 := NB237_229.out
  have hnc60 := NB229_237.out
  have hcz61_0 := bc0 BK237
  have hcz61_1 := bc1 BK237
  have hfz61_0 := blk_frozen BK237.out 0
  have hfz61_1 := blk_frozen BK237.out 1
  have p238 : 0 ≤ (a1_0 : Int) := of_decide_eq_true ‹_›
  have q238 : a1_0 < (t233.length : Int) := of_decide_eq_true ‹_›
  obtain ⟨ad238, e238, hx238_0⟩ := Kd.at_int (Kd.R_reads' HO235.out).2.2 a1_0 p238 q238
  cases e238
  replace p238 := eq_true p238
  replace q238 := eq_true q238
  have p8 : 0 ≤ (a1_0 : Int) := of_decide_eq_true ‹_›
  have q8 : (a1_0 : Int) < ((t233.length : Int) : Int) := of_decide_eq_true ‹_›
  obtain ⟨go8, co8, eo8, gb8, gl8, cl8, HG8⟩ := Kd.R_form HO235.out (by omega)
  (first | cases eo8 | (injection eo8 with ea_ en_ ec_; (first | subst ea_ | (injection ea_ with ea_; subst ea_)); subst ec_; clear en_))
  have GB8 := Aside0.mk gb8
  have GG8 := Aside0.mk HG8
  clear gb8 gl8 HG8
  (first | simp only [add_plain] at hx238_0 | skip)
  obtain ⟨hx8_0, hf8_0⟩ := Kd.R_celln 0 HO235.out (a1_0 : Int) p8 q8
  replace p8 := eq_true p8
  replace q8 := eq_true q8
  obtain ⟨hy62_, hz62_⟩ := Kd.R_celln 0 HO235.out (a1_0 : Int) (of_decide_eq_true ‹_›) (of_decide_eq_true ‹_›)
  have HP62 := Kd.R_putg HO235.out (a1_0 : Int) (wrap64 ((rd t233 a1_0) - t236))
  try go_wp2_with (first | ((with_reducible refine gate_store (t := 3) (p := 23) rfl ?_); refine store_event (t := 3) (p := 23) (v := ?vo_w63) (w1 := (w54.setCell ⟨go8, (a1_0 : Int).toNat, none⟩ (.int .i64 (wrap64 ((rd t233 a1_0) - t236))))) ?hg ?ho ?hn ?hr ?_; (case ho => rfl); (case hg => rfl); (case hn => rfl); (case hr => first | (go_simp; done) | (go_simp; rfl)); intro w63 hw; have hg : w54.grownBy w63 (some go8) := (by rw [hw]; exact HP62.2); have hp_ : Kd.R (Kd.int .i64) 3 w63 w.heap.size (fun k_ => some k_ ≠ (.slice Ao50 t230.length co50 : Value).ownBlock) (.slice (some ⟨go8, 0, none⟩) t233.length co52) y239 := (by rw [hw, Ny239.out]; exact HP62.1); clear HP62; replace BK227 := Aside0.mk (blk_grown (g := gb227) (o := .cells #[.slice A0_0 l0_0.length c0_0, .slice A0_1 l0_1.length c0_1] 29 (0, 0)) (bk BK227) hg (Kd.R_ne HO235.out BK227.out (by decide))); replace BK228 := Aside0.mk (blk_grown (g := gb228) (o := .cells #[.int .i64 a1_0, .int .i64 a1_1] 49 (0, 0)) (bk BK228) hg (Kd.R_ne HO235.out BK228.out (by decide))); replace BK229 := Aside0.mk (blk_grown (g := gb229) (o := .cells #[.slice none 0 0, .slice none 0 0] 29 (0, 0)) (bk BK229) hg (Kd.R_ne HO235.out BK229.out (by decide))); replace HO232 := Aside0.mk (Kd.R_after (v := (.slice (some ⟨go8, 0, none⟩) t233.length co52)) (v1 := (.slice (some ⟨go8, 0, none⟩) t233.length co52)) (ok := (fun _ => True)) (by exact Kd.R_mono HO232.out (fun _ hk => ⟨trivial, hk⟩)) hg (.inl rfl)); replace BK237 := Aside0.mk (blk_grown (g := gb237) (o := .cells #[.slice Ao50 t230.length co50, .slice (some ⟨go8, 0, none⟩) t233.length co52] 29 (0, 0)) (bk BK237) hg (Kd.R_ne HO235.out BK237.out (by decide))); replace HO235 := Aside0.mk (hp_); replace HB := Aside0.mk ((by rw [hw]; exact below_set (HB.out) GB8.out : Below w.heap.size w w63)); clear hg hw hp_; have hcz64_0 := bc0 BK228; have hcz64_1 := bc1 BK228; have hfz64_0 := blk_frozen BK228.out 0; have hfz64_1 := blk_frozen BK228.out 1; have hcz65_0 := bc0 BK237; have hcz65_1 := bc1 BK237; have hfz65_0 := blk_frozen BK237.out 0; have hfz65_1 := blk_frozen BK237.out 1; have hnb66 := NB229_227.out; have hnc66 := NB227_229.out; have hcz67_0 := bc0 BK229; have hcz67_1 := bc1 BK229; have hfz67_0 := blk_frozen BK229.out 0; have hfz67_1 := blk_frozen BK229.out 1))
  refine bodyPost_ret (results_cell_row rfl _ _ gb229 29 #[.slice Ao50 t230.length co50, .slice (some ⟨go8, 0, none⟩) t233.length co52] (0, 0) _ rfl (by refine blk_put (cs := #[.slice Ao50 t230.length co50, .slice none 0 0]) ?_ 1 _ rfl; refine blk_put (cs := #[.slice none 0 0, .slice none 0 0]) ?_ 0 _ rfl; exact bk BK229) Try.underlying29 rfl (by kernel_rfl)) rfl ?_
  exact ⟨_, _, by first | rfl | (simp [errW_none, errW_some] <;> rfl) | (simp [*, errW_none, errW_some] <;> rfl), by exact Kd.R_mono (Kd.R_far (p := ⟨gb229, 1, none⟩) (Kd.R_far (p := ⟨gb229, 0, none⟩) (Kd.R_types HO232.out BK229.out (by decide)) (fun _ hk => hk.2) (.slice Ao50 t230.length co50)) (fun _ hk => hk.2) (.slice (some ⟨go8, 0, none⟩) t233.length co52)) (fun _ hk => hk.1.2), by exact Kd.R_mono (Kd.R_far (p := ⟨gb229, 1, none⟩) (Kd.R_far (p := ⟨gb229, 0, none⟩) (Kd.R_types HO235.out BK229.out (by decide)) (fun _ hk => hk.2) (.slice Ao50 t230.length co50)) (fun _ hk => hk.2) (.slice (some ⟨go8, 0, none⟩) t233.length co52)) (fun _ hk => hk.1), bw HB⟩
 rw [if_pos c9] at H
 have c9b0 : decide (0 ≤ a1_1) = true := decide_eq_true c9
 clear c9
 by_cases c10 : 0 ≤ a1_1
 rotate_left
 ·rw [if_neg c10] at H
  exact absurd H (by simp)
 rw [if_pos c10] at H
 have c10b0 : decide (0 ≤ a1_1) = true := decide_eq_true c10
 clear c10
 by_cases c11 : a1_1 < (t233.length : Int)
 rotate_left
 ·rw [if_neg c11] at H
  exact absurd H (by simp)
 rw [if_pos c11] at H
 have c11b0 : decide (a1_1 < (t233.length : Int)) = true := decide_eq_true c11
 clear c11
 obtain ⟨y241, hy241⟩ : ∃ y_ : List Int, y_ = (y239.set (a1_1 : Int).toNat (wrap64 ((rd y239 a1_1) + t236))) := ⟨_, rfl⟩
 replace H : (some (t230, y241)) = some (r1, r2) := by first | (rw [hy241]; with_reducible exact H) | (have H2_ := (Option.bind_some _ _).symm.trans H; rw [hy241]; with_reducible exact H2_) | (have H2_ := (Option.bind_some _ _).symm.trans H; with_reducible exact H2_) | with_reducible exact H | (rw [hy241]; exact H) | exact H
 have Ny241 := Aside0.mk hy241
 clear hy241
 simp only [Option.some.injEq, Prod.mk.injEq] at H
 obtain ⟨rfl, rfl⟩ := H
 go_enter Try.func59, Try.ntmps59
 try go_wp2_with (first | ((with_reducible refine gate_dst (N := 2) rfl ?_); refine bx 2 #[.slice A0_0 l0_0.length c0_0, .slice A0_1 l0_1.length c0_1] 29 ?_; intro gb227 hg w13 hbox hb; have BK227 := Aside0.mk (hbox); have GW227 := ge HB hg; have GE227 := ge HB hg; replace HB := bs HB hb; clear hb hbox hg) | ((with_reducible refine gate_dst (N := 3) rfl ?_); refine bx 3 #[.int .i64 a1_0, .int .i64 a1_1] 49 ?_; intro gb228 hg w14 hbox hb; have BK228 := Aside0.mk (hbox); have GW228 := ge HB hg; have GE228 := ge HB hg; replace HB := bs HB hb; have NB227_228 := nl BK227 hg; have NB228_227 := nr BK227 hg; replace BK227 := bb BK227 hb; clear hb hbox hg) | ((with_reducible refine gate_dst (N := 4) rfl ?_); refine bx 4 #[.slice none 0 0, .slice none 0 0] 29 ?_; intro gb229 hg w15 hbox hb; have BK229 := Aside0.mk (hbox); have GW229 := ge HB hg; have GE229 := ge HB hg; replace HB := bs HB hb; have NB227_229 := nl BK227 hg; have NB229_227 := nr BK227 hg; replace BK227 := bb BK227 hb; have NB228_229 := nl BK228 hg; have NB229_228 := nr BK228 hg; replace BK228 := bb BK228 hb; clear hb hbox hg))
 replace BK227 := Aside0.mk (blk_drew BK227.out)
 replace BK228 := Aside0.mk (blk_drew BK228.out)
 replace BK229 := Aside0.mk (blk_drew BK229.out)
 replace HB := Aside0.mk (below_drew1 HB.out)
 refine start_ (n := 8) (S := fun w' => w'.cell? ⟨gb227, 0, none⟩ = some (.slice A0_0 l0_0.length c0_0) ∧ w'.cell? ⟨gb227, 1, none⟩ = some (.slice A0_1 l0_1.length c0_1) ∧ w'.cell? ⟨gb228, 0, none⟩ = some (.int .i64 a1_0) ∧ w'.cell? ⟨gb228, 1, none⟩ = some (.int .i64 a1_1)) (ds := []) (bl 8 0) (by kernel_rfl) rfl rfl ⟨bc0 BK227, bc1 BK227, bc0 BK228, bc1 BK228⟩ (fun hHeld => ?_); refine with_tabW impl_Vessels_behind.tab1 impl_Vessels_behind.bits1 (fun HT_ HW_ => ?_)
 generalize w15.drew = w16 at BK227 BK228 BK229 HB hHeld ⊢
 refine tk 0 7 (bl 8 1) HT_.out HW_.out hHeld (v := ?_) (a' := ?_) ?_ ?_ ?_
 rotate_left; (rintro w' ⟨s0, s1, s2, s3⟩; go_simp; with_reducible rfl); rotate_left; (simp only [sqa, sqb, sqc, sqd, i64_w, i32_w]; rfl)
 refine tk 2 9 (bl 8 5) HT_.out HW_.out hHeld (v := ?_) (a' := ?_) ?_ ?_ ?_
 rotate_left; (rintro w' ⟨s0, s1, s2, s3⟩; go_simp; with_reducible rfl); rotate_left; (simp only [sqa, sqb, sqc, sqd, i64_w, i32_w]; rfl)
 refine tk 3 10 (bl 8 13) HT_.out HW_.out hHeld (v := ?_) (a' := ?_) ?_ ?_ ?_
 rotate_left; (rintro w' ⟨s0, s1, s2, s3⟩; go_simp; with_reducible rfl); rotate_left; (simp only [sqa, sqb, sqc, sqd, i64_w, i32_w]; rfl)
 refine join_ (σ := Value × Value × Nat) 2 (bl 8 63) (fun s_ => [(8, .agg #[s_.1, s_.2.1]), (11, .int .i64 t236), (5, .pointer (some ⟨s_.2.2, 0, none⟩))]) (fun s_ w' => (w'.cell? ⟨gb227, 0, none⟩ = some (.slice A0_0 l0_0.length c0_0) ∧ w'.cell? ⟨gb227, 1, none⟩ = some (.slice A0_1 l0_1.length c0_1) ∧ w'.cell? ⟨gb228, 0, none⟩ = some (.int .i64 a1_0) ∧ w'.cell? ⟨gb228, 1, none⟩ = some (.int .i64 a1_1)) ∧ (Kd.R (Kd.int .i64) 3 w' w.heap.size (fun k_ => some k_ ≠ (s_.2.1 : Value).ownBlock) s_.1 t230) ∧ (Kd.R (Kd.int .i64) 3 w' w.heap.size (fun k_ => some k_ ≠ (s_.1 : Value).ownBlock) s_.2.1 t233) ∧ (w'.heap[gb227]? = some (.cells #[.slice A0_0 l0_0.length c0_0, .slice A0_1 l0_1.length c0_1] 29 (0, 0))) ∧ (w'.heap[gb228]? = some (.cells #[.int .i64 a1_0, .int .i64 a1_1] 49 (0, 0))) ∧ (w'.heap[gb229]? = some (.cells #[.slice none 0 0, .slice none 0 0] 29 (0, 0))) ∧ (w'.heap[s_.2.2]? = some (.cells #[.slice none 0 0, .slice none 0 0] 29 (0, 0))) ∧ (w.heap.size ≤ s_.2.2) ∧ (w.heap.size ≤ s_.2.2) ∧ (gb227 ≠ s_.2.2) ∧ (s_.2.2 ≠ gb227) ∧ (gb228 ≠ s_.2.2) ∧ (s_.2.2 ≠ gb228) ∧ (gb229 ≠ s_.2.2) ∧ (s_.2.2 ≠ gb229) ∧ (Below w.heap.size w w')) ?_ ?_
 rotate_left
 ·intro hCont
  refine two_ (i := 1) (j := 5) (Ni := some 8) (Nj := some 5) (bl 8 15) (bl 8 45) rfl rfl rfl rfl (two_of HT_.out (by kernel_rfl)) (by decide) (by decide) (fun K hK => ?_) (fun K hK => ?_)
  ·skip
   refine gs Try.func73 #[.agg #[.slice A0_0 l0_0.length c0_0, .slice A0_1 l0_1.length c0_1]] ?_
   with_reducible refine (impl_Vessels_own.calls _ _ l0_0 _ _ l0_1 t230 t233 _ ?side1 ?side2 ?side3 ?side4 A3.out).mono ?_
   (case side1 => exact ck HR0_0 HB)
   (case side2 => exact HC0_0.out)
   (case side3 => exact ck HR0_1 HB)
   (case side4 => exact HC0_1.out)
   rintro e w17 ⟨v231, v234, rfl, ho0, ho1, hb⟩
   refine ⟨_, rfl, ?_⟩
   have HO232 := lo ho0 HB
   have HO235 := lo ho1 HB
   replace BK227 := bb BK227 hb
   replace BK228 := bb BK228 hb
   replace BK229 := bb BK229 hb
   replace HB := bs HB hb
   (try clear hb); (try clear hb2); (try clear hk); (try clear hi); (try clear ho0); (try clear ho1)
   refine hK.out _ _ ⟨bc0 BK227, bc1 BK227, bc0 BK228, bc1 BK228⟩ (fun hHeld => ?_)
   clear hK K
   refine norm_ (a' := ?_) ?_ ?_; rotate_left; (show Act.put _ (some 8) _ = _; simp only [sqa, sqb, sqc, sqd, i64_w, i32_w]; rfl)
   refine two_ (i := 4) (j := 5) (Ni := some 11) (Nj := some 5) (bl 8 31) (bl 8 47) rfl rfl rfl rfl (two_of HT_.out (by kernel_rfl)) (by decide) (by decide) (fun K hK => ?_) (fun K hK => ?_)
   ·skip
    refine gs Try.func58 #[.agg #[.slice A0_0 l0_0.length c0_0, .slice A0_1 l0_1.length c0_1], .agg #[.int .i64 a1_0, .int .i64 a1_1]] ?_
    with_reducible refine (impl_Vessels_amount.calls _ _ l0_0 _ _ l0_1 a1_0 a1_1 t236 _ ?side1 ?side2 ?side3 ?side4 A4.out).mono ?_
    (case side1 => exact ck HR0_0 HB)
    (case side2 => exact HC0_0.out)
    (case side3 => exact ck HR0_1 HB)
    (case side4 => exact HC0_1.out)
    rintro e w18 ⟨rfl, hb⟩
    refine ⟨_, rfl, ?_⟩
    replace HO232 := rb HO232 hb
    replace HO235 := rb HO235 hb
    replace BK227 := bb BK227 hb
    replace BK228 := bb BK228 hb
    replace BK229 := bb BK229 hb
    replace HB := bs HB hb
    (try clear hb); (try clear hb2); (try clear hk); (try clear hi)
    refine hK.out _ _ ⟨bc0 BK227, bc1 BK227, bc0 BK228, bc1 BK228⟩ (fun hHeld => ?_)
    clear hK K
    refine norm_ (a' := ?_) ?_ ?_; rotate_left; (show Act.put _ (some 11) _ = _; simp only [sqa, sqb, sqc, sqd, i64_w, i32_w]; rfl)
    refine on 5 5 (bl 8 63) HT_.out (fun K hK => ?_)
    refine box_step ?hg (N := 5) ?hd (cs := #[.slice none 0 0, .slice none 0 0]) (t := 29) ?hr ?_; (case hd => rfl); (case hg => rfl); (case hr => first | (go_simp; done) | (go_simp; rfl))
    intro gb237 hg w19 hbox hb
    replace HO232 := rb HO232 hb
    replace HO235 := rb HO235 hb
    have BK237 := Aside0.mk (hbox)
    have GW237 := ge HB hg
    have GE237 := ge HB hg
    replace HB := bs HB hb
    have NB227_237 := nl BK227 hg
    have NB237_227 := nr BK227 hg
    replace BK227 := bb BK227 hb
    have NB228_237 := nl BK228 hg
    have NB237_228 := nr BK228 hg
    replace BK228 := bb BK228 hb
    have NB229_237 := nl BK229 hg
    have NB237_229 := nr BK229 hg
    replace BK229 := bb BK229 hb
    clear hb hbox hg
    refine hK.out _ _ ⟨bc0 BK227, bc1 BK227, bc0 BK228, bc1 BK228⟩ (fun hHeld => ?_)
    clear hK K
    refine norm_ (a' := ?_) ?_ ?_; rotate_left; (show Act.put _ (some 5) _ = _; simp only [sqa, sqb, sqc, sqd, i64_w, i32_w]; rfl)
    exact norm_ (by simp only [putAll, Act.put, List.setIfInBounds_toArray, List.set_cons_zero, List.set_cons_succ]) (hCont (v231, v234, gb237) _ ⟨hHeld, (rk HO232), (rk HO235), (bk BK227), (bk BK228), (bk BK229), (bk BK237), GW237.out, GE237.out, NB227_237.out, NB237_227.out, NB228_237.out, NB237_228.out, NB229_237.out, NB237_229.out, (bw HB)⟩)
   ·skip
    refine box_step ?hg (N := 5) ?hd (cs := #[.slice none 0 0, .slice none 0 0]) (t := 29) ?hr ?_; (case hd => rfl); (case hg => rfl); (case hr => first | (go_simp; done) | (go_simp; rfl))
    intro gb237 hg w18 hbox hb
    replace HO232 := rb HO232 hb
    replace HO235 := rb HO235 hb
    have BK237 := Aside0.mk (hbox)
    have GW237 := ge HB hg
    have GE237 := ge HB hg
    replace HB := bs HB hb
    have NB227_237 := nl BK227 hg
    have NB237_227 := nr BK227 hg
    replace BK227 := bb BK227 hb
    have NB228_237 := nl BK228 hg
    have NB237_228 := nr BK228 hg
    replace BK228 := bb BK228 hb
    have NB229_237 := nl BK229 hg
    have NB237_229 := nr BK229 hg
    replace BK229 := bb BK229 hb
    clear hb hbox hg
    refine hK.out _ _ ⟨bc0 BK227, bc1 BK227, bc0 BK228, bc1 BK228⟩ (fun hHeld => ?_)
    clear hK K
    refine norm_ (a' := ?_) ?_ ?_; rotate_left; (show Act.put _ (some 5) _ = _; simp only [sqa, sqb, sqc, sqd, i64_w, i32_w]; rfl)
    refine on 4 11 (bl 8 63) HT_.out (fun K hK => ?_)
    refine gs Try.func58 #[.agg #[.slice A0_0 l0_0.length c0_0, .slice A0_1 l0_1.length c0_1], .agg #[.int .i64 a1_0, .int .i64 a1_1]] ?_
    with_reducible refine (impl_Vessels_amount.calls _ _ l0_0 _ _ l0_1 a1_0 a1_1 t236 _ ?side1 ?side2 ?side3 ?side4 A4.out).mono ?_
    (case side1 => exact ck HR0_0 HB)
    (case side2 => exact HC0_0.out)
    (case side3 => exact ck HR0_1 HB)
    (case side4 => exact HC0_1.out)
    rintro e w19 ⟨rfl, hb⟩
    refine ⟨_, rfl, ?_⟩
    replace HO232 := rb HO232 hb
    replace HO235 := rb HO235 hb
    replace BK227 := bb BK227 hb
    replace BK228 := bb BK228 hb
    replace BK229 := bb BK229 hb
    replace BK237 := bb BK237 hb
    replace HB := bs HB hb
    (try clear hb); (try clear hb2); (try clear hk); (try clear hi)
    refine hK.out _ _ ⟨bc0 BK227, bc1 BK227, bc0 BK228, bc1 BK228⟩ (fun hHeld => ?_)
    clear hK K
    refine norm_ (a' := ?_) ?_ ?_; rotate_left; (show Act.put _ (some 11) _ = _; simp only [sqa, sqb, sqc, sqd, i64_w, i32_w]; rfl)
    exact norm_ (by simp only [putAll, Act.put, List.setIfInBounds_toArray, List.set_cons_zero, List.set_cons_succ]) (hCont (v231, v234, gb237) _ ⟨hHeld, (rk HO232), (rk HO235), (bk BK227), (bk BK228), (bk BK229), (bk BK237), GW237.out, GE237.out, NB227_237.out, NB237_227.out, NB228_237.out, NB237_228.out, NB229_237.out, NB237_229.out, (bw HB)⟩)
  ·skip
   refine box_step ?hg (N := 5) ?hd (cs := #[.slice none 0 0, .slice none 0 0]) (t := 29) ?hr ?_; (case hd => rfl); (case hg => rfl); (case hr => first | (go_simp; done) | (go_simp; rfl))
   intro gb237 hg w17 hbox hb
   have BK237 := Aside0.mk (hbox)
   have GW237 := ge HB hg
   have GE237 := ge HB hg
   replace HB := bs HB hb
   have NB227_237 := nl BK227 hg
   have NB237_227 := nr BK227 hg
   replace BK227 := bb BK227 hb
   have NB228_237 := nl BK228 hg
   have NB237_228 := nr BK228 hg
   replace BK228 := bb BK228 hb
   have NB229_237 := nl BK229 hg
   have NB237_229 := nr BK229 hg
   replace BK229 := bb BK229 hb
   clear hb hbox hg
   refine hK.out _ _ ⟨bc0 BK227, bc1 BK227, bc0 BK228, bc1 BK228⟩ (fun hHeld => ?_)
   clear hK K
   refine norm_ (a' := ?_) ?_ ?_; rotate_left; (show Act.put _ (some 5) _ = _; simp only [sqa, sqb, sqc, sqd, i64_w, i32_w]; rfl)
   refine on 1 8 (bl 8 47) HT_.out (fun K hK => ?_)
   refine gs Try.func73 #[.agg #[.slice A0_0 l0_0.length c0_0, .slice A0_1 l0_1.length c0_1]] ?_
   with_reducible refine (impl_Vessels_own.calls _ _ l0_0 _ _ l0_1 t230 t233 _ ?side1 ?side2 ?side3 ?side4 A3.out).mono ?_
   (case side1 => exact ck HR0_0 HB)
   (case side2 => exact HC0_0.out)
   (case side3 => exact ck HR0_1 HB)
   (case side4 => exact HC0_1.out)
   rintro e w18 ⟨v231, v234, rfl, ho0, ho1, hb⟩
   refine ⟨_, rfl, ?_⟩
   have HO232 := lo ho0 HB
   have HO235 := lo ho1 HB
   replace BK227 := bb BK227 hb
   replace BK228 := bb BK228 hb
   replace BK229 := bb BK229 hb
   replace BK237 := bb BK237 hb
   replace HB := bs HB hb
   (try clear hb); (try clear hb2); (try clear hk); (try clear hi); (try clear ho0); (try clear ho1)
   refine hK.out _ _ ⟨bc0 BK227, bc1 BK227, bc0 BK228, bc1 BK228⟩ (fun hHeld => ?_)
   clear hK K
   refine norm_ (a' := ?_) ?_ ?_; rotate_left; (show Act.put _ (some 8) _ = _; simp only [sqa, sqb, sqc, sqd, i64_w, i32_w]; rfl)
   refine on 4 11 (bl 8 63) HT_.out (fun K hK => ?_)
   refine gs Try.func58 #[.agg #[.slice A0_0 l0_0.length c0_0, .slice A0_1 l0_1.length c0_1], .agg #[.int .i64 a1_0, .int .i64 a1_1]] ?_
   with_reducible refine (impl_Vessels_amount.calls _ _ l0_0 _ _ l0_1 a1_0 a1_1 t236 _ ?side1 ?side2 ?side3 ?side4 A4.out).mono ?_
   (case side1 => exact ck HR0_0 HB)
   (case side2 => exact HC0_0.out)
   (case side3 => exact ck HR0_1 HB)
   (case side4 => exact HC0_1.out)
   rintro e w19 ⟨rfl, hb⟩
   refine ⟨_, rfl, ?_⟩
   replace HO232 := rb HO232 hb
   replace HO235 := rb HO235 hb
   replace BK227 := bb BK227 hb
   replace BK228 := bb BK228 hb
   replace BK229 := bb BK229 hb
   replace BK237 := bb BK237 hb
   replace HB := bs HB hb
   (try clear hb); (try clear hb2); (try clear hk); (try clear hi)
   refine hK.out _ _ ⟨bc0 BK227, bc1 BK227, bc0 BK228, bc1 BK228⟩ (fun hHeld => ?_)
   clear hK K
   refine norm_ (a' := ?_) ?_ ?_; rotate_left; (show Act.put _ (some 11) _ = _; simp only [sqa, sqb, sqc, sqd, i64_w, i32_w]; rfl)
   exact norm_ (by simp only [putAll, Act.put, List.setIfInBounds_toArray, List.set_cons_zero, List.set_cons_succ]) (hCont (v231, v234, gb237) _ ⟨hHeld, (rk HO232), (rk HO235), (bk BK227), (bk BK228), (bk BK229), (bk BK237), GW237.out, GE237.out, NB227_237.out, NB237_227.out, NB228_237.out, NB237_228.out, NB229_237.out, NB237_229.out, (bw HB)⟩)
 rintro ⟨v231, v234, gb237⟩ w20 ⟨hS_, h0_, h1_, h2_, h3_, h4_, h5_, h6_, h7_, h8_, h9_, h10_, h11_, h12_, h13_, h14_⟩
 have HO232 := Aside0.mk h0_
 have HO235 := Aside0.mk h1_
 replace BK227 := Aside0.mk h2_
 replace BK228 := Aside0.mk h3_
 replace BK229 := Aside0.mk h4_
 have BK237 := Aside0.mk h5_
 have GW237 := GeC.mk h6_
 have GE237 := GeC.mk h7_
 have NB227_237 := NeC.mk h8_
 have NB237_227 := NeC.mk h9_
 have NB228_237 := NeC.mk h10_
 have NB237_228 := NeC.mk h11_
 have NB229_237 := NeC.mk h12_
 have NB237_229 := NeC.mk h13_
 replace HB := Aside0.mk h14_
 clear h0_ h1_ h2_ h3_ h4_ h5_ h6_ h7_ h8_ h9_ h10_ h11_ h12_ h13_ h14_
 have hHeld : w20.cell? ⟨gb227, 0, none⟩ = some (.slice A0_0 l0_0.length c0_0) ∧ w20.cell? ⟨gb227, 1, none⟩ = some (.slice A0_1 l0_1.length c0_1) ∧ w20.cell? ⟨gb228, 0, none⟩ = some (.int .i64 a1_0) ∧ w20.cell? ⟨gb228, 1, none⟩ = some (.int .i64 a1_1) := hS_
 obtain ⟨Ao21, co21, eo21⟩ := Kd.R_slice HO232.out
 (first | subst eo21 | (injection eo21 with f1_ f2_ f3_; have f4_ := f1_.symm; have f5_ := f3_.symm; clear f1_ f2_ f3_; subst f4_; subst f5_))
 obtain ⟨Ao23, co23, eo23⟩ := Kd.R_slice HO235.out
 (first | subst eo23 | (injection eo23 with f1_ f2_ f3_; have f4_ := f1_.symm; have f5_ := f3_.symm; clear f1_ f2_ f3_; subst f4_; subst f5_))
 refine norm_ (a' := ?_) ?_ ?_
 rotate_left
 ·simp only [putAll, Act.put, List.setIfInBounds_toArray, List.set_cons_zero, List.set_cons_succ]
  rfl
 refine one_ (i := 6) (N := none) (bl 8 127) rfl rfl (one_of HT_.out (by kernel_rfl)) (by decide) (fun K hK => ?_)
 have hs22 : w20.cell? ⟨gb237, 0, none⟩ = some (.slice none 0 0) := bc0 BK237
 have hfs22 := blk_frozen BK237.out 0
 have hns22_0 := NB227_237.out
 have hns22_1 := NB228_237.out
 have hns22_2 := NB229_237.out
 have hms22_0 := NB237_227.out
 have hms22_1 := NB237_228.out
 have hms22_2 := NB237_229.out
 have hs24 : w20.cell? ⟨gb237, 1, none⟩ = some (.slice none 0 0) := bc1 BK237
 have hfs24 := blk_frozen BK237.out 1
 have hns24_0 := NB227_237.out
 have hns24_1 := NB228_237.out
 have hns24_2 := NB229_237.out
 have hms24_0 := NB237_227.out
 have hms24_1 := NB237_228.out
 have hms24_2 := NB237_229.out
 refine skip_ (w1 := ?_) (by rfl) rfl ?_ ?_
 rotate_left
 ·go_simp
  rfl
 refine hK.out _ _ ⟨((cell_far (p := ⟨gb237, _, none⟩) NB227_237.out _).trans (((cell_far (p := ⟨gb237, _, none⟩) NB227_237.out _).trans (hHeld.1)))), ((cell_far (p := ⟨gb237, _, none⟩) NB227_237.out _).trans (((cell_far (p := ⟨gb237, _, none⟩) NB227_237.out _).trans (hHeld.2.1)))), ((cell_far (p := ⟨gb237, _, none⟩) NB228_237.out _).trans (((cell_far (p := ⟨gb237, _, none⟩) NB228_237.out _).trans (hHeld.2.2.1)))), ((cell_far (p := ⟨gb237, _, none⟩) NB228_237.out _).trans (((cell_far (p := ⟨gb237, _, none⟩) NB228_237.out _).trans (hHeld.2.2.2))))⟩ (fun hHeld => ?_)
 clear hK K
 refine pu 7 6 (bl 8 255) HT_.out (v := ?_) (a' := ?_) ?_ ?_ ?_
 rotate_left; (intro w'; go_simp; with_reducible rfl); rotate_left; (simp only [sqa, sqb, sqc, sqd, i64_w, i32_w]; rfl)
 refine done_ (done_of HT_.out (by kernel_rfl)) ?_
 have n0_ : Aside0 (Kd.R (Kd.int .i64) 3 ((w20.setCell ⟨gb237, 0, none⟩ (.slice Ao21 t230.length co21)).setCell ⟨gb237, 1, none⟩ (.slice Ao23 t233.length co23)) w.heap.size (fun k_ => some k_ ≠ (.slice Ao23 t233.length co23 : Value).ownBlock) (.slice Ao21 t230.length co21) t230) := ⟨by exact Kd.R_mono (Kd.R_far (p := ⟨gb237, 1, none⟩) (Kd.R_far (p := ⟨gb237, 0, none⟩) (Kd.R_types HO232.out BK237.out (by decide)) (fun _ hk => hk.2) (.slice Ao21 t230.length co21)) (fun _ hk => hk.2) (.slice Ao23 t233.length co23)) (fun _ hk => hk.1)⟩
 have n1_ : Aside0 (Kd.R (Kd.int .i64) 3 ((w20.setCell ⟨gb237, 0, none⟩ (.slice Ao21 t230.length co21)).setCell ⟨gb237, 1, none⟩ (.slice Ao23 t233.length co23)) w.heap.size (fun k_ => some k_ ≠ (.slice Ao21 t230.length co21 : Value).ownBlock) (.slice Ao23 t233.length co23) t233) := ⟨by exact Kd.R_mono (Kd.R_far (p := ⟨gb237, 1, none⟩) (Kd.R_far (p := ⟨gb237, 0, none⟩) (Kd.R_types HO235.out BK237.out (by decide)) (fun _ hk => hk.2) (.slice Ao21 t230.length co21)) (fun _ hk => hk.2) (.slice Ao23 t233.length co23)) (fun _ hk => hk.1)⟩
 have n2_ : Aside0 (((w20.setCell ⟨gb237, 0, none⟩ (.slice Ao21 t230.length co21)).setCell ⟨gb237, 1, none⟩ (.slice Ao23 t233.length co23)).heap[gb227]? = some (.cells #[.slice A0_0 l0_0.length c0_0, .slice A0_1 l0_1.length c0_1] 29 (0, 0))) := ⟨bk BK227⟩
 have n3_ : Aside0 (((w20.setCell ⟨gb237, 0, none⟩ (.slice Ao21 t230.length co21)).setCell ⟨gb237, 1, none⟩ (.slice Ao23 t233.length co23)).heap[gb228]? = some (.cells #[.int .i64 a1_0, .int .i64 a1_1] 49 (0, 0))) := ⟨bk BK228⟩
 have n4_ : Aside0 (((w20.setCell ⟨gb237, 0, none⟩ (.slice Ao21 t230.length co21)).setCell ⟨gb237, 1, none⟩ (.slice Ao23 t233.length co23)).heap[gb229]? = some (.cells #[.slice none 0 0, .slice none 0 0] 29 (0, 0))) := ⟨bk BK229⟩
 have n5_ : Aside0 (((w20.setCell ⟨gb237, 0, none⟩ (.slice Ao21 t230.length co21)).setCell ⟨gb237, 1, none⟩ (.slice Ao23 t233.length co23)).heap[gb237]? = some (.cells #[.slice Ao21 t230.length co21, .slice Ao23 t233.length co23] 29 (0, 0))) := ⟨by refine blk_put (cs := #[.slice Ao21 t230.length co21, .slice none 0 0]) ?_ 1 _ rfl; refine blk_put (cs := #[.slice none 0 0, .slice none 0 0]) ?_ 0 _ rfl; exact bk BK237⟩
 have n6_ : Aside0 (Below w.heap.size w ((w20.setCell ⟨gb237, 0, none⟩ (.slice Ao21 t230.length co21)).setCell ⟨gb237, 1, none⟩ (.slice Ao23 t233.length co23))) := ⟨bw HB⟩
 (try clear HO232); (try clear HO235); (try clear BK227); (try clear BK228); (try clear BK229); (try clear BK237); (try clear HB)
 generalize ((w20.setCell ⟨gb237, 0, none⟩ (.slice Ao21 t230.length co21)).setCell ⟨gb237, 1, none⟩ (.slice Ao23 t233.length co23)) = w25 at n0_ n1_ n2_ n3_ n4_ n5_ n6_ ⊢
 have HO232 := n0_
 have HO235 := n1_
 have BK227 := n2_
 have BK228 := n3_
 have BK229 := n4_
 have BK237 := n5_
 have HB := n6_
 clear n0_ n1_ n2_ n3_ n4_ n5_ n6_
 have hnb26 := NB228_227.out
 have hnc26 := NB227_228.out
 have hnb27 := NB228_229.out
 have hnc27 := NB229_228.out
 have hnb28 := NB228_237.out
 have hnc28 := NB237_228.out
 have hcz29_0 := bc0 BK228
 have hcz29_1 := bc1 BK228
 have hfz29_0 := blk_frozen BK228.out 0
 have hfz29_1 := blk_frozen BK228.out 1
 have hnb30 := NB237_227.out
 have hnc30 := NB227_237.out
 have hnb31 := NB237_229.out
 have hnc31 := NB229_237.out
 have hcz32_0 := bc0 BK237
 have hcz32_1 := bc1 BK237
 have hfz32_0 := blk_frozen BK237.out 0
 have hfz32_1 := blk_frozen BK237.out 1
 have p238 : 0 ≤ (a1_0 : Int) := of_decide_eq_true ‹_›
 have q238 : a1_0 < (t233.length : Int) := of_decide_eq_true ‹_›
 obtain ⟨ad238, e238, hx238_0⟩ := Kd.at_int (Kd.R_reads' HO235.out).2.2 a1_0 p238 q238
 cases e238
 replace p238 := eq_true p238
 replace q238 := eq_true q238
 have p8 : 0 ≤ (a1_0 : Int) := of_decide_eq_true ‹_›
 have q8 : (a1_0 : Int) < ((t233.length : Int) : Int) := of_decide_eq_true ‹_›
 obtain ⟨go8, co8, eo8, gb8, gl8, cl8, HG8⟩ := Kd.R_form HO235.out (by omega)
 (first | cases eo8 | (injection eo8 with ea_ en_ ec_; (first | subst ea_ | (injection ea_ with ea_; subst ea_)); subst ec_; clear en_))
 have GB8 := Aside0.mk gb8
 have GG8 := Aside0.mk HG8
 clear gb8 gl8 HG8
 (first | simp only [add_plain] at hx238_0 | skip)
 obtain ⟨hx8_0, hf8_0⟩ := Kd.R_celln 0 HO235.out (a1_0 : Int) p8 q8
 replace p8 := eq_true p8
 replace q8 := eq_true q8
 obtain ⟨hy33_, hz33_⟩ := Kd.R_celln 0 HO235.out (a1_0 : Int) (of_decide_eq_true ‹_›) (of_decide_eq_true ‹_›)
 have HP33 := Kd.R_putg HO235.out (a1_0 : Int) (wrap64 ((rd t233 a1_0) - t236))
 try go_wp2_with (first | ((with_reducible refine gate_store (t := 3) (p := 23) rfl ?_); refine store_event (t := 3) (p := 23) (v := ?vo_w34) (w1 := (w25.setCell ⟨go8, (a1_0 : Int).toNat, none⟩ (.int .i64 (wrap64 ((rd t233 a1_0) - t236))))) ?hg ?ho ?hn ?hr ?_; (case ho => rfl); (case hg => rfl); (case hn => rfl); (case hr => first | (go_simp; done) | (go_simp; rfl)); intro w34 hw; have hg : w25.grownBy w34 (some go8) := (by rw [hw]; exact HP33.2); have hp_ : Kd.R (Kd.int .i64) 3 w34 w.heap.size (fun k_ => some k_ ≠ (.slice Ao21 t230.length co21 : Value).ownBlock) (.slice (some ⟨go8, 0, none⟩) t233.length co23) y239 := (by rw [hw, Ny239.out]; exact HP33.1); clear HP33; replace BK227 := Aside0.mk (blk_grown (g := gb227) (o := .cells #[.slice A0_0 l0_0.length c0_0, .slice A0_1 l0_1.length c0_1] 29 (0, 0)) (bk BK227) hg (Kd.R_ne HO235.out BK227.out (by decide))); replace BK228 := Aside0.mk (blk_grown (g := gb228) (o := .cells #[.int .i64 a1_0, .int .i64 a1_1] 49 (0, 0)) (bk BK228) hg (Kd.R_ne HO235.out BK228.out (by decide))); replace BK229 := Aside0.mk (blk_grown (g := gb229) (o := .cells #[.slice none 0 0, .slice none 0 0] 29 (0, 0)) (bk BK229) hg (Kd.R_ne HO235.out BK229.out (by decide))); replace HO232 := Aside0.mk (Kd.R_after (v := (.slice (some ⟨go8, 0, none⟩) t233.length co23)) (v1 := (.slice (some ⟨go8, 0, none⟩) t233.length co23)) (ok := (fun _ => True)) (by exact Kd.R_mono HO232.out (fun _ hk => ⟨trivial, hk⟩)) hg (.inl rfl)); replace BK237 := Aside0.mk (blk_grown (g := gb237) (o := .cells #[.slice Ao21 t230.length co21, .slice (some ⟨go8, 0, none⟩) t233.length co23] 29 (0, 0)) (bk BK237) hg (Kd.R_ne HO235.out BK237.out (by decide))); replace HO235 := Aside0.mk (hp_); replace HB := Aside0.mk ((by rw [hw]; exact below_set (HB.out) GB8.out : Below w.heap.size w w34)); clear hg hw hp_; have hcz35_0 := bc0 BK228; have hcz35_1 := bc1 BK228; have hfz35_0 := blk_frozen BK228.out 0; have hfz35_1 := blk_frozen BK228.out 1; have hcz36_0 := bc0 BK237; have hcz36_1 := bc1 BK237; have hfz36_0 := blk_frozen BK237.out 0; have hfz36_1 := blk_frozen BK237.out 1; have p240 : 0 ≤ (a1_1 : Int) := of_decide_eq_true ‹_›; have q240 : a1_1 < (y239.length : Int) := (by have h_ : (a1_1 : Int) < ((t233.length : Int) : Int) := of_decide_eq_true ‹_›; first | (have e_ := (Kd.R_reads' HO235.out).1; omega) | simpa only [Ny239.out, List.length_set] using h_); have ql240 : ((a1_1 : Int) < ((t233.length : Int) : Int)) = True := eq_true (of_decide_eq_true ‹_›); obtain ⟨ad240, e240, hx240_0⟩ := Kd.at_int (Kd.R_reads' HO235.out).2.2 a1_1 p240 q240; obtain rfl : (⟨go8, 0, none⟩ : Addr) = ad240 := (by injection e240); (first | simp only [add_plain] at hx240_0 | simp only [add_at] at hx240_0 | simp only [Addr.add, Nat.zero_add] at hx240_0 | skip); replace p240 := eq_true p240; replace q240 := eq_true q240; have p12 : 0 ≤ (a1_1 : Int) := of_decide_eq_true ‹_›; have q12 : (a1_1 : Int) < ((t233.length : Int) : Int) := of_decide_eq_true ‹_›; obtain ⟨hx12_0, hf12_0⟩ := Kd.R_celln 0 HO235.out (a1_1 : Int) p12 q12; replace p12 := eq_true p12; replace q12 := eq_true q12; obtain ⟨hy37_, hz37_⟩ := Kd.R_celln 0 HO235.out (a1_1 : Int) (of_decide_eq_true ‹_›) (of_decide_eq_true ‹_›); have HP37 := Kd.R_putg HO235.out (a1_1 : Int) (wrap64 ((rd y239 a1_1) + t236))) | ((with_reducible refine gate_store (t := 3) (p := 35) rfl ?_); refine store_event (t := 3) (p := 35) (v := ?vo_w38) (w1 := (w34.setCell ⟨go8, (a1_1 : Int).toNat, none⟩ (.int .i64 (wrap64 ((rd y239 a1_1) + t236))))) ?hg ?ho ?hn ?hr ?_; (case ho => rfl); (case hg => rfl); (case hn => rfl); (case hr => first | (go_simp; done) | (go_simp; rfl)); intro w38 hw; have hg : w34.grownBy w38 (some go8) := (by rw [hw]; exact HP37.2); have hp_ : Kd.R (Kd.int .i64) 3 w38 w.heap.size (fun k_ => some k_ ≠ (.slice Ao21 t230.length co21 : Value).ownBlock) (.slice (some ⟨go8, 0, none⟩) t233.length co23) y241 := (by rw [hw, Ny241.out]; exact HP37.1); clear HP37; replace BK227 := Aside0.mk (blk_grown (g := gb227) (o := .cells #[.slice A0_0 l0_0.length c0_0, .slice A0_1 l0_1.length c0_1] 29 (0, 0)) (bk BK227) hg (Kd.R_ne HO235.out BK227.out (by decide))); replace BK228 := Aside0.mk (blk_grown (g := gb228) (o := .cells #[.int .i64 a1_0, .int .i64 a1_1] 49 (0, 0)) (bk BK228) hg (Kd.R_ne HO235.out BK228.out (by decide))); replace BK229 := Aside0.mk (blk_grown (g := gb229) (o := .cells #[.slice none 0 0, .slice none 0 0] 29 (0, 0)) (bk BK229) hg (Kd.R_ne HO235.out BK229.out (by decide))); replace HO232 := Aside0.mk (Kd.R_after (v := (.slice (some ⟨go8, 0, none⟩) t233.length co23)) (v1 := (.slice (some ⟨go8, 0, none⟩) t233.length co23)) (ok := (fun _ => True)) (rk HO232) hg (.inl rfl)); replace BK237 := Aside0.mk (blk_grown (g := gb237) (o := .cells #[.slice Ao21 t230.length co21, .slice (some ⟨go8, 0, none⟩) t233.length co23] 29 (0, 0)) (bk BK237) hg (Kd.R_ne HO235.out BK237.out (by decide))); replace HO235 := Aside0.mk (hp_); replace HB := Aside0.mk ((by rw [hw]; exact below_set (HB.out) GB8.out : Below w.heap.size w w38)); clear hg hw hp_; have hcz39_0 := bc0 BK237; have hcz39_1 := bc1 BK237; have hfz39_0 := blk_frozen BK237.out 0; have hfz39_1 := blk_frozen BK237.out 1; have hnb40 := NB229_227.out; have hnc40 := NB227_229.out; have hcz41_0 := bc0 BK229; have hcz41_1 := bc1 BK229; have hfz41_0 := blk_frozen BK229.out 0; have hfz41_1 := blk_frozen BK229.out 1))
 refine bodyPost_ret (results_cell_row rfl _ _ gb229 29 #[.slice Ao21 t230.length co21, .slice (some ⟨go8, 0, none⟩) t233.length co23] (0, 0) _ rfl (by refine blk_put (cs := #[.slice Ao21 t230.length co21, .slice none 0 0]) ?_ 1 _ rfl; refine blk_put (cs := #[.slice none 0 0, .slice none 0 0]) ?_ 0 _ rfl; exact bk BK229) Try.underlying29 rfl (by kernel_rfl)) rfl ?_
 exact ⟨_, _, by first | rfl | (simp [errW_none, errW_some] <;> rfl) | (simp [*, errW_none, errW_some] <;> rfl), by exact Kd.R_mono (Kd.R_far (p := ⟨gb229, 1, none⟩) (Kd.R_far (p := ⟨gb229, 0, none⟩) (Kd.R_types HO232.out BK229.out (by decide)) (fun _ hk => hk.2) (.slice Ao21 t230.length co21)) (fun _ hk => hk.2) (.slice (some ⟨go8, 0, none⟩) t233.length co23)) (fun _ hk => hk.1.2), by exact Kd.R_mono (Kd.R_far (p := ⟨gb229, 1, none⟩) (Kd.R_far (p := ⟨gb229, 0, none⟩) (Kd.R_types HO235.out BK229.out (by decide)) (fun _ hk => hk.2) (.slice Ao21 t230.length co21)) (fun _ hk => hk.2) (.slice (some ⟨go8, 0, none⟩) t233.length co23)) (fun _ hk => hk.1), bw HB⟩
end Go.Proofs.Ytigpkicbigpilaa.V
