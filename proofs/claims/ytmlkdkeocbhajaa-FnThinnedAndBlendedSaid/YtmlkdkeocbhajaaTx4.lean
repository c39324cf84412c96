-- Functions of the program as plain functions, and that the calls come to them. Written by a program (ownprint.py); nothing here is trusted: Lean checks it.
import Derived.Test.YtmlkdkeocbhajaaTx0
import Derived.Test.YtmlkdkeocbhajaaTx1
import Derived.Test.YtmlkdkeocbhajaaTx2
import Derived.Test.YtmlkdkeocbhajaaTx3
namespace Go.Proofs.Ytmlkdkeocbhajaa.T
open Go.RowKit Go.Proofs.YtmlkdkeocbhajaaW.PrintWords Go.Proofs.YtmlkdkeocbhajaaW.PrintLast Go.Proofs.YtmlkdkeocbhajaaW.PrintMore Go.Proofs.Ytmlkdkeocbhajaa.Sq
attribute [local go_sem] max2_int min2_int max_two min_two max_three min_three max_four min_four   -- for this text's walks alone
set_option linter.unusedVariables false
set_option linter.unusedSimpArgs false

attribute [local go_sem high] eqA78
/-! ### spec_BlendAmounts: function 78 -/
def spec_BlendAmounts.j0 : Nat → Bool → Int → Int → Int → Int → Int → Int → Option (Int × Int × Bool)
 | 0, _, _, _, _, _, _, _ => none
 | k + 1, x26, x321000, x321001, x322000, x322001, x323000, x323001 => if x26 = true then (some (0, 0, false)) else (if (x321000 == x323000 && (x321001 == x323001)) = true then (some (1, 0, true)) else (if (x322000 == x323000 && (x322001 == x323001)) = true then (some (0, 1, true)) else ((spec_saGap.f x321000 x321001 x323000 x323001).bind fun bt326 => ((spec_saGap.f x323000 x323001 x322000 x322001).bind fun bt330 => (if (wrap64 (bt326.1 * bt330.1)) ≤ 0 then (some (0, 0, false)) else ((spec_saCross.f k bt326.1 bt326.2.1 bt326.2.2.1 bt326.2.2.2 bt330.1 bt330.2.1 bt330.2.2.1 bt330.2.2.2).bind fun bt336 => (if bt336.2.2 = true then (some (bt336.1, bt336.2.1, true)) else (some (0, 0, false)))))))))
def spec_BlendAmounts.f (k : Nat) (a0_0 : Int) (a0_1 : Int) (a1_0 : Int) (a1_1 : Int) (a2_0 : Int) (a2_1 : Int) : Option (Int × Int × Bool) := (spec_saGood.f k a0_0 a0_1).bind fun t323 => (if t323 = true then ((spec_saGood.f k a1_0 a1_1).bind fun t324 => (if t324 = true then ((spec_saGood.f k a2_0 a2_1).bind fun t325 => (spec_BlendAmounts.j0 k (!t325) a0_0 a0_1 a1_0 a1_1 a2_0 a2_1)) else (spec_BlendAmounts.j0 k true a0_0 a0_1 a1_0 a1_1 a2_0 a2_1))) else (spec_BlendAmounts.j0 k true a0_0 a0_1 a1_0 a1_1 a2_0 a2_1))
theorem spec_BlendAmounts.mono_l : ∀ k, (∀ y0 y1 y2 y3 y4 y5 y6, LeO (spec_BlendAmounts.j0 k y0 y1 y2 y3 y4 y5 y6) (spec_BlendAmounts.j0 (k + 1) y0 y1 y2 y3 y4 y5 y6))
 | 0 => fun _ _ _ _ _ _ _ r h => by simp [spec_BlendAmounts.j0] at h
 | k + 1 => by
  have ih0 := spec_BlendAmounts.mono_l k
  ·intro y0 y1 y2 y3 y4 y5 y6
   unfold spec_BlendAmounts.j0
   repeat' first
   | (with_reducible exact ih0 _ _ _ _ _ _ _)
   | (with_reducible exact spec_saCross.mono _ _ _ _ _ _ _ _ _)
   | (with_reducible exact spec_saGood.mono _ _ _)
   | (with_reducible exact LeO.refl _)
   | (with_reducible exact LeO.none _)
   | (with_reducible refine LeO.ite ?_ ?_)
   | (with_reducible refine LeO.bind ?_ (fun _ => ?_))
   | exact ih0 _ _ _ _ _ _ _
   | exact spec_saCross.mono _ _ _ _ _ _ _ _ _
   | exact spec_saGood.mono _ _ _
   | exact LeO.none _
   | refine LeO.ite ?_ ?_
   | refine LeO.bind ?_ (fun _ => ?_)
theorem spec_BlendAmounts.mono : ∀ a0 a1 a2 a3 a4 a5 k, LeO (spec_BlendAmounts.f k a0 a1 a2 a3 a4 a5) (spec_BlendAmounts.f (k + 1) a0 a1 a2 a3 a4 a5) := by
 intro a0 a1 a2 a3 a4 a5 k
 have ih0 := spec_BlendAmounts.mono_l k
 unfold spec_BlendAmounts.f
 repeat' first
   | (with_reducible exact ih0 _ _ _ _ _ _ _)
   | (with_reducible exact spec_saCross.mono _ _ _ _ _ _ _ _ _)
   | (with_reducible exact spec_saGood.mono _ _ _)
   | (with_reducible exact LeO.refl _)
   | (with_reducible exact LeO.none _)
   | (with_reducible refine LeO.ite ?_ ?_)
   | (with_reducible refine LeO.bind ?_ (fun _ => ?_))
   | exact ih0 _ _ _ _ _ _ _
   | exact spec_saCross.mono _ _ _ _ _ _ _ _ _
   | exact spec_saGood.mono _ _ _
   | exact LeO.none _
   | refine LeO.ite ?_ ?_
   | refine LeO.bind ?_ (fun _ => ?_)
def spec_BlendAmounts.T7 : Bool × List (List Nat × List Nat) := (true, [([], []), ([], []), ([0, 1], [0, 1]), ([], []), ([], []), ([3, 4, 2], [3, 4]), ([], []), ([], []), ([6, 2, 5, 0, 1, 2, 6, 7], [2, 6]), ([7, 5, 8, 0, 1, 2, 3, 4, 5, 6, 7, 8], [5, 7])])
def spec_BlendAmounts.B7 : List Nat := [0, 0, 3, 0, 0, 31, 0, 0, 255, 511]
theorem spec_BlendAmounts.tab7 : rtab .any (opsOf Try.f78 7) = spec_BlendAmounts.T7 := by kernel_rfl
theorem spec_BlendAmounts.bits7 : waitsOk spec_BlendAmounts.T7.2 spec_BlendAmounts.B7 = true := by kernel_rfl
set_option maxHeartbeats 8000000 in
set_option maxRecDepth 100000 in
theorem spec_BlendAmounts.calls (k : Nat) (a0_0 : Int) (a0_1 : Int) (a1_0 : Int) (a1_1 : Int) (a2_0 : Int) (a2_1 : Int) (r1 : Int) (r2 : Int) (r3 : Bool) (w : World) (h : spec_BlendAmounts.f k a0_0 a0_1 a1_0 a1_1 a2_0 a2_1 = some (r1, r2, r3)) :
  Calls Try.prog 78 #[.agg #[.int .i64 a0_0, .int .i64 a0_1], .agg #[.int .i64 a1_0, .int .i64 a1_1], .agg #[.int .i64 a2_0, .int .i64 a2_1]] w fun e w' => e = .returned (.tuple #[.int .i64 r1, .int .i64 r2, .bool r3]) ∧ Below w.heap.size w w' := by
 have hu78 := Try.underlying78
 have hu178 := Try.underlying178
 have HB := Aside0.mk (Below.refl w.heap.size w)
 have H : ((spec_saGood.f k a0_0 a0_1).bind fun t323 => (if t323 = true then ((spec_saGood.f k a1_0 a1_1).bind fun t324 => (if t324 = true then ((spec_saGood.f k a2_0 a2_1).bind fun t325 => (spec_BlendAmounts.j0 k (!t325) a0_0 a0_1 a1_0 a1_1 a2_0 a2_1)) else (spec_BlendAmounts.j0 k true a0_0 a0_1 a1_0 a1_1 a2_0 a2_1))) else (spec_BlendAmounts.j0 k true a0_0 a0_1 a1_0 a1_1 a2_0 a2_1))) = some (r1, r2, r3) := h
 clear h
 have HC4 := Aside0.mk H
 clear H
 go_enter Try.func78, Try.ntmps78
 go_upto_region 1 with (first | ((with_reducible refine gate_dst (N := 3) rfl ?_); refine bx 3 #[.int .i64 a0_0, .int .i64 a0_1] 78 ?_; intro gb320 hg w5 hbox hb; have BK320 := Aside0.mk (hbox); have GW320 := ge HB hg; have GE320 := ge HB hg; replace HB := bs HB hb; clear hb hbox hg) | ((with_reducible refine gate_dst (N := 4) rfl ?_); refine bx 4 #[.int .i64 a1_0, .int .i64 a1_1] 78 ?_; intro gb321 hg w6 hbox hb; have BK321 := Aside0.mk (hbox); have GW321 := ge HB hg; have GE321 := ge HB hg; replace HB := bs HB hb; have NB320_321 := nl BK320 hg; have NB321_320 := nr BK320 hg; replace BK320 := bb BK320 hb; clear hb hbox hg) | ((with_reducible refine gate_dst (N := 5) rfl ?_); refine bx 5 #[.int .i64 a2_0, .int .i64 a2_1] 78 ?_; intro gb322 hg w7 hbox hb; have BK322 := Aside0.mk (hbox); have GW322 := ge HB hg; have GE322 := ge HB hg; replace HB := bs HB hb; have NB320_322 := nl BK320 hg; have NB322_320 := nr BK320 hg; replace BK320 := bb BK320 hb; have NB321_322 := nl BK321 hg; have NB322_321 := nr BK321 hg; replace BK321 := bb BK321 hb; clear hb hbox hg))
 (try simp only [Act.put, List.setIfInBounds_toArray, List.set_cons_zero, List.set_cons_succ])
 go_cut [26] (fun v26 wc => ∃ (kq : Nat) (x26_3 : Bool), v26 = .bool x26_3 ∧ Aside0 (spec_BlendAmounts.j0 kq x26_3 a0_0 a0_1 a1_0 a1_1 a2_0 a2_1 = some (r1, r2, r3)) ∧ Aside0 (kq ≤ k) ∧ Aside0 (wc.heap[gb320]? = some (.cells #[.int .i64 a0_0, .int .i64 a0_1] 78 (0, 0))) ∧ Aside0 (wc.heap[gb321]? = some (.cells #[.int .i64 a1_0, .int .i64 a1_1] 78 (0, 0))) ∧ Aside0 (wc.heap[gb322]? = some (.cells #[.int .i64 a2_0, .int .i64 a2_1] 78 (0, 0))) ∧ Aside0 (Below w.heap.size w wc))
 case first =>
  have H := HC4.out
  clear HC4
  replace H := Option.bind_eq_some_iff.mp H
  obtain ⟨t323, A80, H⟩ := H
  replace H : (if t323 = true then ((spec_saGood.f k a1_0 a1_1).bind fun t324 => (if t324 = true then ((spec_saGood.f k a2_0 a2_1).bind fun t325 => (spec_BlendAmounts.j0 k (!t325) a0_0 a0_1 a1_0 a1_1 a2_0 a2_1)) else (spec_BlendAmounts.j0 k true a0_0 a0_1 a1_0 a1_1 a2_0 a2_1))) else (spec_BlendAmounts.j0 k true a0_0 a0_1 a1_0 a1_1 a2_0 a2_1)) = some (r1, r2, r3) := H
  have A8 := Aside0.mk A80
  clear A80
  by_cases c9 : t323 = true
  rotate_left
  ·replace c9 := Bool.eq_false_iff.mpr c9
   subst c9
   have H1 : (spec_BlendAmounts.j0 k true a0_0 a0_1 a1_0 a1_1 a2_0 a2_1) = some (r1, r2, r3) := by rw [if_neg (show ¬ (false = true) by decide)] at H; exact H
   clear H
   have H := H1
   clear H1
   have H' := Aside0.mk H
   clear H
   have hnb29 := NB320_321.out
   have hnc29 := NB321_320.out
   have hnb30 := NB320_322.out
   have hnc30 := NB322_320.out
   have hcz31_0 := bc0 BK320
   have hcz31_1 := bc1 BK320
   have hfz31_0 := blk_frozen BK320.out 0
   have hfz31_1 := blk_frozen BK320.out 1
   go_wp2_with (first | ((with_reducible refine gate_callee (f := 183) rfl ?_); refine gl 15 Try.func183 #[.agg #[.int .i64 a0_0, .int .i64 a0_1]] ?_; (with_reducible refine (spec_saGood.calls k a0_0 a0_1 false _ A8.out).mono ?_); rintro e w32 ⟨rfl, hb⟩; refine ⟨_, rfl, ?_⟩; replace BK320 := bb BK320 hb; replace BK321 := bb BK321 hb; replace BK322 := bb BK322 hb; replace HB := bs HB hb; (try clear hb)))
   go_meet
   case rel => exact ⟨_, (true), (by first | rfl | (simp; done) | (simp [*]; done)), H', ⟨by first | omega | exact Nat.le_refl _⟩, ⟨bk BK320⟩, ⟨bk BK321⟩, ⟨bk BK322⟩, ⟨bw HB⟩⟩
  subst c9
  have H1 : ((spec_saGood.f k a1_0 a1_1).bind fun t324 => (if t324 = true then ((spec_saGood.f k a2_0 a2_1).bind fun t325 => (spec_BlendAmounts.j0 k (!t325) a0_0 a0_1 a1_0 a1_1 a2_0 a2_1)) else (spec_BlendAmounts.j0 k true a0_0 a0_1 a1_0 a1_1 a2_0 a2_1))) = some (r1, r2, r3) := by rw [if_pos rfl] at H; exact H
  clear H
  have H := H1
  clear H1
  replace H := Option.bind_eq_some_iff.mp H
  obtain ⟨t324, A100, H⟩ := H
  replace H : (if t324 = true then ((spec_saGood.f k a2_0 a2_1).bind fun t325 => (spec_BlendAmounts.j0 k (!t325) a0_0 a0_1 a1_0 a1_1 a2_0 a2_1)) else (spec_BlendAmounts.j0 k true a0_0 a0_1 a1_0 a1_1 a2_0 a2_1)) = some (r1, r2, r3) := H
  have A10 := Aside0.mk A100
  clear A100
  by_cases c11 : t324 = true
  rotate_left
  ·replace c11 := Bool.eq_false_iff.mpr c11
   subst c11
   have H1 : (spec_BlendAmounts.j0 k true a0_0 a0_1 a1_0 a1_1 a2_0 a2_1) = some (r1, r2, r3) := by rw [if_neg (show ¬ (false = true) by decide)] at H; exact H
   clear H
   have H := H1
   clear H1
   have H' := Aside0.mk H
   clear H
   have hnb22 := NB320_321.out
   have hnc22 := NB321_320.out
   have hnb23 := NB320_322.out
   have hnc23 := NB322_320.out
   have hcz24_0 := bc0 BK320
   have hcz24_1 := bc1 BK320
   have hfz24_0 := blk_frozen BK320.out 0
   have hfz24_1 := blk_frozen BK320.out 1
   go_wp2_with (first | ((with_reducible refine gate_callee (f := 183) rfl ?_); refine gl 15 Try.func183 #[.agg #[.int .i64 a0_0, .int .i64 a0_1]] ?_; (with_reducible refine (spec_saGood.calls k a0_0 a0_1 true _ A8.out).mono ?_); rintro e w25 ⟨rfl, hb⟩; refine ⟨_, rfl, ?_⟩; replace BK320 := bb BK320 hb; replace BK321 := bb BK321 hb; replace BK322 := bb BK322 hb; replace HB := bs HB hb; (try clear hb); have hnb26 := NB321_322.out; have hnc26 := NB322_321.out; have hcz27_0 := bc0 BK321; have hcz27_1 := bc1 BK321; have hfz27_0 := blk_frozen BK321.out 0; have hfz27_1 := blk_frozen BK321.out 1) | (go_at_call 183; (with_reducible refine (spec_saGood.calls k a1_0 a1_1 false _ A10.out).mono ?_); rintro e w28 ⟨rfl, hb⟩; replace BK320 := bb BK320 hb; replace BK321 := bb BK321 hb; replace BK322 := bb BK322 hb; replace HB := bs HB hb; (try clear hb)))
   go_meet
   case rel => exact ⟨_, (true), (by first | rfl | (simp; done) | (simp [*]; done)), H', ⟨by first | omega | exact Nat.le_refl _⟩, ⟨bk BK320⟩, ⟨bk BK321⟩, ⟨bk BK322⟩, ⟨bw HB⟩⟩
  subst c11
  have H1 : ((spec_saGood.f k a2_0 a2_1).bind fun t325 => (spec_BlendAmounts.j0 k (!t325) a0_0 a0_1 a1_0 a1_1 a2_0 a2_1)) = some (r1, r2, r3) := by rw [if_pos rfl] at H; exact H
  clear H
  have H := H1
  clear H1
  replace H := Option.bind_eq_some_iff.mp H
  obtain ⟨t325, A120, H⟩ := H
  replace H : (spec_BlendAmounts.j0 k (!t325) a0_0 a0_1 a1_0 a1_1 a2_0 a2_1) = some (r1, r2, r3) := H
  have A12 := Aside0.mk A120
  clear A120
  have H' := Aside0.mk H
  clear H
  have hnb13 := NB320_321.out
  have hnc13 := NB321_320.out
  have hnb14 := NB320_322.out
  have hnc14 := NB322_320.out
  have hcz15_0 := bc0 BK320
  have hcz15_1 := bc1 BK320
  have hfz15_0 := blk_frozen BK320.out 0
  have hfz15_1 := blk_frozen BK320.out 1
  go_wp2_with (first | ((with_reducible refine gate_callee (f := 183) rfl ?_); refine gl 15 Try.func183 #[.agg #[.int .i64 a0_0, .int .i64 a0_1]] ?_; (with_reducible refine (spec_saGood.calls k a0_0 a0_1 true _ A8.out).mono ?_); rintro e w16 ⟨rfl, hb⟩; refine ⟨_, rfl, ?_⟩; replace BK320 := bb BK320 hb; replace BK321 := bb BK321 hb; replace BK322 := bb BK322 hb; replace HB := bs HB hb; (try clear hb); have hnb17 := NB321_322.out; have hnc17 := NB322_321.out; have hcz18_0 := bc0 BK321; have hcz18_1 := bc1 BK321; have hfz18_0 := blk_frozen BK321.out 0; have hfz18_1 := blk_frozen BK321.out 1) | (go_at_call 183; (with_reducible refine (spec_saGood.calls k a1_0 a1_1 true _ A10.out).mono ?_); rintro e w19 ⟨rfl, hb⟩; replace BK320 := bb BK320 hb; replace BK321 := bb BK321 hb; replace BK322 := bb BK322 hb; replace HB := bs HB hb; (try clear hb); have hcz20_0 := bc0 BK322; have hcz20_1 := bc1 BK322; have hfz20_0 := blk_frozen BK322.out 0; have hfz20_1 := blk_frozen BK322.out 1) | (go_at_call 183; (with_reducible refine (spec_saGood.calls k a2_0 a2_1 t325 _ A12.out).mono ?_); rintro e w21 ⟨rfl, hb⟩; replace BK320 := bb BK320 hb; replace BK321 := bb BK321 hb; replace BK322 := bb BK322 hb; replace HB := bs HB hb; (try clear hb)))
  go_meet
  case rel => exact ⟨_, (!t325), (by first | rfl | (simp; done) | (simp [*]; done)), H', ⟨by first | omega | exact Nat.le_refl _⟩, ⟨bk BK320⟩, ⟨bk BK321⟩, ⟨bk BK322⟩, ⟨bw HB⟩⟩
 case rest =>
  clear HC4
  try clear c1
  try clear c2
  try clear p2
  try clear c3
  try clear c7
  try clear c9
  try clear c11
  try clear c13
  try clear c14
  try clear c17
  try clear c18
  try clear c22
  try clear c23
  try clear c26
  try clear c29
  try clear c30
  try clear hcz15_0
  try clear hcz15_1
  try clear hcz18_0
  try clear hcz18_1
  try clear hcz20_0
  try clear hcz20_1
  try clear hcz24_0
  try clear hcz24_1
  try clear hcz27_0
  try clear hcz27_1
  try clear hcz31_0
  try clear hcz31_1
  try clear hfz15_0
  try clear hfz15_1
  try clear hfz18_0
  try clear hfz18_1
  try clear hfz20_0
  try clear hfz20_1
  try clear hfz24_0
  try clear hfz24_1
  try clear hfz27_0
  try clear hfz27_1
  try clear hfz31_0
  try clear hfz31_1
  obtain ⟨kq, x26_3, rfl, HA, HJ3, BK320, BK321, BK322, HB⟩ := hcut
  cases kq with
  | zero => exact absurd HA.out (by simp [spec_BlendAmounts.j0])
  | succ kj3 =>
   have H := HA.out
   clear HA
   simp only [spec_BlendAmounts.j0] at H
   by_cases c33 : x26_3 = true
   ·subst c33
    have H1 : (some (0, 0, false)) = some (r1, r2, r3) := by rw [if_pos rfl] at H; exact H
    clear H
    have H := H1
    clear H1
    simp only [Option.some.injEq, Prod.mk.injEq] at H
    obtain ⟨rfl, rfl, rfl⟩ := H
    go_wp2
    go_ret3
    exact ⟨by first | rfl | (simp [errW_none, errW_some] <;> rfl) | (simp [*, errW_none, errW_some] <;> rfl), bw HB⟩
   replace c33 := Bool.eq_false_iff.mpr c33
   subst c33
   have H1 : (if (a0_0 == a2_0 && (a0_1 == a2_1)) = true then (some (1, 0, true)) else (if (a1_0 == a2_0 && (a1_1 == a2_1)) = true then (some (0, 1, true)) else ((spec_saGap.f a0_0 a0_1 a2_0 a2_1).bind fun bt326 => ((spec_saGap.f a2_0 a2_1 a1_0 a1_1).bind fun bt330 => (if (wrap64 (bt326.1 * bt330.1)) ≤ 0 then (some (0, 0, false)) else ((spec_saCross.f kj3 bt326.1 bt326.2.1 bt326.2.2.1 bt326.2.2.2 bt330.1 bt330.2.1 bt330.2.2.1 bt330.2.2.2).bind fun bt336 => (if bt336.2.2 = true then (some (bt336.1, bt336.2.1, true)) else (some (0, 0, false))))))))) = some (r1, r2, r3) := by rw [if_neg (show ¬ (false = true) by decide)] at H; exact H
   clear H
   have H := H1
   clear H1
   by_cases c34 : (a0_0 == a2_0 && (a0_1 == a2_1)) = true
   ·rw [if_pos c34] at H
    have c34b0 : (a0_0 == a2_0 && (a0_1 == a2_1)) = true := c34
    (try (have c34b1 : decide (a0_0 = a2_0 && (a0_1 == a2_1)) = true := by simpa using c34))
    (try (have c34b2 : (a0_0 == a2_0 && (a0_1 == a2_1)) = true := by simpa using c34))
    clear c34
    simp only [Option.some.injEq, Prod.mk.injEq] at H
    obtain ⟨rfl, rfl, rfl⟩ := H
    have hnb35 := NB320_321.out
    have hnc35 := NB321_320.out
    have hnb36 := NB320_322.out
    have hnc36 := NB322_320.out
    have hcz37_0 := bc0 BK320
    have hcz37_1 := bc1 BK320
    have hfz37_0 := blk_frozen BK320.out 0
    have hfz37_1 := blk_frozen BK320.out 1
    have hnb38 := NB322_321.out
    have hnc38 := NB321_322.out
    have hcz39_0 := bc0 BK322
    have hcz39_1 := bc1 BK322
    have hfz39_0 := blk_frozen BK322.out 0
    have hfz39_1 := blk_frozen BK322.out 1
    go_wp2
    go_ret3
    exact ⟨by first | rfl | (simp [errW_none, errW_some] <;> rfl) | (simp [*, errW_none, errW_some] <;> rfl), bw HB⟩
   rw [if_neg c34] at H
   have c34b0 : (a0_0 == a2_0 && (a0_1 == a2_1)) = false := by simpa using c34
   (try (have c34b1 : decide (a0_0 = a2_0 && (a0_1 == a2_1)) = false := by simpa using c34))
   (try (have c34b2 : (a0_0 == a2_0 && (a0_1 == a2_1)) = false := by simpa using c34))
   (try (have c34b3 : ¬ (a0_0 = a2_0 && (a0_1 == a2_1)) := by simpa using c34))
   clear c34
   by_cases c40 : (a1_0 == a2_0 && (a1_1 == a2_1)) = true
   ·rw [if_pos c40] at H
    have c40b0 : (a1_0 == a2_0 && (a1_1 == a2_1)) = true := c40
    (try (have c40b1 : decide (a1_0 = a2_0 && (a1_1 == a2_1)) = true := by simpa using c40))
    (try (have c40b2 : (a1_0 == a2_0 && (a1_1 == a2_1)) = true := by simpa using c40))
    clear c40
    simp only [Option.some.injEq, Prod.mk.injEq] at H
    obtain ⟨rfl, rfl, rfl⟩ := H
    have hnb41 := NB320_321.out
    have hnc41 := NB321_320.out
    have hnb42 := NB320_322.out
    have hnc42 := NB322_320.out
    have hcz43_0 := bc0 BK320
    have hcz43_1 := bc1 BK320
    have hfz43_0 := blk_frozen BK320.out 0
    have hfz43_1 := blk_frozen BK320.out 1
    have hnb44 := NB322_321.out
    have hnc44 := NB321_322.out
    have hcz45_0 := bc0 BK322
    have hcz45_1 := bc1 BK322
    have hfz45_0 := blk_frozen BK322.out 0
    have hfz45_1 := blk_frozen BK322.out 1
    have hcz46_0 := bc0 BK321
    have hcz46_1 := bc1 BK321
    have hfz46_0 := blk_frozen BK321.out 0
    have hfz46_1 := blk_frozen BK321.out 1
    go_wp2
    go_ret3
    exact ⟨by first | rfl | (simp [errW_none, errW_some] <;> rfl) | (simp [*, errW_none, errW_some] <;> rfl), bw HB⟩
   rw [if_neg c40] at H
   have c40b0 : (a1_0 == a2_0 && (a1_1 == a2_1)) = false := by simpa using c40
   (try (have c40b1 : decide (a1_0 = a2_0 && (a1_1 == a2_1)) = false := by simpa using c40))
   (try (have c40b2 : (a1_0 == a2_0 && (a1_1 == a2_1)) = false := by simpa using c40))
   (try (have c40b3 : ¬ (a1_0 = a2_0 && (a1_1 == a2_1)) := by simpa using c40))
   clear c40
   replace H := Option.bind_eq_some_iff.mp H
   obtain ⟨⟨t326, t327, t328, t329⟩, A470, H⟩ := H
   replace H : ((spec_saGap.f a2_0 a2_1 a1_0 a1_1).bind fun bt330 => (if (wrap64 (t326 * bt330.1)) ≤ 0 then (some (0, 0, false)) else ((spec_saCross.f kj3 t326 t327 t328 t329 bt330.1 bt330.2.1 bt330.2.2.1 bt330.2.2.2).bind fun bt336 => (if bt336.2.2 = true then (some (bt336.1, bt336.2.1, true)) else (some (0, 0, false)))))) = some (r1, r2, r3) := H
   have A47 := Aside0.mk A470
   clear A470
   replace H := Option.bind_eq_some_iff.mp H
   obtain ⟨⟨t330, t331, t332, t333⟩, A480, H⟩ := H
   replace H : (if (wrap64 (t326 * t330)) ≤ 0 then (some (0, 0, false)) else ((spec_saCross.f kj3 t326 t327 t328 t329 t330 t331 t332 t333).bind fun bt336 => (if bt336.2.2 = true then (some (bt336.1, bt336.2.1, true)) else (some (0, 0, false))))) = some (r1, r2, r3) := H
   have A48 := Aside0.mk A480
   clear A480
   have H' := Aside0.mk H
   clear H
   have hnb111 := NB320_321.out
   have hnc111 := NB321_320.out
   have hnb112 := NB320_322.out
   have hnc112 := NB322_320.out
   have hcz113_0 := bc0 BK320
   have hcz113_1 := bc1 BK320
   have hfz113_0 := blk_frozen BK320.out 0
   have hfz113_1 := blk_frozen BK320.out 1
   have hnb114 := NB322_321.out
   have hnc114 := NB321_322.out
   have hcz115_0 := bc0 BK322
   have hcz115_1 := bc1 BK322
   have hfz115_0 := blk_frozen BK322.out 0
   have hfz115_1 := blk_frozen BK322.out 1
   have hcz116_0 := bc0 BK321
   have hcz116_1 := bc1 BK321
   have hfz116_0 := blk_frozen BK321.out 0
   have hfz116_1 := blk_frozen BK321.out 1
   try go_wp2
   replace BK320 := Aside0.mk (blk_drew BK320.out)
   replace BK321 := Aside0.mk (blk_drew BK321.out)
   replace BK322 := Aside0.mk (blk_drew BK322.out)
   replace HB := Aside0.mk (below_drew1 HB.out)
   refine start_ (n := 10) (S := fun w' => w'.cell? ⟨gb320, 0, none⟩ = some (.int .i64 a0_0) ∧ w'.cell? ⟨gb320, 1, none⟩ = some (.int .i64 a0_1) ∧ w'.cell? ⟨gb322, 0, none⟩ = some (.int .i64 a2_0) ∧ w'.cell? ⟨gb322, 1, none⟩ = some (.int .i64 a2_1) ∧ w'.cell? ⟨gb321, 0, none⟩ = some (.int .i64 a1_0) ∧ w'.cell? ⟨gb321, 1, none⟩ = some (.int .i64 a1_1)) (ds := []) (bl 10 0) (by kernel_rfl) rfl rfl ⟨bc0 BK320, bc1 BK320, bc0 BK322, bc1 BK322, bc0 BK321, bc1 BK321⟩ (fun hHeld => ?_); refine with_tabW spec_BlendAmounts.tab7 spec_BlendAmounts.bits7 (fun HT_ HW_ => ?_)
   generalize wc.drew = w117 at BK320 BK321 BK322 HB hHeld ⊢
   refine tk 0 33 (bl 10 1) HT_.out HW_.out hHeld (v := ?_) (a' := ?_) ?_ ?_ ?_
   rotate_left
   ·rintro w' ⟨s0, s1, s2, s3, s4, s5⟩
    go_simp
    with_reducible rfl
   rotate_left
   ·simp only [Act.put, List.setIfInBounds_toArray, List.set_cons_zero, List.set_cons_succ, i64_w, i32_w]
    rfl
   refine tk 1 34 (bl 10 3) HT_.out HW_.out hHeld (v := ?_) (a' := ?_) ?_ ?_ ?_
   rotate_left
   ·rintro w' ⟨s0, s1, s2, s3, s4, s5⟩
    go_simp
    with_reducible rfl
   rotate_left
   ·simp only [Act.put, List.setIfInBounds_toArray, List.set_cons_zero, List.set_cons_succ, i64_w, i32_w]
    rfl
   refine tk 3 36 (bl 10 11) HT_.out HW_.out hHeld (v := ?_) (a' := ?_) ?_ ?_ ?_
   rotate_left
   ·rintro w' ⟨s0, s1, s2, s3, s4, s5⟩
    go_simp
    with_reducible rfl
   rotate_left
   ·simp only [Act.put, List.setIfInBounds_toArray, List.set_cons_zero, List.set_cons_succ, i64_w, i32_w]
    rfl
   refine tk 4 37 (bl 10 27) HT_.out HW_.out hHeld (v := ?_) (a' := ?_) ?_ ?_ ?_
   rotate_left
   ·rintro w' ⟨s0, s1, s2, s3, s4, s5⟩
    go_simp
    with_reducible rfl
   rotate_left
   ·simp only [Act.put, List.setIfInBounds_toArray, List.set_cons_zero, List.set_cons_succ, i64_w, i32_w]
    rfl
   refine join_ (σ := Nat × Nat) 2 (bl 10 255) (fun s_ => [(35, .agg #[.int .i64 t326, .int .i64 t327, .int .i64 t328, .int .i64 t329]), (38, .agg #[.int .i64 t330, .int .i64 t331, .int .i64 t332, .int .i64 t333]), (9, .pointer (some ⟨s_.1, 0, none⟩)), (10, .pointer (some ⟨s_.2, 0, none⟩))]) (fun s_ w' => (w'.cell? ⟨gb320, 0, none⟩ = some (.int .i64 a0_0) ∧ w'.cell? ⟨gb320, 1, none⟩ = some (.int .i64 a0_1) ∧ w'.cell? ⟨gb322, 0, none⟩ = some (.int .i64 a2_0) ∧ w'.cell? ⟨gb322, 1, none⟩ = some (.int .i64 a2_1) ∧ w'.cell? ⟨gb321, 0, none⟩ = some (.int .i64 a1_0) ∧ w'.cell? ⟨gb321, 1, none⟩ = some (.int .i64 a1_1)) ∧ (w'.heap[gb320]? = some (.cells #[.int .i64 a0_0, .int .i64 a0_1] 78 (0, 0))) ∧ (w'.heap[gb321]? = some (.cells #[.int .i64 a1_0, .int .i64 a1_1] 78 (0, 0))) ∧ (w'.heap[gb322]? = some (.cells #[.int .i64 a2_0, .int .i64 a2_1] 78 (0, 0))) ∧ (w'.heap[s_.1]? = some (.cells #[.int .i64 0, .int .i64 0, .int .i64 0, .int .i64 0] 178 (0, 0))) ∧ (w'.heap[s_.2]? = some (.cells #[.int .i64 0, .int .i64 0, .int .i64 0, .int .i64 0] 178 (0, 0))) ∧ (w.heap.size ≤ s_.1) ∧ (w.heap.size ≤ s_.1) ∧ (gb320 ≠ s_.1) ∧ (s_.1 ≠ gb320) ∧ (gb321 ≠ s_.1) ∧ (s_.1 ≠ gb321) ∧ (gb322 ≠ s_.1) ∧ (s_.1 ≠ gb322) ∧ (s_.2 ≠ s_.1) ∧ (s_.1 ≠ s_.2) ∧ (w.heap.size ≤ s_.2) ∧ (w.heap.size ≤ s_.2) ∧ (gb320 ≠ s_.2) ∧ (s_.2 ≠ gb320) ∧ (gb321 ≠ s_.2) ∧ (s_.2 ≠ gb321) ∧ (gb322 ≠ s_.2) ∧ (s_.2 ≠ gb322) ∧ (Below w.heap.size w w')) ?_ ?_
   rotate_left
   ·intro hJ2_5_6_7
    refine join_ (σ := Nat) 3 (bl 10 127) (fun s_ => [(35, .agg #[.int .i64 t326, .int .i64 t327, .int .i64 t328, .int .i64 t329]), (38, .agg #[.int .i64 t330, .int .i64 t331, .int .i64 t332, .int .i64 t333]), (9, .pointer (some ⟨s_, 0, none⟩))]) (fun s_ w' => (w'.cell? ⟨gb320, 0, none⟩ = some (.int .i64 a0_0) ∧ w'.cell? ⟨gb320, 1, none⟩ = some (.int .i64 a0_1) ∧ w'.cell? ⟨gb322, 0, none⟩ = some (.int .i64 a2_0) ∧ w'.cell? ⟨gb322, 1, none⟩ = some (.int .i64 a2_1) ∧ w'.cell? ⟨gb321, 0, none⟩ = some (.int .i64 a1_0) ∧ w'.cell? ⟨gb321, 1, none⟩ = some (.int .i64 a1_1)) ∧ (w'.heap[gb320]? = some (.cells #[.int .i64 a0_0, .int .i64 a0_1] 78 (0, 0))) ∧ (w'.heap[gb321]? = some (.cells #[.int .i64 a1_0, .int .i64 a1_1] 78 (0, 0))) ∧ (w'.heap[gb322]? = some (.cells #[.int .i64 a2_0, .int .i64 a2_1] 78 (0, 0))) ∧ (w'.heap[s_]? = some (.cells #[.int .i64 0, .int .i64 0, .int .i64 0, .int .i64 0] 178 (0, 0))) ∧ (w.heap.size ≤ s_) ∧ (w.heap.size ≤ s_) ∧ (gb320 ≠ s_) ∧ (s_ ≠ gb320) ∧ (gb321 ≠ s_) ∧ (s_ ≠ gb321) ∧ (gb322 ≠ s_) ∧ (s_ ≠ gb322) ∧ (Below w.heap.size w w')) ?_ ?_
    rotate_left
    ·intro hJ2_5_6
     refine join_ (σ := Nat) 3 (bl 10 191) (fun s_ => [(35, .agg #[.int .i64 t326, .int .i64 t327, .int .i64 t328, .int .i64 t329]), (38, .agg #[.int .i64 t330, .int .i64 t331, .int .i64 t332, .int .i64 t333]), (10, .pointer (some ⟨s_, 0, none⟩))]) (fun s_ w' => (w'.cell? ⟨gb320, 0, none⟩ = some (.int .i64 a0_0) ∧ w'.cell? ⟨gb320, 1, none⟩ = some (.int .i64 a0_1) ∧ w'.cell? ⟨gb322, 0, none⟩ = some (.int .i64 a2_0) ∧ w'.cell? ⟨gb322, 1, none⟩ = some (.int .i64 a2_1) ∧ w'.cell? ⟨gb321, 0, none⟩ = some (.int .i64 a1_0) ∧ w'.cell? ⟨gb321, 1, none⟩ = some (.int .i64 a1_1)) ∧ (w'.heap[gb320]? = some (.cells #[.int .i64 a0_0, .int .i64 a0_1] 78 (0, 0))) ∧ (w'.heap[gb321]? = some (.cells #[.int .i64 a1_0, .int .i64 a1_1] 78 (0, 0))) ∧ (w'.heap[gb322]? = some (.cells #[.int .i64 a2_0, .int .i64 a2_1] 78 (0, 0))) ∧ (w'.heap[s_]? = some (.cells #[.int .i64 0, .int .i64 0, .int .i64 0, .int .i64 0] 178 (0, 0))) ∧ (w.heap.size ≤ s_) ∧ (w.heap.size ≤ s_) ∧ (gb320 ≠ s_) ∧ (s_ ≠ gb320) ∧ (gb321 ≠ s_) ∧ (s_ ≠ gb321) ∧ (gb322 ≠ s_) ∧ (s_ ≠ gb322) ∧ (Below w.heap.size w w')) ?_ ?_
     rotate_left
     ·intro hJ2_5_7
      refine join_ (σ := Nat × Nat) 3 (bl 10 223) (fun s_ => [(35, .agg #[.int .i64 t326, .int .i64 t327, .int .i64 t328, .int .i64 t329]), (9, .pointer (some ⟨s_.1, 0, none⟩)), (10, .pointer (some ⟨s_.2, 0, none⟩))]) (fun s_ w' => (w'.cell? ⟨gb320, 0, none⟩ = some (.int .i64 a0_0) ∧ w'.cell? ⟨gb320, 1, none⟩ = some (.int .i64 a0_1) ∧ w'.cell? ⟨gb322, 0, none⟩ = some (.int .i64 a2_0) ∧ w'.cell? ⟨gb322, 1, none⟩ = some (.int .i64 a2_1) ∧ w'.cell? ⟨gb321, 0, none⟩ = some (.int .i64 a1_0) ∧ w'.cell? ⟨gb321, 1, none⟩ = some (.int .i64 a1_1)) ∧ (w'.heap[gb320]? = some (.cells #[.int .i64 a0_0, .int .i64 a0_1] 78 (0, 0))) ∧ (w'.heap[gb321]? = some (.cells #[.int .i64 a1_0, .int .i64 a1_1] 78 (0, 0))) ∧ (w'.heap[gb322]? = some (.cells #[.int .i64 a2_0, .int .i64 a2_1] 78 (0, 0))) ∧ (w'.heap[s_.1]? = some (.cells #[.int .i64 0, .int .i64 0, .int .i64 0, .int .i64 0] 178 (0, 0))) ∧ (w'.heap[s_.2]? = some (.cells #[.int .i64 0, .int .i64 0, .int .i64 0, .int .i64 0] 178 (0, 0))) ∧ (w.heap.size ≤ s_.1) ∧ (w.heap.size ≤ s_.1) ∧ (gb320 ≠ s_.1) ∧ (s_.1 ≠ gb320) ∧ (gb321 ≠ s_.1) ∧ (s_.1 ≠ gb321) ∧ (gb322 ≠ s_.1) ∧ (s_.1 ≠ gb322) ∧ (s_.2 ≠ s_.1) ∧ (s_.1 ≠ s_.2) ∧ (w.heap.size ≤ s_.2) ∧ (w.heap.size ≤ s_.2) ∧ (gb320 ≠ s_.2) ∧ (s_.2 ≠ gb320) ∧ (gb321 ≠ s_.2) ∧ (s_.2 ≠ gb321) ∧ (gb322 ≠ s_.2) ∧ (s_.2 ≠ gb322) ∧ (Below w.heap.size w w')) ?_ ?_
      rotate_left
      ·intro hJ2_6_7
       refine join_ (σ := Unit) 4 (bl 10 63) (fun s_ => [(35, .agg #[.int .i64 t326, .int .i64 t327, .int .i64 t328, .int .i64 t329]), (38, .agg #[.int .i64 t330, .int .i64 t331, .int .i64 t332, .int .i64 t333])]) (fun s_ w' => (w'.cell? ⟨gb320, 0, none⟩ = some (.int .i64 a0_0) ∧ w'.cell? ⟨gb320, 1, none⟩ = some (.int .i64 a0_1) ∧ w'.cell? ⟨gb322, 0, none⟩ = some (.int .i64 a2_0) ∧ w'.cell? ⟨gb322, 1, none⟩ = some (.int .i64 a2_1) ∧ w'.cell? ⟨gb321, 0, none⟩ = some (.int .i64 a1_0) ∧ w'.cell? ⟨gb321, 1, none⟩ = some (.int .i64 a1_1)) ∧ (w'.heap[gb320]? = some (.cells #[.int .i64 a0_0, .int .i64 a0_1] 78 (0, 0))) ∧ (w'.heap[gb321]? = some (.cells #[.int .i64 a1_0, .int .i64 a1_1] 78 (0, 0))) ∧ (w'.heap[gb322]? = some (.cells #[.int .i64 a2_0, .int .i64 a2_1] 78 (0, 0))) ∧ (Below w.heap.size w w')) ?_ ?_
       rotate_left
       ·intro hJ2_5
        refine join_ (σ := Nat) 4 (bl 10 95) (fun s_ => [(35, .agg #[.int .i64 t326, .int .i64 t327, .int .i64 t328, .int .i64 t329]), (9, .pointer (some ⟨s_, 0, none⟩))]) (fun s_ w' => (w'.cell? ⟨gb320, 0, none⟩ = some (.int .i64 a0_0) ∧ w'.cell? ⟨gb320, 1, none⟩ = some (.int .i64 a0_1) ∧ w'.cell? ⟨gb322, 0, none⟩ = some (.int .i64 a2_0) ∧ w'.cell? ⟨gb322, 1, none⟩ = some (.int .i64 a2_1) ∧ w'.cell? ⟨gb321, 0, none⟩ = some (.int .i64 a1_0) ∧ w'.cell? ⟨gb321, 1, none⟩ = some (.int .i64 a1_1)) ∧ (w'.heap[gb320]? = some (.cells #[.int .i64 a0_0, .int .i64 a0_1] 78 (0, 0))) ∧ (w'.heap[gb321]? = some (.cells #[.int .i64 a1_0, .int .i64 a1_1] 78 (0, 0))) ∧ (w'.heap[gb322]? = some (.cells #[.int .i64 a2_0, .int .i64 a2_1] 78 (0, 0))) ∧ (w'.heap[s_]? = some (.cells #[.int .i64 0, .int .i64 0, .int .i64 0, .int .i64 0] 178 (0, 0))) ∧ (w.heap.size ≤ s_) ∧ (w.heap.size ≤ s_) ∧ (gb320 ≠ s_) ∧ (s_ ≠ gb320) ∧ (gb321 ≠ s_) ∧ (s_ ≠ gb321) ∧ (gb322 ≠ s_) ∧ (s_ ≠ gb322) ∧ (Below w.heap.size w w')) ?_ ?_
        rotate_left
        ·intro hJ2_6
         refine join_ (σ := Nat) 4 (bl 10 159) (fun s_ => [(35, .agg #[.int .i64 t326, .int .i64 t327, .int .i64 t328, .int .i64 t329]), (10, .pointer (some ⟨s_, 0, none⟩))]) (fun s_ w' => (w'.cell? ⟨gb320, 0, none⟩ = some (.int .i64 a0_0) ∧ w'.cell? ⟨gb320, 1, none⟩ = some (.int .i64 a0_1) ∧ w'.cell? ⟨gb322, 0, none⟩ = some (.int .i64 a2_0) ∧ w'.cell? ⟨gb322, 1, none⟩ = some (.int .i64 a2_1) ∧ w'.cell? ⟨gb321, 0, none⟩ = some (.int .i64 a1_0) ∧ w'.cell? ⟨gb321, 1, none⟩ = some (.int .i64 a1_1)) ∧ (w'.heap[gb320]? = some (.cells #[.int .i64 a0_0, .int .i64 a0_1] 78 (0, 0))) ∧ (w'.heap[gb321]? = some (.cells #[.int .i64 a1_0, .int .i64 a1_1] 78 (0, 0))) ∧ (w'.heap[gb322]? = some (.cells #[.int .i64 a2_0, .int .i64 a2_1] 78 (0, 0))) ∧ (w'.heap[s_]? = some (.cells #[.int .i64 0, .int .i64 0, .int .i64 0, .int .i64 0] 178 (0, 0))) ∧ (w.heap.size ≤ s_) ∧ (w.heap.size ≤ s_) ∧ (gb320 ≠ s_) ∧ (s_ ≠ gb320) ∧ (gb321 ≠ s_) ∧ (s_ ≠ gb321) ∧ (gb322 ≠ s_) ∧ (s_ ≠ gb322) ∧ (Below w.heap.size w w')) ?_ ?_
         rotate_left
         ·intro hJ2_7
          refine join_ (σ := Nat × Nat) 4 (bl 10 219) (fun s_ => [(9, .pointer (some ⟨s_.1, 0, none⟩)), (10, .pointer (some ⟨s_.2, 0, none⟩))]) (fun s_ w' => (w'.cell? ⟨gb320, 0, none⟩ = some (.int .i64 a0_0) ∧ w'.cell? ⟨gb320, 1, none⟩ = some (.int .i64 a0_1) ∧ w'.cell? ⟨gb322, 0, none⟩ = some (.int .i64 a2_0) ∧ w'.cell? ⟨gb322, 1, none⟩ = some (.int .i64 a2_1) ∧ w'.cell? ⟨gb321, 0, none⟩ = some (.int .i64 a1_0) ∧ w'.cell? ⟨gb321, 1, none⟩ = some (.int .i64 a1_1)) ∧ (w'.heap[gb320]? = some (.cells #[.int .i64 a0_0, .int .i64 a0_1] 78 (0, 0))) ∧ (w'.heap[gb321]? = some (.cells #[.int .i64 a1_0, .int .i64 a1_1] 78 (0, 0))) ∧ (w'.heap[gb322]? = some (.cells #[.int .i64 a2_0, .int .i64 a2_1] 78 (0, 0))) ∧ (w'.heap[s_.1]? = some (.cells #[.int .i64 0, .int .i64 0, .int .i64 0, .int .i64 0] 178 (0, 0))) ∧ (w'.heap[s_.2]? = some (.cells #[.int .i64 0, .int .i64 0, .int .i64 0, .int .i64 0] 178 (0, 0))) ∧ (w.heap.size ≤ s_.1) ∧ (w.heap.size ≤ s_.1) ∧ (gb320 ≠ s_.1) ∧ (s_.1 ≠ gb320) ∧ (gb321 ≠ s_.1) ∧ (s_.1 ≠ gb321) ∧ (gb322 ≠ s_.1) ∧ (s_.1 ≠ gb322) ∧ (s_.2 ≠ s_.1) ∧ (s_.1 ≠ s_.2) ∧ (w.heap.size ≤ s_.2) ∧ (w.heap.size ≤ s_.2) ∧ (gb320 ≠ s_.2) ∧ (s_.2 ≠ gb320) ∧ (gb321 ≠ s_.2) ∧ (s_.2 ≠ gb321) ∧ (gb322 ≠ s_.2) ∧ (s_.2 ≠ gb322) ∧ (Below w.heap.size w w')) ?_ ?_
          rotate_left
          ·intro hJ6_7
           refine join_ (σ := Unit) 5 (bl 10 31) (fun s_ => [(35, .agg #[.int .i64 t326, .int .i64 t327, .int .i64 t328, .int .i64 t329])]) (fun s_ w' => (w'.cell? ⟨gb320, 0, none⟩ = some (.int .i64 a0_0) ∧ w'.cell? ⟨gb320, 1, none⟩ = some (.int .i64 a0_1) ∧ w'.cell? ⟨gb322, 0, none⟩ = some (.int .i64 a2_0) ∧ w'.cell? ⟨gb322, 1, none⟩ = some (.int .i64 a2_1) ∧ w'.cell? ⟨gb321, 0, none⟩ = some (.int .i64 a1_0) ∧ w'.cell? ⟨gb321, 1, none⟩ = some (.int .i64 a1_1)) ∧ (w'.heap[gb320]? = some (.cells #[.int .i64 a0_0, .int .i64 a0_1] 78 (0, 0))) ∧ (w'.heap[gb321]? = some (.cells #[.int .i64 a1_0, .int .i64 a1_1] 78 (0, 0))) ∧ (w'.heap[gb322]? = some (.cells #[.int .i64 a2_0, .int .i64 a2_1] 78 (0, 0))) ∧ (Below w.heap.size w w')) ?_ ?_
           rotate_left
           ·intro hJ2
            refine join_ (σ := Nat) 5 (bl 10 91) (fun s_ => [(9, .pointer (some ⟨s_, 0, none⟩))]) (fun s_ w' => (w'.cell? ⟨gb320, 0, none⟩ = some (.int .i64 a0_0) ∧ w'.cell? ⟨gb320, 1, none⟩ = some (.int .i64 a0_1) ∧ w'.cell? ⟨gb322, 0, none⟩ = some (.int .i64 a2_0) ∧ w'.cell? ⟨gb322, 1, none⟩ = some (.int .i64 a2_1) ∧ w'.cell? ⟨gb321, 0, none⟩ = some (.int .i64 a1_0) ∧ w'.cell? ⟨gb321, 1, none⟩ = some (.int .i64 a1_1)) ∧ (w'.heap[gb320]? = some (.cells #[.int .i64 a0_0, .int .i64 a0_1] 78 (0, 0))) ∧ (w'.heap[gb321]? = some (.cells #[.int .i64 a1_0, .int .i64 a1_1] 78 (0, 0))) ∧ (w'.heap[gb322]? = some (.cells #[.int .i64 a2_0, .int .i64 a2_1] 78 (0, 0))) ∧ (w'.heap[s_]? = some (.cells #[.int .i64 0, .int .i64 0, .int .i64 0, .int .i64 0] 178 (0, 0))) ∧ (w.heap.size ≤ s_) ∧ (w.heap.size ≤ s_) ∧ (gb320 ≠ s_) ∧ (s_ ≠ gb320) ∧ (gb321 ≠ s_) ∧ (s_ ≠ gb321) ∧ (gb322 ≠ s_) ∧ (s_ ≠ gb322) ∧ (Below w.heap.size w w')) ?_ ?_
            rotate_left
            ·intro hJ6
             refine join_ (σ := Nat) 5 (bl 10 155) (fun s_ => [(10, .pointer (some ⟨s_, 0, none⟩))]) (fun s_ w' => (w'.cell? ⟨gb320, 0, none⟩ = some (.int .i64 a0_0) ∧ w'.cell? ⟨gb320, 1, none⟩ = some (.int .i64 a0_1) ∧ w'.cell? ⟨gb322, 0, none⟩ = some (.int .i64 a2_0) ∧ w'.cell? ⟨gb322, 1, none⟩ = some (.int .i64 a2_1) ∧ w'.cell? ⟨gb321, 0, none⟩ = some (.int .i64 a1_0) ∧ w'.cell? ⟨gb321, 1, none⟩ = some (.int .i64 a1_1)) ∧ (w'.heap[gb320]? = some (.cells #[.int .i64 a0_0, .int .i64 a0_1] 78 (0, 0))) ∧ (w'.heap[gb321]? = some (.cells #[.int .i64 a1_0, .int .i64 a1_1] 78 (0, 0))) ∧ (w'.heap[gb322]? = some (.cells #[.int .i64 a2_0, .int .i64 a2_1] 78 (0, 0))) ∧ (w'.heap[s_]? = some (.cells #[.int .i64 0, .int .i64 0, .int .i64 0, .int .i64 0] 178 (0, 0))) ∧ (w.heap.size ≤ s_) ∧ (w.heap.size ≤ s_) ∧ (gb320 ≠ s_) ∧ (s_ ≠ gb320) ∧ (gb321 ≠ s_) ∧ (s_ ≠ gb321) ∧ (gb322 ≠ s_) ∧ (s_ ≠ gb322) ∧ (Below w.heap.size w w')) ?_ ?_
             rotate_left
             ·intro hJ7
              refine three_ (i := 2) (j := 6) (k := 7) (Ni := some 35) (Nj := some 9) (Nk := some 10) (bl 10 31) (bl 10 91) (bl 10 155) rfl rfl rfl rfl rfl rfl (three_of HT_.out (by kernel_rfl)) (by decide) (by decide) (by decide) (fun K hK => ?_) (fun K hK => ?_) (fun K hK => ?_)
              ·skip
               refine gs Try.func186 #[.agg #[.int .i64 a0_0, .int .i64 a0_1], .agg #[.int .i64 a2_0, .int .i64 a2_1]] ?_
               with_reducible refine (spec_saGap.calls a0_0 a0_1 a2_0 a2_1 t326 t327 t328 t329 _ A47.out).mono ?_
               rintro e w118 ⟨rfl, hb⟩
               refine ⟨_, rfl, ?_⟩
               replace BK320 := bb BK320 hb
               replace BK321 := bb BK321 hb
               replace BK322 := bb BK322 hb
               replace HB := bs HB hb
               (try clear hb)
               (try clear hb2)
               (try clear hk)
               (try clear hi)
               refine hK.out _ _ ⟨bc0 BK320, bc1 BK320, bc0 BK322, bc1 BK322, bc0 BK321, bc1 BK321⟩ (fun hHeld => ?_)
               clear hK K
               refine norm_ (a' := ?_) ?_ ?_
               rotate_left
               ·show Act.put _ (some 35) _ = _
                simp only [Act.put, List.setIfInBounds_toArray, List.set_cons_zero, List.set_cons_succ, i64_w, i32_w]
                rfl
               exact norm_ (by first | (simp only [putAll, Act.put, List.setIfInBounds_toArray, List.set_cons_zero, List.set_cons_succ]; done) | (simp only [putAll, Act.put, List.setIfInBounds_toArray, List.set_cons_zero, List.set_cons_succ]; rfl)) (hJ2 () _ ⟨hHeld, (bk BK320), (bk BK321), (bk BK322), (bw HB)⟩)
              ·skip
               refine box_step ?hg (N := 9) ?hd (cs := #[.int .i64 0, .int .i64 0, .int .i64 0, .int .i64 0]) (t := 178) ?hr ?_; (case hd => rfl); (case hg => rfl); (case hr => first | (go_simp; done) | (go_simp; rfl))
               intro gb334 hg w118 hbox hb
               have BK334 := Aside0.mk (hbox)
               have GW334 := ge HB hg
               have GE334 := ge HB hg
               replace HB := bs HB hb
               have NB320_334 := nl BK320 hg
               have NB334_320 := nr BK320 hg
               replace BK320 := bb BK320 hb
               have NB321_334 := nl BK321 hg
               have NB334_321 := nr BK321 hg
               replace BK321 := bb BK321 hb
               have NB322_334 := nl BK322 hg
               have NB334_322 := nr BK322 hg
               replace BK322 := bb BK322 hb
               clear hb hbox hg
               refine hK.out _ _ ⟨bc0 BK320, bc1 BK320, bc0 BK322, bc1 BK322, bc0 BK321, bc1 BK321⟩ (fun hHeld => ?_)
               clear hK K
               refine norm_ (a' := ?_) ?_ ?_
               rotate_left
               ·show Act.put _ (some 9) _ = _
                simp only [Act.put, List.setIfInBounds_toArray, List.set_cons_zero, List.set_cons_succ, i64_w, i32_w]
                rfl
               exact norm_ (by first | (simp only [putAll, Act.put, List.setIfInBounds_toArray, List.set_cons_zero, List.set_cons_succ]; done) | (simp only [putAll, Act.put, List.setIfInBounds_toArray, List.set_cons_zero, List.set_cons_succ]; rfl)) (hJ6 (gb334) _ ⟨hHeld, (bk BK320), (bk BK321), (bk BK322), (bk BK334), GW334.out, GE334.out, NB320_334.out, NB334_320.out, NB321_334.out, NB334_321.out, NB322_334.out, NB334_322.out, (bw HB)⟩)
              ·skip
               refine box_step ?hg (N := 10) ?hd (cs := #[.int .i64 0, .int .i64 0, .int .i64 0, .int .i64 0]) (t := 178) ?hr ?_; (case hd => rfl); (case hg => rfl); (case hr => first | (go_simp; done) | (go_simp; rfl))
               intro gb335 hg w118 hbox hb
               have BK335 := Aside0.mk (hbox)
               have GW335 := ge HB hg
               have GE335 := ge HB hg
               replace HB := bs HB hb
               have NB320_335 := nl BK320 hg
               have NB335_320 := nr BK320 hg
               replace BK320 := bb BK320 hb
               have NB321_335 := nl BK321 hg
               have NB335_321 := nr BK321 hg
               replace BK321 := bb BK321 hb
               have NB322_335 := nl BK322 hg
               have NB335_322 := nr BK322 hg
               replace BK322 := bb BK322 hb
               clear hb hbox hg
               refine hK.out _ _ ⟨bc0 BK320, bc1 BK320, bc0 BK322, bc1 BK322, bc0 BK321, bc1 BK321⟩ (fun hHeld => ?_)
               clear hK K
               refine norm_ (a' := ?_) ?_ ?_
               rotate_left
               ·show Act.put _ (some 10) _ = _
                simp only [Act.put, List.setIfInBounds_toArray, List.set_cons_zero, List.set_cons_succ, i64_w, i32_w]
                rfl
               exact norm_ (by first | (simp only [putAll, Act.put, List.setIfInBounds_toArray, List.set_cons_zero, List.set_cons_succ]; done) | (simp only [putAll, Act.put, List.setIfInBounds_toArray, List.set_cons_zero, List.set_cons_succ]; rfl)) (hJ7 (gb335) _ ⟨hHeld, (bk BK320), (bk BK321), (bk BK322), (bk BK335), GW335.out, GE335.out, NB320_335.out, NB335_320.out, NB321_335.out, NB335_321.out, NB322_335.out, NB335_322.out, (bw HB)⟩)
             ·skip
              rintro gb335 w119 ⟨hS_, h0_, h1_, h2_, h3_, h4_, h5_, h6_, h7_, h8_, h9_, h10_, h11_, h12_⟩
              replace BK320 := Aside0.mk h0_
              replace BK321 := Aside0.mk h1_
              replace BK322 := Aside0.mk h2_
              have BK335 := Aside0.mk h3_
              have GW335 := GeC.mk h4_
              have GE335 := GeC.mk h5_
              have NB320_335 := NeC.mk h6_
              have NB335_320 := NeC.mk h7_
              have NB321_335 := NeC.mk h8_
              have NB335_321 := NeC.mk h9_
              have NB322_335 := NeC.mk h10_
              have NB335_322 := NeC.mk h11_
              replace HB := Aside0.mk h12_
              clear h0_ h1_ h2_ h3_ h4_ h5_ h6_ h7_ h8_ h9_ h10_ h11_ h12_
              have hHeld : w119.cell? ⟨gb320, 0, none⟩ = some (.int .i64 a0_0) ∧ w119.cell? ⟨gb320, 1, none⟩ = some (.int .i64 a0_1) ∧ w119.cell? ⟨gb322, 0, none⟩ = some (.int .i64 a2_0) ∧ w119.cell? ⟨gb322, 1, none⟩ = some (.int .i64 a2_1) ∧ w119.cell? ⟨gb321, 0, none⟩ = some (.int .i64 a1_0) ∧ w119.cell? ⟨gb321, 1, none⟩ = some (.int .i64 a1_1) := hS_
              refine norm_ (a' := ?_) ?_ ?_
              rotate_left
              ·simp only [putAll, Act.put, List.setIfInBounds_toArray, List.set_cons_zero, List.set_cons_succ]
               rfl
              refine two_ (i := 2) (j := 6) (Ni := some 35) (Nj := some 9) (bl 10 159) (bl 10 219) rfl rfl rfl rfl (two_of HT_.out (by kernel_rfl)) (by decide) (by decide) (fun K hK => ?_) (fun K hK => ?_)
              ·skip
               refine gs Try.func186 #[.agg #[.int .i64 a0_0, .int .i64 a0_1], .agg #[.int .i64 a2_0, .int .i64 a2_1]] ?_
               with_reducible refine (spec_saGap.calls a0_0 a0_1 a2_0 a2_1 t326 t327 t328 t329 _ A47.out).mono ?_
               rintro e w120 ⟨rfl, hb⟩
               refine ⟨_, rfl, ?_⟩
               replace BK320 := bb BK320 hb
               replace BK321 := bb BK321 hb
               replace BK322 := bb BK322 hb
               replace BK335 := bb BK335 hb
               replace HB := bs HB hb
               (try clear hb)
               (try clear hb2)
               (try clear hk)
               (try clear hi)
               refine hK.out _ _ ⟨bc0 BK320, bc1 BK320, bc0 BK322, bc1 BK322, bc0 BK321, bc1 BK321⟩ (fun hHeld => ?_)
               clear hK K
               refine norm_ (a' := ?_) ?_ ?_
               rotate_left
               ·show Act.put _ (some 35) _ = _
                simp only [Act.put, List.setIfInBounds_toArray, List.set_cons_zero, List.set_cons_succ, i64_w, i32_w]
                rfl
               exact norm_ (by first | (simp only [putAll, Act.put, List.setIfInBounds_toArray, List.set_cons_zero, List.set_cons_succ]; done) | (simp only [putAll, Act.put, List.setIfInBounds_toArray, List.set_cons_zero, List.set_cons_succ]; rfl)) (hJ2_7 (gb335) _ ⟨hHeld, (bk BK320), (bk BK321), (bk BK322), (bk BK335), GW335.out, GE335.out, NB320_335.out, NB335_320.out, NB321_335.out, NB335_321.out, NB322_335.out, NB335_322.out, (bw HB)⟩)
              ·skip
               refine box_step ?hg (N := 9) ?hd (cs := #[.int .i64 0, .int .i64 0, .int .i64 0, .int .i64 0]) (t := 178) ?hr ?_; (case hd => rfl); (case hg => rfl); (case hr => first | (go_simp; done) | (go_simp; rfl))
               intro gb334 hg w120 hbox hb
               have BK334 := Aside0.mk (hbox)
               have GW334 := ge HB hg
               have GE334 := ge HB hg
               replace HB := bs HB hb
               have NB320_334 := nl BK320 hg
               have NB334_320 := nr BK320 hg
               replace BK320 := bb BK320 hb
               have NB321_334 := nl BK321 hg
               have NB334_321 := nr BK321 hg
               replace BK321 := bb BK321 hb
               have NB322_334 := nl BK322 hg
               have NB334_322 := nr BK322 hg
               replace BK322 := bb BK322 hb
               have NB335_334 := nl BK335 hg
               have NB334_335 := nr BK335 hg
               replace BK335 := bb BK335 hb
               clear hb hbox hg
               refine hK.out _ _ ⟨bc0 BK320, bc1 BK320, bc0 BK322, bc1 BK322, bc0 BK321, bc1 BK321⟩ (fun hHeld => ?_)
               clear hK K
               refine norm_ (a' := ?_) ?_ ?_
               rotate_left
               ·show Act.put _ (some 9) _ = _
                simp only [Act.put, List.setIfInBounds_toArray, List.set_cons_zero, List.set_cons_succ, i64_w, i32_w]
                rfl
               exact norm_ (by first | (simp only [putAll, Act.put, List.setIfInBounds_toArray, List.set_cons_zero, List.set_cons_succ]; done) | (simp only [putAll, Act.put, List.setIfInBounds_toArray, List.set_cons_zero, List.set_cons_succ]; rfl)) (hJ6_7 (gb334, gb335) _ ⟨hHeld, (bk BK320), (bk BK321), (bk BK322), (bk BK334), (bk BK335), GW334.out, GE334.out, NB320_334.out, NB334_320.out, NB321_334.out, NB334_321.out, NB322_334.out, NB334_322.out, NB335_334.out, NB334_335.out, GW335.out, GE335.out, NB320_335.out, NB335_320.out, NB321_335.out, NB335_321.out, NB322_335.out, NB335_322.out, (bw HB)⟩)
            ·skip
             rintro gb334 w119 ⟨hS_, h0_, h1_, h2_, h3_, h4_, h5_, h6_, h7_, h8_, h9_, h10_, h11_, h12_⟩
             replace BK320 := Aside0.mk h0_
             replace BK321 := Aside0.mk h1_
             replace BK322 := Aside0.mk h2_
             have BK334 := Aside0.mk h3_
             have GW334 := GeC.mk h4_
             have GE334 := GeC.mk h5_
             have NB320_334 := NeC.mk h6_
             have NB334_320 := NeC.mk h7_
             have NB321_334 := NeC.mk h8_
             have NB334_321 := NeC.mk h9_
             have NB322_334 := NeC.mk h10_
             have NB334_322 := NeC.mk h11_
             replace HB := Aside0.mk h12_
             clear h0_ h1_ h2_ h3_ h4_ h5_ h6_ h7_ h8_ h9_ h10_ h11_ h12_
             have hHeld : w119.cell? ⟨gb320, 0, none⟩ = some (.int .i64 a0_0) ∧ w119.cell? ⟨gb320, 1, none⟩ = some (.int .i64 a0_1) ∧ w119.cell? ⟨gb322, 0, none⟩ = some (.int .i64 a2_0) ∧ w119.cell? ⟨gb322, 1, none⟩ = some (.int .i64 a2_1) ∧ w119.cell? ⟨gb321, 0, none⟩ = some (.int .i64 a1_0) ∧ w119.cell? ⟨gb321, 1, none⟩ = some (.int .i64 a1_1) := hS_
             refine norm_ (a' := ?_) ?_ ?_
             rotate_left
             ·simp only [putAll, Act.put, List.setIfInBounds_toArray, List.set_cons_zero, List.set_cons_succ]
              rfl
             refine two_ (i := 2) (j := 7) (Ni := some 35) (Nj := some 10) (bl 10 95) (bl 10 219) rfl rfl rfl rfl (two_of HT_.out (by kernel_rfl)) (by decide) (by decide) (fun K hK => ?_) (fun K hK => ?_)
             ·skip
              refine gs Try.func186 #[.agg #[.int .i64 a0_0, .int .i64 a0_1], .agg #[.int .i64 a2_0, .int .i64 a2_1]] ?_
              with_reducible refine (spec_saGap.calls a0_0 a0_1 a2_0 a2_1 t326 t327 t328 t329 _ A47.out).mono ?_
              rintro e w120 ⟨rfl, hb⟩
              refine ⟨_, rfl, ?_⟩
              replace BK320 := bb BK320 hb
              replace BK321 := bb BK321 hb
              replace BK322 := bb BK322 hb
              replace BK334 := bb BK334 hb
              replace HB := bs HB hb
              (try clear hb)
              (try clear hb2)
              (try clear hk)
              (try clear hi)
              refine hK.out _ _ ⟨bc0 BK320, bc1 BK320, bc0 BK322, bc1 BK322, bc0 BK321, bc1 BK321⟩ (fun hHeld => ?_)
              clear hK K
              refine norm_ (a' := ?_) ?_ ?_
              rotate_left
              ·show Act.put _ (some 35) _ = _
               simp only [Act.put, List.setIfInBounds_toArray, List.set_cons_zero, List.set_cons_succ, i64_w, i32_w]
               rfl
              exact norm_ (by first | (simp only [putAll, Act.put, List.setIfInBounds_toArray, List.set_cons_zero, List.set_cons_succ]; done) | (simp only [putAll, Act.put, List.setIfInBounds_toArray, List.set_cons_zero, List.set_cons_succ]; rfl)) (hJ2_6 (gb334) _ ⟨hHeld, (bk BK320), (bk BK321), (bk BK322), (bk BK334), GW334.out, GE334.out, NB320_334.out, NB334_320.out, NB321_334.out, NB334_321.out, NB322_334.out, NB334_322.out, (bw HB)⟩)
             ·skip
              refine box_step ?hg (N := 10) ?hd (cs := #[.int .i64 0, .int .i64 0, .int .i64 0, .int .i64 0]) (t := 178) ?hr ?_; (case hd => rfl); (case hg => rfl); (case hr => first | (go_simp; done) | (go_simp; rfl))
              intro gb335 hg w120 hbox hb
              have BK335 := Aside0.mk (hbox)
              have GW335 := ge HB hg
              have GE335 := ge HB hg
              replace HB := bs HB hb
              have NB320_335 := nl BK320 hg
              have NB335_320 := nr BK320 hg
              replace BK320 := bb BK320 hb
              have NB321_335 := nl BK321 hg
              have NB335_321 := nr BK321 hg
              replace BK321 := bb BK321 hb
              have NB322_335 := nl BK322 hg
              have NB335_322 := nr BK322 hg
              replace BK322 := bb BK322 hb
              have NB334_335 := nl BK334 hg
              have NB335_334 := nr BK334 hg
              replace BK334 := bb BK334 hb
              clear hb hbox hg
              refine hK.out _ _ ⟨bc0 BK320, bc1 BK320, bc0 BK322, bc1 BK322, bc0 BK321, bc1 BK321⟩ (fun hHeld => ?_)
              clear hK K
              refine norm_ (a' := ?_) ?_ ?_
              rotate_left
              ·show Act.put _ (some 10) _ = _
               simp only [Act.put, List.setIfInBounds_toArray, List.set_cons_zero, List.set_cons_succ, i64_w, i32_w]
               rfl
              exact norm_ (by first | (simp only [putAll, Act.put, List.setIfInBounds_toArray, List.set_cons_zero, List.set_cons_succ]; done) | (simp only [putAll, Act.put, List.setIfInBounds_toArray, List.set_cons_zero, List.set_cons_succ]; rfl)) (hJ6_7 (gb334, gb335) _ ⟨hHeld, (bk BK320), (bk BK321), (bk BK322), (bk BK334), (bk BK335), GW334.out, GE334.out, NB320_334.out, NB334_320.out, NB321_334.out, NB334_321.out, NB322_334.out, NB334_322.out, NB335_334.out, NB334_335.out, GW335.out, GE335.out, NB320_335.out, NB335_320.out, NB321_335.out, NB335_321.out, NB322_335.out, NB335_322.out, (bw HB)⟩)
           ·skip
            rintro _ w119 ⟨hS_, h0_, h1_, h2_, h3_⟩
            replace BK320 := Aside0.mk h0_
            replace BK321 := Aside0.mk h1_
            replace BK322 := Aside0.mk h2_
            replace HB := Aside0.mk h3_
            clear h0_ h1_ h2_ h3_
            have hHeld : w119.cell? ⟨gb320, 0, none⟩ = some (.int .i64 a0_0) ∧ w119.cell? ⟨gb320, 1, none⟩ = some (.int .i64 a0_1) ∧ w119.cell? ⟨gb322, 0, none⟩ = some (.int .i64 a2_0) ∧ w119.cell? ⟨gb322, 1, none⟩ = some (.int .i64 a2_1) ∧ w119.cell? ⟨gb321, 0, none⟩ = some (.int .i64 a1_0) ∧ w119.cell? ⟨gb321, 1, none⟩ = some (.int .i64 a1_1) := hS_
            refine norm_ (a' := ?_) ?_ ?_
            rotate_left
            ·simp only [putAll, Act.put, List.setIfInBounds_toArray, List.set_cons_zero, List.set_cons_succ]
             rfl
            refine three_ (i := 5) (j := 6) (k := 7) (Ni := some 38) (Nj := some 9) (Nk := some 10) (bl 10 63) (bl 10 95) (bl 10 159) rfl rfl rfl rfl rfl rfl (three_of HT_.out (by kernel_rfl)) (by decide) (by decide) (by decide) (fun K hK => ?_) (fun K hK => ?_) (fun K hK => ?_)
            ·skip
             refine gs Try.func186 #[.agg #[.int .i64 a2_0, .int .i64 a2_1], .agg #[.int .i64 a1_0, .int .i64 a1_1]] ?_
             with_reducible refine (spec_saGap.calls a2_0 a2_1 a1_0 a1_1 t330 t331 t332 t333 _ A48.out).mono ?_
             rintro e w120 ⟨rfl, hb⟩
             refine ⟨_, rfl, ?_⟩
             replace BK320 := bb BK320 hb
             replace BK321 := bb BK321 hb
             replace BK322 := bb BK322 hb
             replace HB := bs HB hb
             (try clear hb)
             (try clear hb2)
             (try clear hk)
             (try clear hi)
             refine hK.out _ _ ⟨bc0 BK320, bc1 BK320, bc0 BK322, bc1 BK322, bc0 BK321, bc1 BK321⟩ (fun hHeld => ?_)
             clear hK K
             refine norm_ (a' := ?_) ?_ ?_
             rotate_left
             ·show Act.put _ (some 38) _ = _
              simp only [Act.put, List.setIfInBounds_toArray, List.set_cons_zero, List.set_cons_succ, i64_w, i32_w]
              rfl
             exact norm_ (by first | (simp only [putAll, Act.put, List.setIfInBounds_toArray, List.set_cons_zero, List.set_cons_succ]; done) | (simp only [putAll, Act.put, List.setIfInBounds_toArray, List.set_cons_zero, List.set_cons_succ]; rfl)) (hJ2_5 () _ ⟨hHeld, (bk BK320), (bk BK321), (bk BK322), (bw HB)⟩)
            ·skip
             refine box_step ?hg (N := 9) ?hd (cs := #[.int .i64 0, .int .i64 0, .int .i64 0, .int .i64 0]) (t := 178) ?hr ?_; (case hd => rfl); (case hg => rfl); (case hr => first | (go_simp; done) | (go_simp; rfl))
             intro gb334 hg w120 hbox hb
             have BK334 := Aside0.mk (hbox)
             have GW334 := ge HB hg
             have GE334 := ge HB hg
             replace HB := bs HB hb
             have NB320_334 := nl BK320 hg
             have NB334_320 := nr BK320 hg
             replace BK320 := bb BK320 hb
             have NB321_334 := nl BK321 hg
             have NB334_321 := nr BK321 hg
             replace BK321 := bb BK321 hb
             have NB322_334 := nl BK322 hg
             have NB334_322 := nr BK322 hg
             replace BK322 := bb BK322 hb
             clear hb hbox hg
             refine hK.out _ _ ⟨bc0 BK320, bc1 BK320, bc0 BK322, bc1 BK322, bc0 BK321, bc1 BK321⟩ (fun hHeld => ?_)
             clear hK K
             refine norm_ (a' := ?_) ?_ ?_
             rotate_left
             ·show Act.put _ (some 9) _ = _
              simp only [Act.put, List.setIfInBounds_toArray, List.set_cons_zero, List.set_cons_succ, i64_w, i32_w]
              rfl
             exact norm_ (by first | (simp only [putAll, Act.put, List.setIfInBounds_toArray, List.set_cons_zero, List.set_cons_succ]; done) | (simp only [putAll, Act.put, List.setIfInBounds_toArray, List.set_cons_zero, List.set_cons_succ]; rfl)) (hJ2_6 (gb334) _ ⟨hHeld, (bk BK320), (bk BK321), (bk BK322), (bk BK334), GW334.out, GE334.out, NB320_334.out, NB334_320.out, NB321_334.out, NB334_321.out, NB322_334.out, NB334_322.out, (bw HB)⟩)
            ·skip
             refine box_step ?hg (N := 10) ?hd (cs := #[.int .i64 0, .int .i64 0, .int .i64 0, .int .i64 0]) (t := 178) ?hr ?_; (case hd => rfl); (case hg => rfl); (case hr => first | (go_simp; done) | (go_simp; rfl))
             intro gb335 hg w120 hbox hb
             have BK335 := Aside0.mk (hbox)
             have GW335 := ge HB hg
             have GE335 := ge HB hg
             replace HB := bs HB hb
             have NB320_335 := nl BK320 hg
             have NB335_320 := nr BK320 hg
             replace BK320 := bb BK320 hb
             have NB321_335 := nl BK321 hg
             have NB335_321 := nr BK321 hg
             replace BK321 := bb BK321 hb
             have NB322_335 := nl BK322 hg
             have NB335_322 := nr BK322 hg
             replace BK322 := bb BK322 hb
             clear hb hbox hg
             refine hK.out _ _ ⟨bc0 BK320, bc1 BK320, bc0 BK322, bc1 BK322, bc0 BK321, bc1 BK321⟩ (fun hHeld => ?_)
             clear hK K
             refine norm_ (a' := ?_) ?_ ?_
             rotate_left
             ·show Act.put _ (some 10) _ = _
              simp only [Act.put, List.setIfInBounds_toArray, List.set_cons_zero, List.set_cons_succ, i64_w, i32_w]
              rfl
             exact norm_ (by first | (simp only [putAll, Act.put, List.setIfInBounds_toArray, List.set_cons_zero, List.set_cons_succ]; done) | (simp only [putAll, Act.put, List.setIfInBounds_toArray, List.set_cons_zero, List.set_cons_succ]; rfl)) (hJ2_7 (gb335) _ ⟨hHeld, (bk BK320), (bk BK321), (bk BK322), (bk BK335), GW335.out, GE335.out, NB320_335.out, NB335_320.out, NB321_335.out, NB335_321.out, NB322_335.out, NB335_322.out, (bw HB)⟩)
          ·skip
           rintro ⟨gb334, gb335⟩ w120 ⟨hS_, h0_, h1_, h2_, h3_, h4_, h5_, h6_, h7_, h8_, h9_, h10_, h11_, h12_, h13_, h14_, h15_, h16_, h17_, h18_, h19_, h20_, h21_, h22_, h23_⟩
           replace BK320 := Aside0.mk h0_
           replace BK321 := Aside0.mk h1_
           replace BK322 := Aside0.mk h2_
           have BK334 := Aside0.mk h3_
           have BK335 := Aside0.mk h4_
           have GW334 := GeC.mk h5_
           have GE334 := GeC.mk h6_
           have NB320_334 := NeC.mk h7_
           have NB334_320 := NeC.mk h8_
           have NB321_334 := NeC.mk h9_
           have NB334_321 := NeC.mk h10_
           have NB322_334 := NeC.mk h11_
           have NB334_322 := NeC.mk h12_
           have NB335_334 := NeC.mk h13_
           have NB334_335 := NeC.mk h14_
           have GW335 := GeC.mk h15_
           have GE335 := GeC.mk h16_
           have NB320_335 := NeC.mk h17_
           have NB335_320 := NeC.mk h18_
           have NB321_335 := NeC.mk h19_
           have NB335_321 := NeC.mk h20_
           have NB322_335 := NeC.mk h21_
           have NB335_322 := NeC.mk h22_
           replace HB := Aside0.mk h23_
           clear h0_ h1_ h2_ h3_ h4_ h5_ h6_ h7_ h8_ h9_ h10_ h11_ h12_ h13_ h14_ h15_ h16_ h17_ h18_ h19_ h20_ h21_ h22_ h23_
           have hHeld : w120.cell? ⟨gb320, 0, none⟩ = some (.int .i64 a0_0) ∧ w120.cell? ⟨gb320, 1, none⟩ = some (.int .i64 a0_1) ∧ w120.cell? ⟨gb322, 0, none⟩ = some (.int .i64 a2_0) ∧ w120.cell? ⟨gb322, 1, none⟩ = some (.int .i64 a2_1) ∧ w120.cell? ⟨gb321, 0, none⟩ = some (.int .i64 a1_0) ∧ w120.cell? ⟨gb321, 1, none⟩ = some (.int .i64 a1_1) := hS_
           refine norm_ (a' := ?_) ?_ ?_
           rotate_left
           ·simp only [putAll, Act.put, List.setIfInBounds_toArray, List.set_cons_zero, List.set_cons_succ]
            rfl
           refine on 2 35 (bl 10 223) HT_.out (fun K hK => ?_)
           refine gs Try.func186 #[.agg #[.int .i64 a0_0, .int .i64 a0_1], .agg #[.int .i64 a2_0, .int .i64 a2_1]] ?_
           with_reducible refine (spec_saGap.calls a0_0 a0_1 a2_0 a2_1 t326 t327 t328 t329 _ A47.out).mono ?_
           rintro e w121 ⟨rfl, hb⟩
           refine ⟨_, rfl, ?_⟩
           replace BK320 := bb BK320 hb
           replace BK321 := bb BK321 hb
           replace BK322 := bb BK322 hb
           replace BK334 := bb BK334 hb
           replace BK335 := bb BK335 hb
           replace HB := bs HB hb
           (try clear hb)
           (try clear hb2)
           (try clear hk)
           (try clear hi)
           refine hK.out _ _ ⟨bc0 BK320, bc1 BK320, bc0 BK322, bc1 BK322, bc0 BK321, bc1 BK321⟩ (fun hHeld => ?_)
           clear hK K
           refine norm_ (a' := ?_) ?_ ?_
           rotate_left
           ·show Act.put _ (some 35) _ = _
            simp only [Act.put, List.setIfInBounds_toArray, List.set_cons_zero, List.set_cons_succ, i64_w, i32_w]
            rfl
           exact norm_ (by first | (simp only [putAll, Act.put, List.setIfInBounds_toArray, List.set_cons_zero, List.set_cons_succ]; done) | (simp only [putAll, Act.put, List.setIfInBounds_toArray, List.set_cons_zero, List.set_cons_succ]; rfl)) (hJ2_6_7 (gb334, gb335) _ ⟨hHeld, (bk BK320), (bk BK321), (bk BK322), (bk BK334), (bk BK335), GW334.out, GE334.out, NB320_334.out, NB334_320.out, NB321_334.out, NB334_321.out, NB322_334.out, NB334_322.out, NB335_334.out, NB334_335.out, GW335.out, GE335.out, NB320_335.out, NB335_320.out, NB321_335.out, NB335_321.out, NB322_335.out, NB335_322.out, (bw HB)⟩)
         ·skip
          rintro gb335 w120 ⟨hS_, h0_, h1_, h2_, h3_, h4_, h5_, h6_, h7_, h8_, h9_, h10_, h11_, h12_⟩
          replace BK320 := Aside0.mk h0_
          replace BK321 := Aside0.mk h1_
          replace BK322 := Aside0.mk h2_
          have BK335 := Aside0.mk h3_
          have GW335 := GeC.mk h4_
          have GE335 := GeC.mk h5_
          have NB320_335 := NeC.mk h6_
          have NB335_320 := NeC.mk h7_
          have NB321_335 := NeC.mk h8_
          have NB335_321 := NeC.mk h9_
          have NB322_335 := NeC.mk h10_
          have NB335_322 := NeC.mk h11_
          replace HB := Aside0.mk h12_
          clear h0_ h1_ h2_ h3_ h4_ h5_ h6_ h7_ h8_ h9_ h10_ h11_ h12_
          have hHeld : w120.cell? ⟨gb320, 0, none⟩ = some (.int .i64 a0_0) ∧ w120.cell? ⟨gb320, 1, none⟩ = some (.int .i64 a0_1) ∧ w120.cell? ⟨gb322, 0, none⟩ = some (.int .i64 a2_0) ∧ w120.cell? ⟨gb322, 1, none⟩ = some (.int .i64 a2_1) ∧ w120.cell? ⟨gb321, 0, none⟩ = some (.int .i64 a1_0) ∧ w120.cell? ⟨gb321, 1, none⟩ = some (.int .i64 a1_1) := hS_
          refine norm_ (a' := ?_) ?_ ?_
          rotate_left
          ·simp only [putAll, Act.put, List.setIfInBounds_toArray, List.set_cons_zero, List.set_cons_succ]
           rfl
          refine two_ (i := 5) (j := 6) (Ni := some 38) (Nj := some 9) (bl 10 191) (bl 10 223) rfl rfl rfl rfl (two_of HT_.out (by kernel_rfl)) (by decide) (by decide) (fun K hK => ?_) (fun K hK => ?_)
          ·skip
           refine gs Try.func186 #[.agg #[.int .i64 a2_0, .int .i64 a2_1], .agg #[.int .i64 a1_0, .int .i64 a1_1]] ?_
           with_reducible refine (spec_saGap.calls a2_0 a2_1 a1_0 a1_1 t330 t331 t332 t333 _ A48.out).mono ?_
           rintro e w121 ⟨rfl, hb⟩
           refine ⟨_, rfl, ?_⟩
           replace BK320 := bb BK320 hb
           replace BK321 := bb BK321 hb
           replace BK322 := bb BK322 hb
           replace BK335 := bb BK335 hb
           replace HB := bs HB hb
           (try clear hb)
           (try clear hb2)
           (try clear hk)
           (try clear hi)
           refine hK.out _ _ ⟨bc0 BK320, bc1 BK320, bc0 BK322, bc1 BK322, bc0 BK321, bc1 BK321⟩ (fun hHeld => ?_)
           clear hK K
           refine norm_ (a' := ?_) ?_ ?_
           rotate_left
           ·show Act.put _ (some 38) _ = _
            simp only [Act.put, List.setIfInBounds_toArray, List.set_cons_zero, List.set_cons_succ, i64_w, i32_w]
            rfl
           exact norm_ (by first | (simp only [putAll, Act.put, List.setIfInBounds_toArray, List.set_cons_zero, List.set_cons_succ]; done) | (simp only [putAll, Act.put, List.setIfInBounds_toArray, List.set_cons_zero, List.set_cons_succ]; rfl)) (hJ2_5_7 (gb335) _ ⟨hHeld, (bk BK320), (bk BK321), (bk BK322), (bk BK335), GW335.out, GE335.out, NB320_335.out, NB335_320.out, NB321_335.out, NB335_321.out, NB322_335.out, NB335_322.out, (bw HB)⟩)
          ·skip
           refine box_step ?hg (N := 9) ?hd (cs := #[.int .i64 0, .int .i64 0, .int .i64 0, .int .i64 0]) (t := 178) ?hr ?_; (case hd => rfl); (case hg => rfl); (case hr => first | (go_simp; done) | (go_simp; rfl))
           intro gb334 hg w121 hbox hb
           have BK334 := Aside0.mk (hbox)
           have GW334 := ge HB hg
           have GE334 := ge HB hg
           replace HB := bs HB hb
           have NB320_334 := nl BK320 hg
           have NB334_320 := nr BK320 hg
           replace BK320 := bb BK320 hb
           have NB321_334 := nl BK321 hg
           have NB334_321 := nr BK321 hg
           replace BK321 := bb BK321 hb
           have NB322_334 := nl BK322 hg
           have NB334_322 := nr BK322 hg
           replace BK322 := bb BK322 hb
           have NB335_334 := nl BK335 hg
           have NB334_335 := nr BK335 hg
           replace BK335 := bb BK335 hb
           clear hb hbox hg
           refine hK.out _ _ ⟨bc0 BK320, bc1 BK320, bc0 BK322, bc1 BK322, bc0 BK321, bc1 BK321⟩ (fun hHeld => ?_)
           clear hK K
           refine norm_ (a' := ?_) ?_ ?_
           rotate_left
           ·show Act.put _ (some 9) _ = _
            simp only [Act.put, List.setIfInBounds_toArray, List.set_cons_zero, List.set_cons_succ, i64_w, i32_w]
            rfl
           exact norm_ (by first | (simp only [putAll, Act.put, List.setIfInBounds_toArray, List.set_cons_zero, List.set_cons_succ]; done) | (simp only [putAll, Act.put, List.setIfInBounds_toArray, List.set_cons_zero, List.set_cons_succ]; rfl)) (hJ2_6_7 (gb334, gb335) _ ⟨hHeld, (bk BK320), (bk BK321), (bk BK322), (bk BK334), (bk BK335), GW334.out, GE334.out, NB320_334.out, NB334_320.out, NB321_334.out, NB334_321.out, NB322_334.out, NB334_322.out, NB335_334.out, NB334_335.out, GW335.out, GE335.out, NB320_335.out, NB335_320.out, NB321_335.out, NB335_321.out, NB322_335.out, NB335_322.out, (bw HB)⟩)
        ·skip
         rintro gb334 w120 ⟨hS_, h0_, h1_, h2_, h3_, h4_, h5_, h6_, h7_, h8_, h9_, h10_, h11_, h12_⟩
         replace BK320 := Aside0.mk h0_
         replace BK321 := Aside0.mk h1_
         replace BK322 := Aside0.mk h2_
         have BK334 := Aside0.mk h3_
         have GW334 := GeC.mk h4_
         have GE334 := GeC.mk h5_
         have NB320_334 := NeC.mk h6_
         have NB334_320 := NeC.mk h7_
         have NB321_334 := NeC.mk h8_
         have NB334_321 := NeC.mk h9_
         have NB322_334 := NeC.mk h10_
         have NB334_322 := NeC.mk h11_
         replace HB := Aside0.mk h12_
         clear h0_ h1_ h2_ h3_ h4_ h5_ h6_ h7_ h8_ h9_ h10_ h11_ h12_
         have hHeld : w120.cell? ⟨gb320, 0, none⟩ = some (.int .i64 a0_0) ∧ w120.cell? ⟨gb320, 1, none⟩ = some (.int .i64 a0_1) ∧ w120.cell? ⟨gb322, 0, none⟩ = some (.int .i64 a2_0) ∧ w120.cell? ⟨gb322, 1, none⟩ = some (.int .i64 a2_1) ∧ w120.cell? ⟨gb321, 0, none⟩ = some (.int .i64 a1_0) ∧ w120.cell? ⟨gb321, 1, none⟩ = some (.int .i64 a1_1) := hS_
         refine norm_ (a' := ?_) ?_ ?_
         rotate_left
         ·simp only [putAll, Act.put, List.setIfInBounds_toArray, List.set_cons_zero, List.set_cons_succ]
          rfl
         refine two_ (i := 5) (j := 7) (Ni := some 38) (Nj := some 10) (bl 10 127) (bl 10 223) rfl rfl rfl rfl (two_of HT_.out (by kernel_rfl)) (by decide) (by decide) (fun K hK => ?_) (fun K hK => ?_)
         ·skip
          refine gs Try.func186 #[.agg #[.int .i64 a2_0, .int .i64 a2_1], .agg #[.int .i64 a1_0, .int .i64 a1_1]] ?_
          with_reducible refine (spec_saGap.calls a2_0 a2_1 a1_0 a1_1 t330 t331 t332 t333 _ A48.out).mono ?_
          rintro e w121 ⟨rfl, hb⟩
          refine ⟨_, rfl, ?_⟩
          replace BK320 := bb BK320 hb
          replace BK321 := bb BK321 hb
          replace BK322 := bb BK322 hb
          replace BK334 := bb BK334 hb
          replace HB := bs HB hb
          (try clear hb)
          (try clear hb2)
          (try clear hk)
          (try clear hi)
          refine hK.out _ _ ⟨bc0 BK320, bc1 BK320, bc0 BK322, bc1 BK322, bc0 BK321, bc1 BK321⟩ (fun hHeld => ?_)
          clear hK K
          refine norm_ (a' := ?_) ?_ ?_
          rotate_left
          ·show Act.put _ (some 38) _ = _
           simp only [Act.put, List.setIfInBounds_toArray, List.set_cons_zero, List.set_cons_succ, i64_w, i32_w]
           rfl
          exact norm_ (by first | (simp only [putAll, Act.put, List.setIfInBounds_toArray, List.set_cons_zero, List.set_cons_succ]; done) | (simp only [putAll, Act.put, List.setIfInBounds_toArray, List.set_cons_zero, List.set_cons_succ]; rfl)) (hJ2_5_6 (gb334) _ ⟨hHeld, (bk BK320), (bk BK321), (bk BK322), (bk BK334), GW334.out, GE334.out, NB320_334.out, NB334_320.out, NB321_334.out, NB334_321.out, NB322_334.out, NB334_322.out, (bw HB)⟩)
         ·skip
          refine box_step ?hg (N := 10) ?hd (cs := #[.int .i64 0, .int .i64 0, .int .i64 0, .int .i64 0]) (t := 178) ?hr ?_; (case hd => rfl); (case hg => rfl); (case hr => first | (go_simp; done) | (go_simp; rfl))
          intro gb335 hg w121 hbox hb
          have BK335 := Aside0.mk (hbox)
          have GW335 := ge HB hg
          have GE335 := ge HB hg
          replace HB := bs HB hb
          have NB320_335 := nl BK320 hg
          have NB335_320 := nr BK320 hg
          replace BK320 := bb BK320 hb
          have NB321_335 := nl BK321 hg
          have NB335_321 := nr BK321 hg
          replace BK321 := bb BK321 hb
          have NB322_335 := nl BK322 hg
          have NB335_322 := nr BK322 hg
          replace BK322 := bb BK322 hb
          have NB334_335 := nl BK334 hg
          have NB335_334 := nr BK334 hg
          replace BK334 := bb BK334 hb
          clear hb hbox hg
          refine hK.out _ _ ⟨bc0 BK320, bc1 BK320, bc0 BK322, bc1 BK322, bc0 BK321, bc1 BK321⟩ (fun hHeld => ?_)
          clear hK K
          refine norm_ (a' := ?_) ?_ ?_
          rotate_left
          ·show Act.put _ (some 10) _ = _
           simp only [Act.put, List.setIfInBounds_toArray, List.set_cons_zero, List.set_cons_succ, i64_w, i32_w]
           rfl
          exact norm_ (by first | (simp only [putAll, Act.put, List.setIfInBounds_toArray, List.set_cons_zero, List.set_cons_succ]; done) | (simp only [putAll, Act.put, List.setIfInBounds_toArray, List.set_cons_zero, List.set_cons_succ]; rfl)) (hJ2_6_7 (gb334, gb335) _ ⟨hHeld, (bk BK320), (bk BK321), (bk BK322), (bk BK334), (bk BK335), GW334.out, GE334.out, NB320_334.out, NB334_320.out, NB321_334.out, NB334_321.out, NB322_334.out, NB334_322.out, NB335_334.out, NB334_335.out, GW335.out, GE335.out, NB320_335.out, NB335_320.out, NB321_335.out, NB335_321.out, NB322_335.out, NB335_322.out, (bw HB)⟩)
       ·skip
        rintro _ w120 ⟨hS_, h0_, h1_, h2_, h3_⟩
        replace BK320 := Aside0.mk h0_
        replace BK321 := Aside0.mk h1_
        replace BK322 := Aside0.mk h2_
        replace HB := Aside0.mk h3_
        clear h0_ h1_ h2_ h3_
        have hHeld : w120.cell? ⟨gb320, 0, none⟩ = some (.int .i64 a0_0) ∧ w120.cell? ⟨gb320, 1, none⟩ = some (.int .i64 a0_1) ∧ w120.cell? ⟨gb322, 0, none⟩ = some (.int .i64 a2_0) ∧ w120.cell? ⟨gb322, 1, none⟩ = some (.int .i64 a2_1) ∧ w120.cell? ⟨gb321, 0, none⟩ = some (.int .i64 a1_0) ∧ w120.cell? ⟨gb321, 1, none⟩ = some (.int .i64 a1_1) := hS_
        refine norm_ (a' := ?_) ?_ ?_
        rotate_left
        ·simp only [putAll, Act.put, List.setIfInBounds_toArray, List.set_cons_zero, List.set_cons_succ]
         rfl
        refine two_ (i := 6) (j := 7) (Ni := some 9) (Nj := some 10) (bl 10 127) (bl 10 191) rfl rfl rfl rfl (two_of HT_.out (by kernel_rfl)) (by decide) (by decide) (fun K hK => ?_) (fun K hK => ?_)
        ·skip
         refine box_step ?hg (N := 9) ?hd (cs := #[.int .i64 0, .int .i64 0, .int .i64 0, .int .i64 0]) (t := 178) ?hr ?_; (case hd => rfl); (case hg => rfl); (case hr => first | (go_simp; done) | (go_simp; rfl))
         intro gb334 hg w121 hbox hb
         have BK334 := Aside0.mk (hbox)
         have GW334 := ge HB hg
         have GE334 := ge HB hg
         replace HB := bs HB hb
         have NB320_334 := nl BK320 hg
         have NB334_320 := nr BK320 hg
         replace BK320 := bb BK320 hb
         have NB321_334 := nl BK321 hg
         have NB334_321 := nr BK321 hg
         replace BK321 := bb BK321 hb
         have NB322_334 := nl BK322 hg
         have NB334_322 := nr BK322 hg
         replace BK322 := bb BK322 hb
         clear hb hbox hg
         refine hK.out _ _ ⟨bc0 BK320, bc1 BK320, bc0 BK322, bc1 BK322, bc0 BK321, bc1 BK321⟩ (fun hHeld => ?_)
         clear hK K
         refine norm_ (a' := ?_) ?_ ?_
         rotate_left
         ·show Act.put _ (some 9) _ = _
          simp only [Act.put, List.setIfInBounds_toArray, List.set_cons_zero, List.set_cons_succ, i64_w, i32_w]
          rfl
         exact norm_ (by first | (simp only [putAll, Act.put, List.setIfInBounds_toArray, List.set_cons_zero, List.set_cons_succ]; done) | (simp only [putAll, Act.put, List.setIfInBounds_toArray, List.set_cons_zero, List.set_cons_succ]; rfl)) (hJ2_5_6 (gb334) _ ⟨hHeld, (bk BK320), (bk BK321), (bk BK322), (bk BK334), GW334.out, GE334.out, NB320_334.out, NB334_320.out, NB321_334.out, NB334_321.out, NB322_334.out, NB334_322.out, (bw HB)⟩)
        ·skip
         refine box_step ?hg (N := 10) ?hd (cs := #[.int .i64 0, .int .i64 0, .int .i64 0, .int .i64 0]) (t := 178) ?hr ?_; (case hd => rfl); (case hg => rfl); (case hr => first | (go_simp; done) | (go_simp; rfl))
         intro gb335 hg w121 hbox hb
         have BK335 := Aside0.mk (hbox)
         have GW335 := ge HB hg
         have GE335 := ge HB hg
         replace HB := bs HB hb
         have NB320_335 := nl BK320 hg
         have NB335_320 := nr BK320 hg
         replace BK320 := bb BK320 hb
         have NB321_335 := nl BK321 hg
         have NB335_321 := nr BK321 hg
         replace BK321 := bb BK321 hb
         have NB322_335 := nl BK322 hg
         have NB335_322 := nr BK322 hg
         replace BK322 := bb BK322 hb
         clear hb hbox hg
         refine hK.out _ _ ⟨bc0 BK320, bc1 BK320, bc0 BK322, bc1 BK322, bc0 BK321, bc1 BK321⟩ (fun hHeld => ?_)
         clear hK K
         refine norm_ (a' := ?_) ?_ ?_
         rotate_left
         ·show Act.put _ (some 10) _ = _
          simp only [Act.put, List.setIfInBounds_toArray, List.set_cons_zero, List.set_cons_succ, i64_w, i32_w]
          rfl
         exact norm_ (by first | (simp only [putAll, Act.put, List.setIfInBounds_toArray, List.set_cons_zero, List.set_cons_succ]; done) | (simp only [putAll, Act.put, List.setIfInBounds_toArray, List.set_cons_zero, List.set_cons_succ]; rfl)) (hJ2_5_7 (gb335) _ ⟨hHeld, (bk BK320), (bk BK321), (bk BK322), (bk BK335), GW335.out, GE335.out, NB320_335.out, NB335_320.out, NB321_335.out, NB335_321.out, NB322_335.out, NB335_322.out, (bw HB)⟩)
      ·skip
       rintro ⟨gb334, gb335⟩ w121 ⟨hS_, h0_, h1_, h2_, h3_, h4_, h5_, h6_, h7_, h8_, h9_, h10_, h11_, h12_, h13_, h14_, h15_, h16_, h17_, h18_, h19_, h20_, h21_, h22_, h23_⟩
       replace BK320 := Aside0.mk h0_
       replace BK321 := Aside0.mk h1_
       replace BK322 := Aside0.mk h2_
       have BK334 := Aside0.mk h3_
       have BK335 := Aside0.mk h4_
       have GW334 := GeC.mk h5_
       have GE334 := GeC.mk h6_
       have NB320_334 := NeC.mk h7_
       have NB334_320 := NeC.mk h8_
       have NB321_334 := NeC.mk h9_
       have NB334_321 := NeC.mk h10_
       have NB322_334 := NeC.mk h11_
       have NB334_322 := NeC.mk h12_
       have NB335_334 := NeC.mk h13_
       have NB334_335 := NeC.mk h14_
       have GW335 := GeC.mk h15_
       have GE335 := GeC.mk h16_
       have NB320_335 := NeC.mk h17_
       have NB335_320 := NeC.mk h18_
       have NB321_335 := NeC.mk h19_
       have NB335_321 := NeC.mk h20_
       have NB322_335 := NeC.mk h21_
       have NB335_322 := NeC.mk h22_
       replace HB := Aside0.mk h23_
       clear h0_ h1_ h2_ h3_ h4_ h5_ h6_ h7_ h8_ h9_ h10_ h11_ h12_ h13_ h14_ h15_ h16_ h17_ h18_ h19_ h20_ h21_ h22_ h23_
       have hHeld : w121.cell? ⟨gb320, 0, none⟩ = some (.int .i64 a0_0) ∧ w121.cell? ⟨gb320, 1, none⟩ = some (.int .i64 a0_1) ∧ w121.cell? ⟨gb322, 0, none⟩ = some (.int .i64 a2_0) ∧ w121.cell? ⟨gb322, 1, none⟩ = some (.int .i64 a2_1) ∧ w121.cell? ⟨gb321, 0, none⟩ = some (.int .i64 a1_0) ∧ w121.cell? ⟨gb321, 1, none⟩ = some (.int .i64 a1_1) := hS_
       refine norm_ (a' := ?_) ?_ ?_
       rotate_left
       ·simp only [putAll, Act.put, List.setIfInBounds_toArray, List.set_cons_zero, List.set_cons_succ]
        rfl
       refine on 5 38 (bl 10 255) HT_.out (fun K hK => ?_)
       refine gs Try.func186 #[.agg #[.int .i64 a2_0, .int .i64 a2_1], .agg #[.int .i64 a1_0, .int .i64 a1_1]] ?_
       with_reducible refine (spec_saGap.calls a2_0 a2_1 a1_0 a1_1 t330 t331 t332 t333 _ A48.out).mono ?_
       rintro e w122 ⟨rfl, hb⟩
       refine ⟨_, rfl, ?_⟩
       replace BK320 := bb BK320 hb
       replace BK321 := bb BK321 hb
       replace BK322 := bb BK322 hb
       replace BK334 := bb BK334 hb
       replace BK335 := bb BK335 hb
       replace HB := bs HB hb
       (try clear hb)
       (try clear hb2)
       (try clear hk)
       (try clear hi)
       refine hK.out _ _ ⟨bc0 BK320, bc1 BK320, bc0 BK322, bc1 BK322, bc0 BK321, bc1 BK321⟩ (fun hHeld => ?_)
       clear hK K
       refine norm_ (a' := ?_) ?_ ?_
       rotate_left
       ·show Act.put _ (some 38) _ = _
        simp only [Act.put, List.setIfInBounds_toArray, List.set_cons_zero, List.set_cons_succ, i64_w, i32_w]
        rfl
       exact norm_ (by first | (simp only [putAll, Act.put, List.setIfInBounds_toArray, List.set_cons_zero, List.set_cons_succ]; done) | (simp only [putAll, Act.put, List.setIfInBounds_toArray, List.set_cons_zero, List.set_cons_succ]; rfl)) (hJ2_5_6_7 (gb334, gb335) _ ⟨hHeld, (bk BK320), (bk BK321), (bk BK322), (bk BK334), (bk BK335), GW334.out, GE334.out, NB320_334.out, NB334_320.out, NB321_334.out, NB334_321.out, NB322_334.out, NB334_322.out, NB335_334.out, NB334_335.out, GW335.out, GE335.out, NB320_335.out, NB335_320.out, NB321_335.out, NB335_321.out, NB322_335.out, NB335_322.out, (bw HB)⟩)
     ·skip
      rintro gb335 w121 ⟨hS_, h0_, h1_, h2_, h3_, h4_, h5_, h6_, h7_, h8_, h9_, h10_, h11_, h12_⟩
      replace BK320 := Aside0.mk h0_
      replace BK321 := Aside0.mk h1_
      replace BK322 := Aside0.mk h2_
      have BK335 := Aside0.mk h3_
      have GW335 := GeC.mk h4_
      have GE335 := GeC.mk h5_
      have NB320_335 := NeC.mk h6_
      have NB335_320 := NeC.mk h7_
      have NB321_335 := NeC.mk h8_
      have NB335_321 := NeC.mk h9_
      have NB322_335 := NeC.mk h10_
      have NB335_322 := NeC.mk h11_
      replace HB := Aside0.mk h12_
      clear h0_ h1_ h2_ h3_ h4_ h5_ h6_ h7_ h8_ h9_ h10_ h11_ h12_
      have hHeld : w121.cell? ⟨gb320, 0, none⟩ = some (.int .i64 a0_0) ∧ w121.cell? ⟨gb320, 1, none⟩ = some (.int .i64 a0_1) ∧ w121.cell? ⟨gb322, 0, none⟩ = some (.int .i64 a2_0) ∧ w121.cell? ⟨gb322, 1, none⟩ = some (.int .i64 a2_1) ∧ w121.cell? ⟨gb321, 0, none⟩ = some (.int .i64 a1_0) ∧ w121.cell? ⟨gb321, 1, none⟩ = some (.int .i64 a1_1) := hS_
      refine norm_ (a' := ?_) ?_ ?_
      rotate_left
      ·simp only [putAll, Act.put, List.setIfInBounds_toArray, List.set_cons_zero, List.set_cons_succ]
       rfl
      refine on 6 9 (bl 10 255) HT_.out (fun K hK => ?_)
      refine box_step ?hg (N := 9) ?hd (cs := #[.int .i64 0, .int .i64 0, .int .i64 0, .int .i64 0]) (t := 178) ?hr ?_; (case hd => rfl); (case hg => rfl); (case hr => first | (go_simp; done) | (go_simp; rfl))
      intro gb334 hg w122 hbox hb
      have BK334 := Aside0.mk (hbox)
      have GW334 := ge HB hg
      have GE334 := ge HB hg
      replace HB := bs HB hb
      have NB320_334 := nl BK320 hg
      have NB334_320 := nr BK320 hg
      replace BK320 := bb BK320 hb
      have NB321_334 := nl BK321 hg
      have NB334_321 := nr BK321 hg
      replace BK321 := bb BK321 hb
      have NB322_334 := nl BK322 hg
      have NB334_322 := nr BK322 hg
      replace BK322 := bb BK322 hb
      have NB335_334 := nl BK335 hg
      have NB334_335 := nr BK335 hg
      replace BK335 := bb BK335 hb
      clear hb hbox hg
      refine hK.out _ _ ⟨bc0 BK320, bc1 BK320, bc0 BK322, bc1 BK322, bc0 BK321, bc1 BK321⟩ (fun hHeld => ?_)
      clear hK K
      refine norm_ (a' := ?_) ?_ ?_
      rotate_left
      ·show Act.put _ (some 9) _ = _
       simp only [Act.put, List.setIfInBounds_toArray, List.set_cons_zero, List.set_cons_succ, i64_w, i32_w]
       rfl
      exact norm_ (by first | (simp only [putAll, Act.put, List.setIfInBounds_toArray, List.set_cons_zero, List.set_cons_succ]; done) | (simp only [putAll, Act.put, List.setIfInBounds_toArray, List.set_cons_zero, List.set_cons_succ]; rfl)) (hJ2_5_6_7 (gb334, gb335) _ ⟨hHeld, (bk BK320), (bk BK321), (bk BK322), (bk BK334), (bk BK335), GW334.out, GE334.out, NB320_334.out, NB334_320.out, NB321_334.out, NB334_321.out, NB322_334.out, NB334_322.out, NB335_334.out, NB334_335.out, GW335.out, GE335.out, NB320_335.out, NB335_320.out, NB321_335.out, NB335_321.out, NB322_335.out, NB335_322.out, (bw HB)⟩)
    ·skip
     rintro gb334 w121 ⟨hS_, h0_, h1_, h2_, h3_, h4_, h5_, h6_, h7_, h8_, h9_, h10_, h11_, h12_⟩
     replace BK320 := Aside0.mk h0_
     replace BK321 := Aside0.mk h1_
     replace BK322 := Aside0.mk h2_
     have BK334 := Aside0.mk h3_
     have GW334 := GeC.mk h4_
     have GE334 := GeC.mk h5_
     have NB320_334 := NeC.mk h6_
     have NB334_320 := NeC.mk h7_
     have NB321_334 := NeC.mk h8_
     have NB334_321 := NeC.mk h9_
     have NB322_334 := NeC.mk h10_
     have NB334_322 := NeC.mk h11_
     replace HB := Aside0.mk h12_
     clear h0_ h1_ h2_ h3_ h4_ h5_ h6_ h7_ h8_ h9_ h10_ h11_ h12_
     have hHeld : w121.cell? ⟨gb320, 0, none⟩ = some (.int .i64 a0_0) ∧ w121.cell? ⟨gb320, 1, none⟩ = some (.int .i64 a0_1) ∧ w121.cell? ⟨gb322, 0, none⟩ = some (.int .i64 a2_0) ∧ w121.cell? ⟨gb322, 1, none⟩ = some (.int .i64 a2_1) ∧ w121.cell? ⟨gb321, 0, none⟩ = some (.int .i64 a1_0) ∧ w121.cell? ⟨gb321, 1, none⟩ = some (.int .i64 a1_1) := hS_
     refine norm_ (a' := ?_) ?_ ?_
     rotate_left
     ·simp only [putAll, Act.put, List.setIfInBounds_toArray, List.set_cons_zero, List.set_cons_succ]
      rfl
     refine on 7 10 (bl 10 255) HT_.out (fun K hK => ?_)
     refine box_step ?hg (N := 10) ?hd (cs := #[.int .i64 0, .int .i64 0, .int .i64 0, .int .i64 0]) (t := 178) ?hr ?_; (case hd => rfl); (case hg => rfl); (case hr => first | (go_simp; done) | (go_simp; rfl))
     intro gb335 hg w122 hbox hb
     have BK335 := Aside0.mk (hbox)
     have GW335 := ge HB hg
     have GE335 := ge HB hg
     replace HB := bs HB hb
     have NB320_335 := nl BK320 hg
     have NB335_320 := nr BK320 hg
     replace BK320 := bb BK320 hb
     have NB321_335 := nl BK321 hg
     have NB335_321 := nr BK321 hg
     replace BK321 := bb BK321 hb
     have NB322_335 := nl BK322 hg
     have NB335_322 := nr BK322 hg
     replace BK322 := bb BK322 hb
     have NB334_335 := nl BK334 hg
     have NB335_334 := nr BK334 hg
     replace BK334 := bb BK334 hb
     clear hb hbox hg
     refine hK.out _ _ ⟨bc0 BK320, bc1 BK320, bc0 BK322, bc1 BK322, bc0 BK321, bc1 BK321⟩ (fun hHeld => ?_)
     clear hK K
     refine norm_ (a' := ?_) ?_ ?_
     rotate_left
     ·show Act.put _ (some 10) _ = _
      simp only [Act.put, List.setIfInBounds_toArray, List.set_cons_zero, List.set_cons_succ, i64_w, i32_w]
      rfl
     exact norm_ (by first | (simp only [putAll, Act.put, List.setIfInBounds_toArray, List.set_cons_zero, List.set_cons_succ]; done) | (simp only [putAll, Act.put, List.setIfInBounds_toArray, List.set_cons_zero, List.set_cons_succ]; rfl)) (hJ2_5_6_7 (gb334, gb335) _ ⟨hHeld, (bk BK320), (bk BK321), (bk BK322), (bk BK334), (bk BK335), GW334.out, GE334.out, NB320_334.out, NB334_320.out, NB321_334.out, NB334_321.out, NB322_334.out, NB334_322.out, NB335_334.out, NB334_335.out, GW335.out, GE335.out, NB320_335.out, NB335_320.out, NB321_335.out, NB335_321.out, NB322_335.out, NB335_322.out, (bw HB)⟩)
   rintro ⟨gb334, gb335⟩ w122 ⟨hS_, h0_, h1_, h2_, h3_, h4_, h5_, h6_, h7_, h8_, h9_, h10_, h11_, h12_, h13_, h14_, h15_, h16_, h17_, h18_, h19_, h20_, h21_, h22_, h23_⟩
   replace BK320 := Aside0.mk h0_
   replace BK321 := Aside0.mk h1_
   replace BK322 := Aside0.mk h2_
   have BK334 := Aside0.mk h3_
   have BK335 := Aside0.mk h4_
   have GW334 := GeC.mk h5_
   have GE334 := GeC.mk h6_
   have NB320_334 := NeC.mk h7_
   have NB334_320 := NeC.mk h8_
   have NB321_334 := NeC.mk h9_
   have NB334_321 := NeC.mk h10_
   have NB322_334 := NeC.mk h11_
   have NB334_322 := NeC.mk h12_
   have NB335_334 := NeC.mk h13_
   have NB334_335 := NeC.mk h14_
   have GW335 := GeC.mk h15_
   have GE335 := GeC.mk h16_
   have NB320_335 := NeC.mk h17_
   have NB335_320 := NeC.mk h18_
   have NB321_335 := NeC.mk h19_
   have NB335_321 := NeC.mk h20_
   have NB322_335 := NeC.mk h21_
   have NB335_322 := NeC.mk h22_
   replace HB := Aside0.mk h23_
   clear h0_ h1_ h2_ h3_ h4_ h5_ h6_ h7_ h8_ h9_ h10_ h11_ h12_ h13_ h14_ h15_ h16_ h17_ h18_ h19_ h20_ h21_ h22_ h23_
   have hHeld : w122.cell? ⟨gb320, 0, none⟩ = some (.int .i64 a0_0) ∧ w122.cell? ⟨gb320, 1, none⟩ = some (.int .i64 a0_1) ∧ w122.cell? ⟨gb322, 0, none⟩ = some (.int .i64 a2_0) ∧ w122.cell? ⟨gb322, 1, none⟩ = some (.int .i64 a2_1) ∧ w122.cell? ⟨gb321, 0, none⟩ = some (.int .i64 a1_0) ∧ w122.cell? ⟨gb321, 1, none⟩ = some (.int .i64 a1_1) := hS_
   refine norm_ (a' := ?_) ?_ ?_
   rotate_left
   ·simp only [putAll, Act.put, List.setIfInBounds_toArray, List.set_cons_zero, List.set_cons_succ]
    rfl
   refine one_ (i := 8) (N := none) (bl 10 511) rfl rfl (one_of HT_.out (by kernel_rfl)) (by decide) (fun K hK => ?_)
   have hs123 : w122.cell? ⟨gb334, 0, none⟩ = some (.int .i64 0) := bc0 BK334
   have hfs123 := blk_frozen BK334.out 0
   have hns123_0 := NB320_334.out
   have hns123_1 := NB321_334.out
   have hns123_2 := NB322_334.out
   have hns123_4 := NB335_334.out
   have hms123_0 := NB334_320.out
   have hms123_1 := NB334_321.out
   have hms123_2 := NB334_322.out
   have hms123_4 := NB334_335.out
   have hs124 : w122.cell? ⟨gb334, 1, none⟩ = some (.int .i64 0) := bc1 BK334
   have hfs124 := blk_frozen BK334.out 1
   have hns124_0 := NB320_334.out
   have hns124_1 := NB321_334.out
   have hns124_2 := NB322_334.out
   have hns124_4 := NB335_334.out
   have hms124_0 := NB334_320.out
   have hms124_1 := NB334_321.out
   have hms124_2 := NB334_322.out
   have hms124_4 := NB334_335.out
   have hs125 : w122.cell? ⟨gb334, 2, none⟩ = some (.int .i64 0) := bc2 BK334
   have hfs125 := blk_frozen BK334.out 2
   have hns125_0 := NB320_334.out
   have hns125_1 := NB321_334.out
   have hns125_2 := NB322_334.out
   have hns125_4 := NB335_334.out
   have hms125_0 := NB334_320.out
   have hms125_1 := NB334_321.out
   have hms125_2 := NB334_322.out
   have hms125_4 := NB334_335.out
   have hs126 : w122.cell? ⟨gb334, 3, none⟩ = some (.int .i64 0) := bc3 BK334
   have hfs126 := blk_frozen BK334.out 3
   have hns126_0 := NB320_334.out
   have hns126_1 := NB321_334.out
   have hns126_2 := NB322_334.out
   have hns126_4 := NB335_334.out
   have hms126_0 := NB334_320.out
   have hms126_1 := NB334_321.out
   have hms126_2 := NB334_322.out
   have hms126_4 := NB334_335.out
   refine skip_ (w1 := ?_) (by rfl) rfl ?_ ?_
   rotate_left
   ·go_simp
    rfl
   refine hK.out _ _ ⟨((cell_far (p := ⟨gb334, _, none⟩) NB320_334.out _).trans (((cell_far (p := ⟨gb334, _, none⟩) NB320_334.out _).trans (((cell_far (p := ⟨gb334, _, none⟩) NB320_334.out _).trans (((cell_far (p := ⟨gb334, _, none⟩) NB320_334.out _).trans (hHeld.1)))))))), ((cell_far (p := ⟨gb334, _, none⟩) NB320_334.out _).trans (((cell_far (p := ⟨gb334, _, none⟩) NB320_334.out _).trans (((cell_far (p := ⟨gb334, _, none⟩) NB320_334.out _).trans (((cell_far (p := ⟨gb334, _, none⟩) NB320_334.out _).trans (hHeld.2.1)))))))), ((cell_far (p := ⟨gb334, _, none⟩) NB322_334.out _).trans (((cell_far (p := ⟨gb334, _, none⟩) NB322_334.out _).trans (((cell_far (p := ⟨gb334, _, none⟩) NB322_334.out _).trans (((cell_far (p := ⟨gb334, _, none⟩) NB322_334.out _).trans (hHeld.2.2.1)))))))), ((cell_far (p := ⟨gb334, _, none⟩) NB322_334.out _).trans (((cell_far (p := ⟨gb334, _, none⟩) NB322_334.out _).trans (((cell_far (p := ⟨gb334, _, none⟩) NB322_334.out _).trans (((cell_far (p := ⟨gb334, _, none⟩) NB322_334.out _).trans (hHeld.2.2.2.1)))))))), ((cell_far (p := ⟨gb334, _, none⟩) NB321_334.out _).trans (((cell_far (p := ⟨gb334, _, none⟩) NB321_334.out _).trans (((cell_far (p := ⟨gb334, _, none⟩) NB321_334.out _).trans (((cell_far (p := ⟨gb334, _, none⟩) NB321_334.out _).trans (hHeld.2.2.2.2.1)))))))), ((cell_far (p := ⟨gb334, _, none⟩) NB321_334.out _).trans (((cell_far (p := ⟨gb334, _, none⟩) NB321_334.out _).trans (((cell_far (p := ⟨gb334, _, none⟩) NB321_334.out _).trans (((cell_far (p := ⟨gb334, _, none⟩) NB321_334.out _).trans (hHeld.2.2.2.2.2))))))))⟩ (fun hHeld => ?_)
   clear hK K
   refine one_ (i := 9) (N := none) (bl 10 1023) rfl rfl (one_of HT_.out (by kernel_rfl)) (by decide) (fun K hK => ?_)
   have hs127 : w122.cell? ⟨gb335, 0, none⟩ = some (.int .i64 0) := bc0 BK335
   have hfs127 := blk_frozen BK335.out 0
   have hns127_0 := NB320_335.out
   have hns127_1 := NB321_335.out
   have hns127_2 := NB322_335.out
   have hns127_3 := NB334_335.out
   have hms127_0 := NB335_320.out
   have hms127_1 := NB335_321.out
   have hms127_2 := NB335_322.out
   have hms127_3 := NB335_334.out
   have hs128 : w122.cell? ⟨gb335, 1, none⟩ = some (.int .i64 0) := bc1 BK335
   have hfs128 := blk_frozen BK335.out 1
   have hns128_0 := NB320_335.out
   have hns128_1 := NB321_335.out
   have hns128_2 := NB322_335.out
   have hns128_3 := NB334_335.out
   have hms128_0 := NB335_320.out
   have hms128_1 := NB335_321.out
   have hms128_2 := NB335_322.out
   have hms128_3 := NB335_334.out
   have hs129 : w122.cell? ⟨gb335, 2, none⟩ = some (.int .i64 0) := bc2 BK335
   have hfs129 := blk_frozen BK335.out 2
   have hns129_0 := NB320_335.out
   have hns129_1 := NB321_335.out
   have hns129_2 := NB322_335.out
   have hns129_3 := NB334_335.out
   have hms129_0 := NB335_320.out
   have hms129_1 := NB335_321.out
   have hms129_2 := NB335_322.out
   have hms129_3 := NB335_334.out
   have hs130 : w122.cell? ⟨gb335, 3, none⟩ = some (.int .i64 0) := bc3 BK335
   have hfs130 := blk_frozen BK335.out 3
   have hns130_0 := NB320_335.out
   have hns130_1 := NB321_335.out
   have hns130_2 := NB322_335.out
   have hns130_3 := NB334_335.out
   have hms130_0 := NB335_320.out
   have hms130_1 := NB335_321.out
   have hms130_2 := NB335_322.out
   have hms130_3 := NB335_334.out
   refine skip_ (w1 := ?_) (by rfl) rfl ?_ ?_
   rotate_left
   ·go_simp
    rfl
   refine hK.out _ _ ⟨((cell_far (p := ⟨gb335, _, none⟩) NB320_335.out _).trans (((cell_far (p := ⟨gb335, _, none⟩) NB320_335.out _).trans (((cell_far (p := ⟨gb335, _, none⟩) NB320_335.out _).trans (((cell_far (p := ⟨gb335, _, none⟩) NB320_335.out _).trans (hHeld.1)))))))), ((cell_far (p := ⟨gb335, _, none⟩) NB320_335.out _).trans (((cell_far (p := ⟨gb335, _, none⟩) NB320_335.out _).trans (((cell_far (p := ⟨gb335, _, none⟩) NB320_335.out _).trans (((cell_far (p := ⟨gb335, _, none⟩) NB320_335.out _).trans (hHeld.2.1)))))))), ((cell_far (p := ⟨gb335, _, none⟩) NB322_335.out _).trans (((cell_far (p := ⟨gb335, _, none⟩) NB322_335.out _).trans (((cell_far (p := ⟨gb335, _, none⟩) NB322_335.out _).trans (((cell_far (p := ⟨gb335, _, none⟩) NB322_335.out _).trans (hHeld.2.2.1)))))))), ((cell_far (p := ⟨gb335, _, none⟩) NB322_335.out _).trans (((cell_far (p := ⟨gb335, _, none⟩) NB322_335.out _).trans (((cell_far (p := ⟨gb335, _, none⟩) NB322_335.out _).trans (((cell_far (p := ⟨gb335, _, none⟩) NB322_335.out _).trans (hHeld.2.2.2.1)))))))), ((cell_far (p := ⟨gb335, _, none⟩) NB321_335.out _).trans (((cell_far (p := ⟨gb335, _, none⟩) NB321_335.out _).trans (((cell_far (p := ⟨gb335, _, none⟩) NB321_335.out _).trans (((cell_far (p := ⟨gb335, _, none⟩) NB321_335.out _).trans (hHeld.2.2.2.2.1)))))))), ((cell_far (p := ⟨gb335, _, none⟩) NB321_335.out _).trans (((cell_far (p := ⟨gb335, _, none⟩) NB321_335.out _).trans (((cell_far (p := ⟨gb335, _, none⟩) NB321_335.out _).trans (((cell_far (p := ⟨gb335, _, none⟩) NB321_335.out _).trans (hHeld.2.2.2.2.2))))))))⟩ (fun hHeld => ?_)
   clear hK K
   refine done_ (done_of HT_.out (by kernel_rfl)) ?_
   have hnb131 := NB334_320.out
   have hnc131 := NB320_334.out
   have hnb132 := NB334_321.out
   have hnc132 := NB321_334.out
   have hnb133 := NB334_322.out
   have hnc133 := NB322_334.out
   have hnb134 := NB334_335.out
   have hnc134 := NB335_334.out
   have hcz135_0 := bc0 BK334
   have hcz135_1 := bc1 BK334
   have hcz135_2 := bc2 BK334
   have hcz135_3 := bc3 BK334
   have hfz135_0 := blk_frozen BK334.out 0
   have hfz135_1 := blk_frozen BK334.out 1
   have hfz135_2 := blk_frozen BK334.out 2
   have hfz135_3 := blk_frozen BK334.out 3
   have hnb136 := NB335_320.out
   have hnc136 := NB320_335.out
   have hnb137 := NB335_321.out
   have hnc137 := NB321_335.out
   have hnb138 := NB335_322.out
   have hnc138 := NB322_335.out
   have hcz139_0 := bc0 BK335
   have hcz139_1 := bc1 BK335
   have hcz139_2 := bc2 BK335
   have hcz139_3 := bc3 BK335
   have hfz139_0 := blk_frozen BK335.out 0
   have hfz139_1 := blk_frozen BK335.out 1
   have hfz139_2 := blk_frozen BK335.out 2
   have hfz139_3 := blk_frozen BK335.out 3
   have H := H'.out
   clear H'
   by_cases c49 : (wrap64 (t326 * t330)) ≤ 0
   ·rw [if_pos c49] at H
    have c49b0 : decide ((wrap64 (t326 * t330)) ≤ 0) = true := decide_eq_true c49
    (try simp only [c49b0, Bool.not_true, Bool.not_false])
    clear c49
    simp only [Option.some.injEq, Prod.mk.injEq] at H
    obtain ⟨rfl, rfl, rfl⟩ := H
    try go_wp2
    go_ret3
    exact ⟨by first | rfl | (simp [errW_none, errW_some] <;> rfl) | (simp [*, errW_none, errW_some] <;> rfl), bw HB⟩
   rw [if_neg c49] at H
   have c49b0 : decide ((wrap64 (t326 * t330)) ≤ 0) = false := decide_eq_false c49
   (try simp only [c49b0, Bool.not_true, Bool.not_false])
   clear c49
   replace H := Option.bind_eq_some_iff.mp H
   obtain ⟨⟨t336, t337, t338⟩, A790, H⟩ := H
   replace H : (if t338 = true then (some (t336, t337, true)) else (some (0, 0, false))) = some (r1, r2, r3) := H
   have A79 := Aside0.mk A790
   clear A790
   have H' := Aside0.mk H
   clear H
   have H := H'.out
   clear H'
   by_cases c80 : t338 = true
   ·subst c80
    have H1 : (some (t336, t337, true)) = some (r1, r2, r3) := by rw [if_pos rfl] at H; exact H
    clear H
    have H := H1
    clear H1
    simp only [Option.some.injEq, Prod.mk.injEq] at H
    obtain ⟨rfl, rfl, rfl⟩ := H
    try go_wp2_with (first | ((with_reducible refine gate_callee (f := 187) rfl ?_); refine gl 50 Try.func187 #[.agg #[.int .i64 t326, .int .i64 t327, .int .i64 t328, .int .i64 t329], .agg #[.int .i64 t330, .int .i64 t331, .int .i64 t332, .int .i64 t333]] ?_; (with_reducible refine (spec_saCross.calls kj3 t326 t327 t328 t329 t330 t331 t332 t333 t336 t337 true _ A79.out).mono ?_); rintro e w110 ⟨rfl, hb⟩; refine ⟨_, rfl, ?_⟩; replace BK320 := bb BK320 hb; replace BK321 := bb BK321 hb; replace BK322 := bb BK322 hb; replace BK334 := Aside0.mk (blk_below (g := gb334) (o := .cells #[.int .i64 t326, .int .i64 t327, .int .i64 t328, .int .i64 t329] 178 (0, 0)) (by (with_reducible repeat (first | refine blk_drewN ?_ _ | refine blk_drew ?_ | refine blk_alloc ?_ _)); refine blk_far ?_ NB334_335.out _; (with_reducible repeat (first | refine blk_drewN ?_ _ | refine blk_drew ?_ | refine blk_alloc ?_ _)); refine blk_far ?_ NB334_335.out _; (with_reducible repeat (first | refine blk_drewN ?_ _ | refine blk_drew ?_ | refine blk_alloc ?_ _)); refine blk_far ?_ NB334_335.out _; (with_reducible repeat (first | refine blk_drewN ?_ _ | refine blk_drew ?_ | refine blk_alloc ?_ _)); refine blk_far ?_ NB334_335.out _; (with_reducible repeat (first | refine blk_drewN ?_ _ | refine blk_drew ?_ | refine blk_alloc ?_ _)); refine blk_put (cs := #[.int .i64 t326, .int .i64 t327, .int .i64 t328, .int .i64 0]) ?_ 3 _ rfl; (with_reducible repeat (first | refine blk_drewN ?_ _ | refine blk_drew ?_ | refine blk_alloc ?_ _)); refine blk_put (cs := #[.int .i64 t326, .int .i64 t327, .int .i64 0, .int .i64 0]) ?_ 2 _ rfl; (with_reducible repeat (first | refine blk_drewN ?_ _ | refine blk_drew ?_ | refine blk_alloc ?_ _)); refine blk_put (cs := #[.int .i64 t326, .int .i64 0, .int .i64 0, .int .i64 0]) ?_ 1 _ rfl; (with_reducible repeat (first | refine blk_drewN ?_ _ | refine blk_drew ?_ | refine blk_alloc ?_ _)); refine blk_put (cs := #[.int .i64 0, .int .i64 0, .int .i64 0, .int .i64 0]) ?_ 0 _ rfl; exact bk BK334) hb); replace BK335 := Aside0.mk (blk_below (g := gb335) (o := .cells #[.int .i64 t330, .int .i64 t331, .int .i64 t332, .int .i64 t333] 178 (0, 0)) (by (with_reducible repeat (first | refine blk_drewN ?_ _ | refine blk_drew ?_ | refine blk_alloc ?_ _)); refine blk_put (cs := #[.int .i64 t330, .int .i64 t331, .int .i64 t332, .int .i64 0]) ?_ 3 _ rfl; (with_reducible repeat (first | refine blk_drewN ?_ _ | refine blk_drew ?_ | refine blk_alloc ?_ _)); refine blk_put (cs := #[.int .i64 t330, .int .i64 t331, .int .i64 0, .int .i64 0]) ?_ 2 _ rfl; (with_reducible repeat (first | refine blk_drewN ?_ _ | refine blk_drew ?_ | refine blk_alloc ?_ _)); refine blk_put (cs := #[.int .i64 t330, .int .i64 0, .int .i64 0, .int .i64 0]) ?_ 1 _ rfl; (with_reducible repeat (first | refine blk_drewN ?_ _ | refine blk_drew ?_ | refine blk_alloc ?_ _)); refine blk_put (cs := #[.int .i64 0, .int .i64 0, .int .i64 0, .int .i64 0]) ?_ 0 _ rfl; exact bk BK335) hb); replace HB := bs HB hb; (try clear hb)))
    go_ret3
    exact ⟨by first | rfl | (simp [errW_none, errW_some] <;> rfl) | (simp [*, errW_none, errW_some] <;> rfl), bw HB⟩
   replace c80 := Bool.eq_false_iff.mpr c80
   subst c80
   have H1 : (some (0, 0, false)) = some (r1, r2, r3) := by rw [if_neg (show ¬ (false = true) by decide)] at H; exact H
   clear H
   have H := H1
   clear H1
   simp only [Option.some.injEq, Prod.mk.injEq] at H
   obtain ⟨rfl, rfl, rfl⟩ := H
   try go_wp2_with (first | ((with_reducible refine gate_callee (f := 187) rfl ?_); refine gl 50 Try.func187 #[.agg #[.int .i64 t326, .int .i64 t327, .int .i64 t328, .int .i64 t329], .agg #[.int .i64 t330, .int .i64 t331, .int .i64 t332, .int .i64 t333]] ?_; (with_reducible refine (spec_saCross.calls kj3 t326 t327 t328 t329 t330 t331 t332 t333 t336 t337 false _ A79.out).mono ?_); rintro e w140 ⟨rfl, hb⟩; refine ⟨_, rfl, ?_⟩; replace BK320 := bb BK320 hb; replace BK321 := bb BK321 hb; replace BK322 := bb BK322 hb; replace BK334 := Aside0.mk (blk_below (g := gb334) (o := .cells #[.int .i64 t326, .int .i64 t327, .int .i64 t328, .int .i64 t329] 178 (0, 0)) (by (with_reducible repeat (first | refine blk_drewN ?_ _ | refine blk_drew ?_ | refine blk_alloc ?_ _)); refine blk_far ?_ NB334_335.out _; (with_reducible repeat (first | refine blk_drewN ?_ _ | refine blk_drew ?_ | refine blk_alloc ?_ _)); refine blk_far ?_ NB334_335.out _; (with_reducible repeat (first | refine blk_drewN ?_ _ | refine blk_drew ?_ | refine blk_alloc ?_ _)); refine blk_far ?_ NB334_335.out _; (with_reducible repeat (first | refine blk_drewN ?_ _ | refine blk_drew ?_ | refine blk_alloc ?_ _)); refine blk_far ?_ NB334_335.out _; (with_reducible repeat (first | refine blk_drewN ?_ _ | refine blk_drew ?_ | refine blk_alloc ?_ _)); refine blk_put (cs := #[.int .i64 t326, .int .i64 t327, .int .i64 t328, .int .i64 0]) ?_ 3 _ rfl; (with_reducible repeat (first | refine blk_drewN ?_ _ | refine blk_drew ?_ | refine blk_alloc ?_ _)); refine blk_put (cs := #[.int .i64 t326, .int .i64 t327, .int .i64 0, .int .i64 0]) ?_ 2 _ rfl; (with_reducible repeat (first | refine blk_drewN ?_ _ | refine blk_drew ?_ | refine blk_alloc ?_ _)); refine blk_put (cs := #[.int .i64 t326, .int .i64 0, .int .i64 0, .int .i64 0]) ?_ 1 _ rfl; (with_reducible repeat (first | refine blk_drewN ?_ _ | refine blk_drew ?_ | refine blk_alloc ?_ _)); refine blk_put (cs := #[.int .i64 0, .int .i64 0, .int .i64 0, .int .i64 0]) ?_ 0 _ rfl; exact bk BK334) hb); replace BK335 := Aside0.mk (blk_below (g := gb335) (o := .cells #[.int .i64 t330, .int .i64 t331, .int .i64 t332, .int .i64 t333] 178 (0, 0)) (by (with_reducible repeat (first | refine blk_drewN ?_ _ | refine blk_drew ?_ | refine blk_alloc ?_ _)); refine blk_put (cs := #[.int .i64 t330, .int .i64 t331, .int .i64 t332, .int .i64 0]) ?_ 3 _ rfl; (with_reducible repeat (first | refine blk_drewN ?_ _ | refine blk_drew ?_ | refine blk_alloc ?_ _)); refine blk_put (cs := #[.int .i64 t330, .int .i64 t331, .int .i64 0, .int .i64 0]) ?_ 2 _ rfl; (with_reducible repeat (first | refine blk_drewN ?_ _ | refine blk_drew ?_ | refine blk_alloc ?_ _)); refine blk_put (cs := #[.int .i64 t330, .int .i64 0, .int .i64 0, .int .i64 0]) ?_ 1 _ rfl; (with_reducible repeat (first | refine blk_drewN ?_ _ | refine blk_drew ?_ | refine blk_alloc ?_ _)); refine blk_put (cs := #[.int .i64 0, .int .i64 0, .int .i64 0, .int .i64 0]) ?_ 0 _ rfl; exact bk BK335) hb); replace HB := bs HB hb; (try clear hb)))
   go_ret3
   exact ⟨by first | rfl | (simp [errW_none, errW_some] <;> rfl) | (simp [*, errW_none, errW_some] <;> rfl), bw HB⟩

end Go.Proofs.Ytmlkdkeocbhajaa.T
