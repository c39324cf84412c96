-- Functions of the program as plain functions, and that the calls come to them. Written by a program (ownprint.py); nothing here is trusted: Lean checks it.
import Derived.Test.YtmlkdkeocbhajaaGx0
import Derived.Test.YtmlkdkeocbhajaaGx1
import Derived.Test.YtmlkdkeocbhajaaGx2
namespace Go.Proofs.Ytmlkdkeocbhajaa.G
open Go.RowKit Go.Proofs.YtmlkdkeocbhajaaW.PrintWords Go.Proofs.YtmlkdkeocbhajaaW.PrintLast Go.Proofs.YtmlkdkeocbhajaaW.PrintMore Go.Proofs.Ytmlkdkeocbhajaa.Sq
attribute [local go_sem] max2_int min2_int max_two min_two max_three min_three max_four min_four   -- for this text's walks alone
set_option linter.unusedVariables false
set_option linter.unusedSimpArgs false

attribute [local go_sem high] eqA154
/-! ### impl_TimesOfScoop: function 20 -/
mutual
def impl_TimesOfScoop.j0 : Nat → Int → Int → Bool → Int → Int → Int → Option (List Int × Bool)
 | 0, _, _, _, _, _, _ => none
 | k + 1, x1, x2, x21, x210000, x210001, x210002 => if x21 = true then (some (([] : List Int), false)) else ((impl_Wheel_ticks.f x210000 x210001 x210002).bind fun t215 => (impl_TimesOfScoop.l0 k x2 (([] : List Int)) (wrap64 ((wrap64 (x1 + 1)) * t215)) x210000 x210001 x210002))
def impl_TimesOfScoop.l0 : Nat → Int → List Int → Int → Int → Int → Int → Option (List Int × Bool)
 | 0, _, _, _, _, _, _ => none
 | k + 1, x2, x8, x9, x210000, x210001, x210002 => if x9 ≤ x2 then (if x8.length < 17592186044416 then ((impl_Wheel_ticks.f x210000 x210001 x210002).bind fun t219 => (impl_TimesOfScoop.l0 k x2 (x8 ++ [x9]) (wrap64 (x9 + (wrap64 (t219 * x210000)))) x210000 x210001 x210002)) else (none)) else (if (x8.length : Int) > 500 then (some (([] : List Int), false)) else (some (x8, true)))
end
def impl_TimesOfScoop.f (k : Nat) (a0_0 : Int) (a0_1 : Int) (a0_2 : Int) (a1 : Int) (a2 : Int) : Option (List Int × Bool) := (impl_isTurned.f a0_0 a0_1 a0_2 a2).bind fun t210 => (if t210 = true then ((impl_within.f a1 0 (wrap64 (a0_0 - 1))).bind fun t211 => (impl_TimesOfScoop.j0 k a1 a2 (!t211) a0_0 a0_1 a0_2)) else (impl_TimesOfScoop.j0 k a1 a2 true a0_0 a0_1 a0_2))
theorem impl_TimesOfScoop.mono_l : ∀ k, (∀ y0 y1 y2 y3 y4 y5, LeO (impl_TimesOfScoop.j0 k y0 y1 y2 y3 y4 y5) (impl_TimesOfScoop.j0 (k + 1) y0 y1 y2 y3 y4 y5)) ∧ (∀ y0 y1 y2 y3 y4 y5, LeO (impl_TimesOfScoop.l0 k y0 y1 y2 y3 y4 y5) (impl_TimesOfScoop.l0 (k + 1) y0 y1 y2 y3 y4 y5))
 | 0 => ⟨fun _ _ _ _ _ _ r h => by simp [impl_TimesOfScoop.j0] at h, fun _ _ _ _ _ _ r h => by simp [impl_TimesOfScoop.l0] at h⟩
 | k + 1 => by
  obtain ⟨ih0, ih1⟩ := impl_TimesOfScoop.mono_l k
  refine ⟨?_, ?_⟩
  ·intro y0 y1 y2 y3 y4 y5
   unfold impl_TimesOfScoop.j0
   repeat' first
   | (with_reducible exact ih0 _ _ _ _ _ _)
   | (with_reducible exact ih1 _ _ _ _ _ _)
   | (with_reducible exact LeO.refl _)
   | (with_reducible exact LeO.none _)
   | (with_reducible refine LeO.ite ?_ ?_)
   | (with_reducible refine LeO.bind ?_ (fun _ => ?_))
   | exact ih0 _ _ _ _ _ _
   | exact ih1 _ _ _ _ _ _
   | exact LeO.none _
   | refine LeO.ite ?_ ?_
   | refine LeO.bind ?_ (fun _ => ?_)
  ·intro y0 y1 y2 y3 y4 y5
   unfold impl_TimesOfScoop.l0
   repeat' first
   | (with_reducible exact ih0 _ _ _ _ _ _)
   | (with_reducible exact ih1 _ _ _ _ _ _)
   | (with_reducible exact LeO.refl _)
   | (with_reducible exact LeO.none _)
   | (with_reducible refine LeO.ite ?_ ?_)
   | (with_reducible refine LeO.bind ?_ (fun _ => ?_))
   | exact ih0 _ _ _ _ _ _
   | exact ih1 _ _ _ _ _ _
   | exact LeO.none _
   | refine LeO.ite ?_ ?_
   | refine LeO.bind ?_ (fun _ => ?_)
theorem impl_TimesOfScoop.mono : ∀ a0 a1 a2 a3 a4 k, LeO (impl_TimesOfScoop.f k a0 a1 a2 a3 a4) (impl_TimesOfScoop.f (k + 1) a0 a1 a2 a3 a4) := by
 intro a0 a1 a2 a3 a4 k
 obtain ⟨ih0, ih1⟩ := impl_TimesOfScoop.mono_l k
 unfold impl_TimesOfScoop.f
 repeat' first
   | (with_reducible exact ih0 _ _ _ _ _ _)
   | (with_reducible exact ih1 _ _ _ _ _ _)
   | (with_reducible exact LeO.refl _)
   | (with_reducible exact LeO.none _)
   | (with_reducible refine LeO.ite ?_ ?_)
   | (with_reducible refine LeO.bind ?_ (fun _ => ?_))
   | exact ih0 _ _ _ _ _ _
   | exact ih1 _ _ _ _ _ _
   | exact LeO.none _
   | refine LeO.ite ?_ ?_
   | refine LeO.bind ?_ (fun _ => ?_)
def impl_TimesOfScoop.T6 : Bool × List (List Nat × List Nat) := (true, [([], []), ([], []), ([1], [1]), ([], []), ([3], [3]), ([2, 4], [2, 4]), ([0, 5], [0, 5]), ([6, 2, 0, 1, 2, 3, 4, 5, 6], [0, 6])])
def impl_TimesOfScoop.B6 : List Nat := [0, 0, 2, 0, 8, 30, 63, 127]
theorem impl_TimesOfScoop.tab6 : rtab .any (opsOf Try.f20 6) = impl_TimesOfScoop.T6 := by kernel_rfl
theorem impl_TimesOfScoop.bits6 : waitsOk impl_TimesOfScoop.T6.2 impl_TimesOfScoop.B6 = true := by kernel_rfl
set_option maxHeartbeats 8000000 in
set_option maxRecDepth 100000 in
theorem impl_TimesOfScoop.calls (k : Nat) (a0_0 : Int) (a0_1 : Int) (a0_2 : Int) (a1 : Int) (a2 : Int) (r1 : List Int) (r2 : Bool) (w : World) (h : impl_TimesOfScoop.f k a0_0 a0_1 a0_2 a1 a2 = some (r1, r2)) :
  Calls Try.prog 20 #[.agg #[.int .i64 a0_0, .int .i64 a0_1, .int .i64 a0_2], .int .i64 a1, .int .i64 a2] w fun e w' => ∃ v0_ : Value, e = .returned (.tuple #[v0_, .bool r2]) ∧ Kd.R (Kd.int .i64) 3 w' w.heap.size (fun _ => True) v0_ r1 ∧ Below w.heap.size w w' := by
 have hu25 := Try.underlying25
 have HB := Aside0.mk (Below.refl w.heap.size w)
 have H : ((impl_isTurned.f a0_0 a0_1 a0_2 a2).bind fun t210 => (if t210 = true then ((impl_within.f a1 0 (wrap64 (a0_0 - 1))).bind fun t211 => (impl_TimesOfScoop.j0 k a1 a2 (!t211) a0_0 a0_1 a0_2)) else (impl_TimesOfScoop.j0 k a1 a2 true a0_0 a0_1 a0_2))) = some (r1, r2) := h
 clear h
 have HC4 := Aside0.mk H
 clear H
 go_enter Try.func20, Try.ntmps20
 go_upto_region 1 with (first | ((with_reducible refine gate_dst (N := 3) rfl ?_); refine bx 3 #[.int .i64 a0_0, .int .i64 a0_1, .int .i64 a0_2] 25 ?_; intro gb209 hg w5 hbox hb; have BK209 := Aside0.mk (hbox); have GW209 := ge HB hg; have GE209 := ge HB hg; replace HB := bs HB hb; clear hb hbox hg))
 (try simp only [Act.put, List.setIfInBounds_toArray, List.set_cons_zero, List.set_cons_succ])
 go_cut [21] (fun v21 wc => ∃ (kq : Nat) (x21_3 : Bool), v21 = .bool x21_3 ∧ Aside0 (impl_TimesOfScoop.j0 kq a1 a2 x21_3 a0_0 a0_1 a0_2 = some (r1, r2)) ∧ Aside0 (kq ≤ k) ∧ Aside0 (wc.heap[gb209]? = some (.cells #[.int .i64 a0_0, .int .i64 a0_1, .int .i64 a0_2] 25 (0, 0))) ∧ Aside0 (Below w.heap.size w wc))
 case first =>
  have H := HC4.out
  clear HC4
  replace H := Option.bind_eq_some_iff.mp H
  obtain ⟨t210, A60, H⟩ := H
  replace H : (if t210 = true then ((impl_within.f a1 0 (wrap64 (a0_0 - 1))).bind fun t211 => (impl_TimesOfScoop.j0 k a1 a2 (!t211) a0_0 a0_1 a0_2)) else (impl_TimesOfScoop.j0 k a1 a2 true a0_0 a0_1 a0_2)) = some (r1, r2) := H
  have A6 := Aside0.mk A60
  clear A60
  by_cases c7 : t210 = true
  rotate_left
  ·replace c7 := Bool.eq_false_iff.mpr c7
   subst c7
   have H1 : (impl_TimesOfScoop.j0 k a1 a2 true a0_0 a0_1 a0_2) = some (r1, r2) := by rw [if_neg (show ¬ (false = true) by decide)] at H; exact H
   clear H
   have H := H1
   clear H1
   have H' := Aside0.mk H
   clear H
   have hcz12_0 := bc0 BK209
   have hcz12_1 := bc1 BK209
   have hcz12_2 := bc2 BK209
   have hfz12_0 := blk_frozen BK209.out 0
   have hfz12_1 := blk_frozen BK209.out 1
   have hfz12_2 := blk_frozen BK209.out 2
   go_wp2_with (first | ((with_reducible refine gate_callee (f := 136) rfl ?_); refine gl 12 Try.func136 #[.agg #[.int .i64 a0_0, .int .i64 a0_1, .int .i64 a0_2], .int .i64 a2] ?_; (with_reducible refine (impl_isTurned.calls a0_0 a0_1 a0_2 a2 false _ A6.out).mono ?_); rintro e w13 ⟨rfl, hb⟩; refine ⟨_, rfl, ?_⟩; replace BK209 := bb BK209 hb; replace HB := bs HB hb; (try clear hb)))
   go_meet
   case rel => exact ⟨_, (true), (by first | rfl | (simp; done) | (simp [*]; done)), H', ⟨by first | omega | exact Nat.le_refl _⟩, ⟨bk BK209⟩, ⟨bw HB⟩⟩
  subst c7
  have H1 : ((impl_within.f a1 0 (wrap64 (a0_0 - 1))).bind fun t211 => (impl_TimesOfScoop.j0 k a1 a2 (!t211) a0_0 a0_1 a0_2)) = some (r1, r2) := by rw [if_pos rfl] at H; exact H
  clear H
  have H := H1
  clear H1
  replace H := Option.bind_eq_some_iff.mp H
  obtain ⟨t211, A80, H⟩ := H
  replace H : (impl_TimesOfScoop.j0 k a1 a2 (!t211) a0_0 a0_1 a0_2) = some (r1, r2) := H
  have A8 := Aside0.mk A80
  clear A80
  have H' := Aside0.mk H
  clear H
  have hcz9_0 := bc0 BK209
  have hcz9_1 := bc1 BK209
  have hcz9_2 := bc2 BK209
  have hfz9_0 := blk_frozen BK209.out 0
  have hfz9_1 := blk_frozen BK209.out 1
  have hfz9_2 := blk_frozen BK209.out 2
  go_wp2_with (first | ((with_reducible refine gate_callee (f := 136) rfl ?_); refine gl 12 Try.func136 #[.agg #[.int .i64 a0_0, .int .i64 a0_1, .int .i64 a0_2], .int .i64 a2] ?_; (with_reducible refine (impl_isTurned.calls a0_0 a0_1 a0_2 a2 true _ A6.out).mono ?_); rintro e w10 ⟨rfl, hb⟩; refine ⟨_, rfl, ?_⟩; replace BK209 := bb BK209 hb; replace HB := bs HB hb; (try clear hb); have hcz11_0 := bc0 BK209; have hcz11_1 := bc1 BK209; have hcz11_2 := bc2 BK209; have hfz11_0 := blk_frozen BK209.out 0; have hfz11_1 := blk_frozen BK209.out 1; have hfz11_2 := blk_frozen BK209.out 2) | (go_at_call 141; (with_reducible refine (impl_within.calls a1 0 (wrap64 (a0_0 - 1)) t211 _ A8.out).mono ?_); rintro e w' ⟨rfl, ⟨nd, rfl⟩⟩))
  go_meet
  case rel => exact ⟨_, (!t211), (by first | rfl | (simp; done) | (simp [*]; done)), H', ⟨by first | omega | exact Nat.le_refl _⟩, ⟨bk BK209⟩, ⟨bw HB⟩⟩
 case rest =>
  clear HC4
  try clear c1
  try clear c2
  try clear p2
  try clear p6
  try clear c7
  try clear c13
  try clear hcz11_0
  try clear hcz11_1
  try clear hcz11_2
  try clear hcz12_0
  try clear hcz12_1
  try clear hcz12_2
  try clear hcz9_0
  try clear hcz9_1
  try clear hcz9_2
  try clear hfz11_0
  try clear hfz11_1
  try clear hfz11_2
  try clear hfz12_0
  try clear hfz12_1
  try clear hfz12_2
  try clear hfz9_0
  try clear hfz9_1
  try clear hfz9_2
  obtain ⟨kq, x21_3, rfl, HA, HJ3, BK209, HB⟩ := hcut
  cases kq with
  | zero => exact absurd HA.out (by simp [impl_TimesOfScoop.j0])
  | succ kj3 =>
   have H := HA.out
   clear HA
   simp only [impl_TimesOfScoop.j0] at H
   by_cases c14 : x21_3 = true
   ·subst c14
    have H1 : (some (([] : List Int), false)) = some (r1, r2) := by rw [if_pos rfl] at H; exact H
    clear H
    have H := H1
    clear H1
    simp only [Option.some.injEq, Prod.mk.injEq] at H
    obtain ⟨rfl, rfl⟩ := H
    go_wp2
    go_ret2
    exact ⟨_, by first | rfl | (simp [errW_none, errW_some] <;> rfl) | (simp [*, errW_none, errW_some] <;> rfl), by first | exact Kd.R_nil _ _ _ _ _ | exact Kd.N_nil _ _ _ _ _ | exact Kd.V_nil _ _ _ _ _ | exact Kd.Q_nil _ _ _ _ _ | exact Kd.S_nil _ _ _ _ _, bw HB⟩
   replace c14 := Bool.eq_false_iff.mpr c14
   subst c14
   have H1 : ((impl_Wheel_ticks.f a0_0 a0_1 a0_2).bind fun t215 => (impl_TimesOfScoop.l0 kj3 a2 (([] : List Int)) (wrap64 ((wrap64 (a1 + 1)) * t215)) a0_0 a0_1 a0_2)) = some (r1, r2) := by rw [if_neg (show ¬ (false = true) by decide)] at H; exact H
   clear H
   have H := H1
   clear H1
   obtain ⟨y212, hy212⟩ : ∃ y_ : List Int, y_ = (([] : List Int)) := ⟨_, rfl⟩
   replace H : ((impl_Wheel_ticks.f a0_0 a0_1 a0_2).bind fun t215 => (impl_TimesOfScoop.l0 kj3 a2 y212 (wrap64 ((wrap64 (a1 + 1)) * t215)) a0_0 a0_1 a0_2)) = some (r1, r2) := by first | (rw [hy212]; with_reducible exact H) | (have H2_ := (Option.bind_some _ _).symm.trans H; rw [hy212]; with_reducible exact H2_) | (have H2_ := (Option.bind_some _ _).symm.trans H; with_reducible exact H2_) | with_reducible exact H | (rw [hy212]; exact H) | exact H
   have Ny212 := Aside0.mk hy212
   clear hy212
   replace H := Option.bind_eq_some_iff.mp H
   obtain ⟨t215, A150, H⟩ := H
   replace H : (impl_TimesOfScoop.l0 kj3 a2 y212 (wrap64 ((wrap64 (a1 + 1)) * t215)) a0_0 a0_1 a0_2) = some (r1, r2) := H
   have A15 := Aside0.mk A150
   clear A150
   have H' := Aside0.mk H
   clear H
   go_wp2_with (first | ((with_reducible refine gate_dst (N := 22) rfl ?_); refine Kd.R_lit (Kd.int .i64) _ 3 ?hg (N := 22) ?hd (xs := ([] : List Int)) (inner := []) (ok := fun _ => True) (okp := fun _ => True) ?hr ?hp (fun _ hk => hk) trivial (Below.refl _ _) (Nat.le_refl _) (by simp) ?_; (case hd => rfl); (case hg => rfl); (case hr => first | (go_simp; done) | (go_simp; rfl)); (case hp => exact (Reps.none _ _)); intro v213 w16 ho17 hb hg_ hnew_; clear hg_ hnew_; (first | rw [← Ny212.out] at ho17 | (simp only [Int.reduceToNat] at ho17; rw [← Ny212.out] at ho17)); have HO214 := lo ho17 HB; replace BK209 := bb BK209 hb; replace HB := bs HB hb; clear hb ho17; have hcz18_0 := bc0 BK209; have hcz18_1 := bc1 BK209; have hcz18_2 := bc2 BK209; have hfz18_0 := blk_frozen BK209.out 0; have hfz18_1 := blk_frozen BK209.out 1; have hfz18_2 := blk_frozen BK209.out 2) | ((with_reducible refine gate_callee (f := 137) rfl ?_); refine gl 26 Try.func137 #[.agg #[.int .i64 a0_0, .int .i64 a0_1, .int .i64 a0_2]] ?_; (with_reducible refine (impl_Wheel_ticks.calls a0_0 a0_1 a0_2 t215 _ A15.out).mono ?_); rintro e w19 ⟨rfl, hb⟩; refine ⟨_, rfl, ?_⟩; replace HO214 := rb HO214 hb; replace BK209 := bb BK209 hb; replace HB := bs HB hb; (try clear hb)))
   try simp only [Act.put, List.setIfInBounds_toArray, List.set_cons_zero, List.set_cons_succ]
   go_loopg [8, 9] kj3 (fun kq v8 v9 w' => ∃ (x8_2 : List Int) (x9_2 : Int), v9 = .int .i64 x9_2 ∧ Aside0 (impl_TimesOfScoop.l0 kq a2 x8_2 x9_2 a0_0 a0_1 a0_2 = some (r1, r2)) ∧ Aside0 (kq ≤ kj3) ∧ Aside0 (Kd.R (Kd.int .i64) 3 w' w.heap.size (fun _ => True) v8 x8_2) ∧ Aside0 (w'.heap[gb209]? = some (.cells #[.int .i64 a0_0, .int .i64 a0_1, .int .i64 a0_2] 25 (0, 0))) ∧ Aside0 (Below w.heap.size w w'))
   case atStart => exact ⟨(y212), (wrap64 ((wrap64 (a1 + 1)) * t215)), (by first | rfl | (simp; done) | (simp [*]; done)), H', ⟨Nat.le_refl _⟩, ⟨rk HO214⟩, ⟨bk BK209⟩, ⟨bw HB⟩⟩
   case round =>
    clear H'
    try clear c1
    try clear c2
    try clear p2
    try clear p6
    try clear c7
    try clear c13
    try clear c14
    try clear hcz11_0
    try clear hcz11_1
    try clear hcz11_2
    try clear hcz12_0
    try clear hcz12_1
    try clear hcz12_2
    try clear hcz18_0
    try clear hcz18_1
    try clear hcz18_2
    try clear hcz9_0
    try clear hcz9_1
    try clear hcz9_2
    try clear hfz11_0
    try clear hfz11_1
    try clear hfz11_2
    try clear hfz12_0
    try clear hfz12_1
    try clear hfz12_2
    try clear hfz18_0
    try clear hfz18_1
    try clear hfz18_2
    try clear hfz9_0
    try clear hfz9_1
    try clear hfz9_2
    try clear p2
    try clear p6
    obtain ⟨x8_2, x9_2, rfl, HA, HK2, HO_8, BK209, HB⟩ := hrel
    cases gk with
    | zero => exact absurd HA.out (by simp [impl_TimesOfScoop.l0])
    | succ k2 =>
     have H := HA.out
     clear HA
     simp only [impl_TimesOfScoop.l0] at H
     by_cases c20 : x9_2 ≤ a2
     rotate_left
     ·rw [if_neg c20] at H
      have c20b0 : decide (x9_2 ≤ a2) = false := decide_eq_false c20
      clear c20
      by_cases c26 : (x8_2.length : Int) > 500
      rotate_left
      ·rw [if_neg c26] at H
       have c26b0 : decide (500 < (x8_2.length : Int)) = false := decide_eq_false c26
       have c26b1 : decide (500 < x8_2.length) = false := decide_eq_false (by omega)
       clear c26
       simp only [Option.some.injEq, Prod.mk.injEq] at H
       obtain ⟨rfl, rfl⟩ := H
       obtain ⟨Ao28, co28, eo28⟩ := Kd.R_slice HO_8.out
       subst eo28
       go_wp2
       go_ret2
       exact ⟨_, by first | rfl | (simp [errW_none, errW_some] <;> rfl) | (simp [*, errW_none, errW_some] <;> rfl), rk HO_8, bw HB⟩
      rw [if_pos c26] at H
      have c26b0 : decide (500 < (x8_2.length : Int)) = true := decide_eq_true c26
      have c26b1 : decide (500 < x8_2.length) = true := decide_eq_true (by omega)
      clear c26
      simp only [Option.some.injEq, Prod.mk.injEq] at H
      obtain ⟨rfl, rfl⟩ := H
      obtain ⟨Ao27, co27, eo27⟩ := Kd.R_slice HO_8.out
      subst eo27
      go_wp2
      go_ret2
      exact ⟨_, by first | rfl | (simp [errW_none, errW_some] <;> rfl) | (simp [*, errW_none, errW_some] <;> rfl), by first | exact Kd.R_nil _ _ _ _ _ | exact Kd.N_nil _ _ _ _ _ | exact Kd.V_nil _ _ _ _ _ | exact Kd.Q_nil _ _ _ _ _ | exact Kd.S_nil _ _ _ _ _, bw HB⟩
     rw [if_pos c20] at H
     have c20b0 : decide (x9_2 ≤ a2) = true := decide_eq_true c20
     clear c20
     by_cases c21 : x8_2.length < 17592186044416
     rotate_left
     ·rw [if_neg c21] at H
      exact absurd H (by simp)
     rw [if_pos c21] at H
     have LMc21 := Aside0.mk c21
     clear c21
     obtain ⟨y216, hy216⟩ : ∃ y_ : List Int, y_ = (x8_2 ++ [x9_2]) := ⟨_, rfl⟩
     replace H : ((impl_Wheel_ticks.f a0_0 a0_1 a0_2).bind fun t219 => (impl_TimesOfScoop.l0 k2 a2 y216 (wrap64 (x9_2 + (wrap64 (t219 * a0_0)))) a0_0 a0_1 a0_2)) = some (r1, r2) := by first | (rw [hy216]; with_reducible exact H) | (have H2_ := (Option.bind_some _ _).symm.trans H; rw [hy216]; with_reducible exact H2_) | (have H2_ := (Option.bind_some _ _).symm.trans H; with_reducible exact H2_) | with_reducible exact H | (rw [hy216]; exact H) | exact H
     have Ny216 := Aside0.mk hy216
     clear hy216
     replace H := Option.bind_eq_some_iff.mp H
     obtain ⟨t219, A220, H⟩ := H
     replace H : (impl_TimesOfScoop.l0 k2 a2 y216 (wrap64 (x9_2 + (wrap64 (t219 * a0_0)))) a0_0 a0_1 a0_2) = some (r1, r2) := H
     have A22 := Aside0.mk A220
     clear A220
     have H' := Aside0.mk H
     clear H
     try go_wp2_with (first | ((with_reducible refine gate_builtin (b := .append) (xs := #[.tmp 38, .tmp 40]) rfl ?_); at_builtin; refine Kd.R_append (Kd.int .i64) (w0 := w) w.heap.size rfl (.tmp 38) (.tmp 40) 34 3 (.int .i64 0) 8 rfl Try.underlying34 info3 rfl (by decide) (by omega) u8 x8_2 x9_2 [.int .i64 x9_2] (fun _ => True) (fun _ => False) rfl rfl ?aP (fun _ hk => hk.elim) ?aF ?aO ?aB ?aS ?aL ?_; (case aP => exact rfl); (case aB => exact (bw HB)); (case aF => exact (fun _ _ => trivial)); (case aO => exact (rk HO_8)); (case aS => exact (below_size (bw HB))); (case aL => have := LMc21.out; omega); intro v217 w23 ho hb hg hat; rw [← Ny216.out] at ho; have n0_ := Aside0.mk (blk_grown (g := gb209) (o := .cells #[.int .i64 a0_0, .int .i64 a0_1, .int .i64 a0_2] 25 (0, 0)) (bk BK209) hg (Kd.R_ne HO_8.out BK209.out (by decide))); have n1_ := Aside0.mk (hb); have n2_ := Aside0.mk (ho); clear BK209; clear HB; clear HO_8; have BK209 := n0_; have HB := n1_; have HO218 := n2_; clear n0_ n1_ n2_; clear ho hb hg hat))
     replace HO218 := Aside0.mk (Kd.R_drew HO218.out)
     replace BK209 := Aside0.mk (blk_drew BK209.out)
     replace HB := Aside0.mk (below_drew1 HB.out)
     refine start_ (n := 8) (S := fun w' => w'.cell? ⟨gb209, 0, none⟩ = some (.int .i64 a0_0) ∧ w'.cell? ⟨gb209, 1, none⟩ = some (.int .i64 a0_1) ∧ w'.cell? ⟨gb209, 2, none⟩ = some (.int .i64 a0_2)) (ds := []) (bl 8 0) (by kernel_rfl) rfl rfl ⟨bc0 BK209, bc1 BK209, bc2 BK209⟩ (fun hHeld => ?_); refine with_tabW impl_TimesOfScoop.tab6 impl_TimesOfScoop.bits6 (fun HT_ HW_ => ?_)
     generalize w23.drew = w24 at HO218 BK209 HB hHeld ⊢
     refine pu 0 31 (bl 8 1) HT_.out (v := ?_) (a' := ?_) ?_ ?_ ?_
     rotate_left
     ·intro w'
      go_simp
      with_reducible rfl
     rotate_left
     ·simp only [Act.put, List.setIfInBounds_toArray, List.set_cons_zero, List.set_cons_succ, i64_w, i32_w]
      rfl
     refine pu 3 34 (bl 8 9) HT_.out (v := ?_) (a' := ?_) ?_ ?_ ?_
     rotate_left
     ·intro w'
      go_simp
      with_reducible rfl
     rotate_left
     ·simp only [Act.put, List.setIfInBounds_toArray, List.set_cons_zero, List.set_cons_succ, i64_w, i32_w]
      rfl
     refine tk 1 32 (bl 8 11) HT_.out HW_.out hHeld (v := ?_) (a' := ?_) ?_ ?_ ?_
     rotate_left
     ·rintro w' ⟨s0, s1, s2⟩
      go_simp
      with_reducible rfl
     rotate_left
     ·simp only [Act.put, List.setIfInBounds_toArray, List.set_cons_zero, List.set_cons_succ, i64_w, i32_w]
      rfl
     refine tk 4 35 (bl 8 27) HT_.out HW_.out hHeld (v := ?_) (a' := ?_) ?_ ?_ ?_
     rotate_left
     ·rintro w' ⟨s0, s1, s2⟩
      go_simp
      with_reducible rfl
     rotate_left
     ·simp only [Act.put, List.setIfInBounds_toArray, List.set_cons_zero, List.set_cons_succ, i64_w, i32_w]
      rfl
     refine on 2 33 (bl 8 31) HT_.out (fun K hK => ?_)
     refine gs Try.func137 #[.agg #[.int .i64 a0_0, .int .i64 a0_1, .int .i64 a0_2]] ?_
     with_reducible refine (impl_Wheel_ticks.calls a0_0 a0_1 a0_2 t219 _ A22.out).mono ?_
     rintro e w25 ⟨rfl, hb⟩
     refine ⟨_, rfl, ?_⟩
     replace HO218 := rb HO218 hb
     replace BK209 := bb BK209 hb
     replace HB := bs HB hb
     (try clear hb)
     (try clear hb2)
     (try clear hk)
     (try clear hi)
     refine hK.out _ _ ⟨bc0 BK209, bc1 BK209, bc2 BK209⟩ (fun hHeld => ?_)
     clear hK K
     refine norm_ (a' := ?_) ?_ ?_
     rotate_left
     ·show Act.put _ (some 33) _ = _
      simp only [Act.put, List.setIfInBounds_toArray, List.set_cons_zero, List.set_cons_succ, i64_w, i32_w]
      rfl
     refine pu 5 36 (bl 8 63) HT_.out (v := ?_) (a' := ?_) ?_ ?_ ?_
     rotate_left
     ·intro w'
      go_simp
      with_reducible rfl
     rotate_left
     ·simp only [Act.put, List.setIfInBounds_toArray, List.set_cons_zero, List.set_cons_succ, i64_w, i32_w]
      rfl
     refine pu 6 37 (bl 8 127) HT_.out (v := ?_) (a' := ?_) ?_ ?_ ?_
     rotate_left
     ·intro w'
      go_simp
      with_reducible rfl
     rotate_left
     ·simp only [Act.put, List.setIfInBounds_toArray, List.set_cons_zero, List.set_cons_succ, i64_w, i32_w]
      rfl
     refine pu 7 9 (bl 8 255) HT_.out (v := ?_) (a' := ?_) ?_ ?_ ?_
     rotate_left
     ·intro w'
      go_simp
      with_reducible rfl
     rotate_left
     ·simp only [Act.put, List.setIfInBounds_toArray, List.set_cons_zero, List.set_cons_succ, i64_w, i32_w]
      rfl
     refine done_ (done_of HT_.out (by kernel_rfl)) ?_
     try go_wp2
     go_roundg k2
     case measure => have := HJ3.out; have := HK2.out; omega
     case rel => exact ⟨(y216), (wrap64 (x9_2 + (wrap64 (t219 * a0_0)))), (by first | rfl | (simp; done) | (simp [*]; done)), H', ⟨by have := HJ3.out; have := HK2.out; omega⟩, ⟨rk HO218⟩, ⟨bk BK209⟩, ⟨bw HB⟩⟩

/-! ### spec_DrawTimesOfScoop: function 21 -/
def spec_DrawTimesOfScoop.f (l0 : List Int) : Option (Int × Int × Int × Int × Int) := (spec_l1Cur_wheel.f l0 0 0).bind fun bt222 => ((spec_l1Cur_pick.f l0 bt222.2.2.2.1 bt222.2.2.2.2 6).bind fun bt227 => ((spec_l1Cur_time.f l0 bt227.2.1 bt227.2.2).bind fun bt230 => (some (bt222.1, bt222.2.1, bt222.2.2.1, wrap64 (bt227.1 - 1), bt230.1))))
set_option maxHeartbeats 8000000 in
set_option maxRecDepth 100000 in
theorem spec_DrawTimesOfScoop.calls (A0 : Option Addr) (c0 : Nat) (l0 : List Int) (r1 : Int) (r2 : Int) (r3 : Int) (r4 : Int) (r5 : Int) (w : World) (hr0 : Kd.C (Kd.int .u8) w A0 l0.length l0) (hc0 : l0.length ≤ c0) (h : spec_DrawTimesOfScoop.f l0 = some (r1, r2, r3, r4, r5)) :
  Calls Try.prog 21 #[.slice A0 l0.length c0] w fun e w' => e = .returned (.tuple #[.agg #[.int .i64 r1, .int .i64 r2, .int .i64 r3], .int .i64 r4, .int .i64 r5]) ∧ Below w.heap.size w w' := by
 have hu25 := Try.underlying25
 have hu140 := Try.underlying140
 have HR0 := Aside0.mk hr0
 have HC0 := Aside0.mk hc0
 clear hr0 hc0
 have HB := Aside0.mk (Below.refl w.heap.size w)
 have H : ((spec_l1Cur_wheel.f l0 0 0).bind fun bt222 => ((spec_l1Cur_pick.f l0 bt222.2.2.2.1 bt222.2.2.2.2 6).bind fun bt227 => ((spec_l1Cur_time.f l0 bt227.2.1 bt227.2.2).bind fun bt230 => (some (bt222.1, bt222.2.1, bt222.2.2.1, wrap64 (bt227.1 - 1), bt230.1))))) = some (r1, r2, r3, r4, r5) := h
 clear h
 replace H := Option.bind_eq_some_iff.mp H
 obtain ⟨⟨t222, t223, t224, t225, t226⟩, A20, H⟩ := H
 replace H : ((spec_l1Cur_pick.f l0 t225 t226 6).bind fun bt227 => ((spec_l1Cur_time.f l0 bt227.2.1 bt227.2.2).bind fun bt230 => (some (t222, t223, t224, wrap64 (bt227.1 - 1), bt230.1)))) = some (r1, r2, r3, r4, r5) := H
 have A2 := Aside0.mk A20
 clear A20
 replace H := Option.bind_eq_some_iff.mp H
 obtain ⟨⟨t227, t228, t229⟩, A30, H⟩ := H
 replace H : ((spec_l1Cur_time.f l0 t228 t229).bind fun bt230 => (some (t222, t223, t224, wrap64 (t227 - 1), bt230.1))) = some (r1, r2, r3, r4, r5) := H
 have A3 := Aside0.mk A30
 clear A30
 replace H := Option.bind_eq_some_iff.mp H
 obtain ⟨⟨t230, t231, t232⟩, A40, H⟩ := H
 replace H : (some (t222, t223, t224, wrap64 (t227 - 1), t230)) = some (r1, r2, r3, r4, r5) := H
 have A4 := Aside0.mk A40
 clear A40
 simp only [Option.some.injEq, Prod.mk.injEq] at H
 obtain ⟨rfl, rfl, rfl, rfl, rfl⟩ := H
 go_enter Try.func21, Try.ntmps21
 go_wp2_with (first | ((with_reducible refine gate_dst (N := 2) rfl ?_); refine bx 2 #[.int .i64 0, .int .i64 0, .int .i64 0] 25 ?_; intro gb220 hg w5 hbox hb; have BK220 := Aside0.mk (hbox); have GW220 := ge HB hg; have GE220 := ge HB hg; replace HB := bs HB hb; clear hb hbox hg) | ((with_reducible refine gate_dst (N := 8) rfl ?_); refine bx 8 #[.slice A0 l0.length c0, .int .i64 0, .int .u64 0] 140 ?_; intro gb221 hg w6 hbox hb; have HI221 := Aside0.mk ((⟨_, _, hbox, (by rw [hg]; exact (below_size (bw HB)) : w.heap.size ≤ gb221), HR0.out⟩ : IsS140 w _ gb221 l0 0 0)); replace HB := bs HB hb; have NB220_221 := nl BK220 hg; have NB221_220 := nr BK220 hg; replace BK220 := bb BK220 hb; clear hb hbox hg) | ((with_reducible refine gate_callee (f := 134) rfl ?_); refine gl 10 Try.func134 #[.pointer (some ⟨gb221, 0, none⟩)] ?_; (with_reducible refine (spec_l1Cur_wheel.calls gb221 l0 0 0 t222 t223 t224 t225 t226 w _ ?side1 ?side2 A2.out).mono ?_); (case side1 => repeat (first | (with_reducible first | exact HI221.out | apply IsS140.alloc | apply IsS140.drewN | apply IsS140.drew | apply IsS140.set_1 | apply IsS140.set_2 | refine IsS140.far ?_ NB221_220.out _) | exact HI221.out)); (case side2 => repeat (first | (with_reducible first | exact HB.out | apply below_alloc | apply pw_below_drewN | apply below_drew1 | refine below_set ?_ (IsS140.ge HI221.out) | refine below_set ?_ GE220.out) | exact HB.out)); rintro e w7 ⟨rfl, hi, hb, hk⟩; refine ⟨_, rfl, ?_⟩; replace BK220 := Aside0.mk (KeepBut.blk hk (g' := gb220) (o := .cells #[.int .i64 0, .int .i64 0, .int .i64 0] 25 (0, 0)) (bk BK220) NB220_221.out (by simp)); replace HB := Aside0.mk (hb); replace HI221 := Aside0.mk (hi); (try clear hb); (try clear hk); (try clear hi)) | ((with_reducible refine gate_callee (f := 142) rfl ?_); refine gl 12 Try.func142 #[.pointer (some ⟨gb221, 0, none⟩), .int .i64 6] ?_; (with_reducible refine (spec_l1Cur_pick.calls gb221 l0 t225 t226 6 t227 t228 t229 w _ ?side1 ?side2 A3.out).mono ?_); (case side1 => repeat (first | (with_reducible first | exact HI221.out | apply IsS140.alloc | apply IsS140.drewN | apply IsS140.drew | apply IsS140.set_1 | apply IsS140.set_2 | refine IsS140.far ?_ NB221_220.out _) | exact HI221.out)); (case side2 => repeat (first | (with_reducible first | exact HB.out | apply below_alloc | apply pw_below_drewN | apply below_drew1 | refine below_set ?_ (IsS140.ge HI221.out) | refine below_set ?_ GE220.out) | exact HB.out)); rintro e w8 ⟨rfl, hi, hb, hk⟩; refine ⟨_, rfl, ?_⟩; replace BK220 := Aside0.mk (KeepBut.blk hk (g' := gb220) (o := .cells #[.int .i64 0, .int .i64 0, .int .i64 0] 25 (0, 0)) (bk BK220) NB220_221.out (by simp)); replace HB := Aside0.mk (hb); replace HI221 := Aside0.mk (hi); (try clear hb); (try clear hk); (try clear hi)) | ((with_reducible refine gate_callee (f := 135) rfl ?_); refine gl 15 Try.func135 #[.pointer (some ⟨gb221, 0, none⟩)] ?_; (with_reducible refine (spec_l1Cur_time.calls gb221 l0 t228 t229 t230 t231 t232 w _ ?side1 ?side2 A4.out).mono ?_); (case side1 => repeat (first | (with_reducible first | exact HI221.out | apply IsS140.alloc | apply IsS140.drewN | apply IsS140.drew | apply IsS140.set_1 | apply IsS140.set_2 | refine IsS140.far ?_ NB221_220.out _) | exact HI221.out)); (case side2 => repeat (first | (with_reducible first | exact HB.out | apply below_alloc | apply pw_below_drewN | apply below_drew1 | refine below_set ?_ (IsS140.ge HI221.out) | refine below_set ?_ GE220.out) | exact HB.out)); rintro e w9 ⟨rfl, hi, hb, hk⟩; refine ⟨_, rfl, ?_⟩; replace BK220 := Aside0.mk (KeepBut.blk hk (g' := gb220) (o := .cells #[.int .i64 0, .int .i64 0, .int .i64 0] 25 (0, 0)) (bk BK220) NB220_221.out (by simp)); replace HB := Aside0.mk (hb); replace HI221 := Aside0.mk (hi); (try clear hb); (try clear hk); (try clear hi); have hnb10 := NB220_221.out; have hnc10 := NB221_220.out; have hcz11_0 := bc0 BK220; have hcz11_1 := bc1 BK220; have hcz11_2 := bc2 BK220; have hfz11_0 := blk_frozen BK220.out 0; have hfz11_1 := blk_frozen BK220.out 1; have hfz11_2 := blk_frozen BK220.out 2))
 refine bodyPost_ret (results_ctt rfl _ _ gb220 25 #[.int .i64 t222, .int .i64 t223, .int .i64 t224] (0, 0) _ rfl (by (with_reducible repeat (first | refine blk_drewN ?_ _ | refine blk_drew ?_ | refine blk_alloc ?_ _)); refine blk_put (cs := #[.int .i64 t222, .int .i64 t223, .int .i64 0]) ?_ 2 _ rfl; (with_reducible repeat (first | refine blk_drewN ?_ _ | refine blk_drew ?_ | refine blk_alloc ?_ _)); refine blk_put (cs := #[.int .i64 t222, .int .i64 0, .int .i64 0]) ?_ 1 _ rfl; (with_reducible repeat (first | refine blk_drewN ?_ _ | refine blk_drew ?_ | refine blk_alloc ?_ _)); refine blk_put (cs := #[.int .i64 0, .int .i64 0, .int .i64 0]) ?_ 0 _ rfl; exact bk BK220) Try.underlying25 rfl (by kernel_rfl)) rfl ?_
 exact ⟨by first | rfl | (simp [errW_none, errW_some] <;> rfl) | (simp [*, errW_none, errW_some] <;> rfl), by repeat (first | (with_reducible first | exact HB.out | apply below_alloc | apply pw_below_drewN | apply below_drew1 | refine below_set ?_ (IsS140.ge HI221.out) | refine below_set ?_ GE220.out) | exact HB.out)⟩

/-! ### spec_TimesOfScoop: function 22 -/
mutual
def spec_TimesOfScoop.j0 : Nat → Int → Int → Bool → Int → Int → Int → Option (List Int × Bool)
 | 0, _, _, _, _, _, _ => none
 | k + 1, x1, x2, x25, x234000, x234001, x234002 => if x25 = true then (some (([] : List Int), false)) else ((spec_ckFill.f x234000 x234001 x234002).bind fun t237 => (spec_TimesOfScoop.l0 k x2 ([] : List Int) (wrap64 ((wrap64 (x1 + 1)) * t237)) x234000 x234001 x234002))
def spec_TimesOfScoop.l0 : Nat → Int → List Int → Int → Int → Int → Int → Option (List Int × Bool)
 | 0, _, _, _, _, _, _ => none
 | k + 1, x2, x8, x9, x234000, x234001, x234002 => if x9 ≤ x2 then (if x8.length < 17592186044416 then ((some (x8 ++ [x9] : List Int)).bind fun y238 => (if (y238.length : Int) > 500 then (some (([] : List Int), false)) else ((spec_ckFill.f x234000 x234001 x234002).bind fun t241 => (spec_TimesOfScoop.l0 k x2 y238 (wrap64 (x9 + (wrap64 (x234000 * t241)))) x234000 x234001 x234002)))) else (none)) else (some (x8, true))
end
def spec_TimesOfScoop.f (k : Nat) (a0_0 : Int) (a0_1 : Int) (a0_2 : Int) (a1 : Int) (a2 : Int) : Option (List Int × Bool) := (spec_ckWheel.f a0_0 a0_1 a0_2).bind fun t234 => (if t234 = true then ((spec_l1In.f a1 0 (wrap64 (a0_0 - 1))).bind fun t235 => (if t235 = true then ((spec_ckTime.f a2).bind fun t236 => (spec_TimesOfScoop.j0 k a1 a2 (!t236) a0_0 a0_1 a0_2)) else (spec_TimesOfScoop.j0 k a1 a2 true a0_0 a0_1 a0_2))) else (spec_TimesOfScoop.j0 k a1 a2 true a0_0 a0_1 a0_2))
theorem spec_TimesOfScoop.mono_l : ∀ k, (∀ y0 y1 y2 y3 y4 y5, LeO (spec_TimesOfScoop.j0 k y0 y1 y2 y3 y4 y5) (spec_TimesOfScoop.j0 (k + 1) y0 y1 y2 y3 y4 y5)) ∧ (∀ y0 y1 y2 y3 y4 y5, LeO (spec_TimesOfScoop.l0 k y0 y1 y2 y3 y4 y5) (spec_TimesOfScoop.l0 (k + 1) y0 y1 y2 y3 y4 y5))
 | 0 => ⟨fun _ _ _ _ _ _ r h => by simp [spec_TimesOfScoop.j0] at h, fun _ _ _ _ _ _ r h => by simp [spec_TimesOfScoop.l0] at h⟩
 | k + 1 => by
  obtain ⟨ih0, ih1⟩ := spec_TimesOfScoop.mono_l k
  refine ⟨?_, ?_⟩
  ·intro y0 y1 y2 y3 y4 y5
   unfold spec_TimesOfScoop.j0
   repeat' first
   | (with_reducible exact ih0 _ _ _ _ _ _)
   | (with_reducible exact ih1 _ _ _ _ _ _)
   | (with_reducible exact LeO.refl _)
   | (with_reducible exact LeO.none _)
   | (with_reducible refine LeO.ite ?_ ?_)
   | (with_reducible refine LeO.bind ?_ (fun _ => ?_))
   | exact ih0 _ _ _ _ _ _
   | exact ih1 _ _ _ _ _ _
   | exact LeO.none _
   | refine LeO.ite ?_ ?_
   | refine LeO.bind ?_ (fun _ => ?_)
  ·intro y0 y1 y2 y3 y4 y5
   unfold spec_TimesOfScoop.l0
   repeat' first
   | (with_reducible exact ih0 _ _ _ _ _ _)
   | (with_reducible exact ih1 _ _ _ _ _ _)
   | (with_reducible exact LeO.refl _)
   | (with_reducible exact LeO.none _)
   | (with_reducible refine LeO.ite ?_ ?_)
   | (with_reducible refine LeO.bind ?_ (fun _ => ?_))
   | exact ih0 _ _ _ _ _ _
   | exact ih1 _ _ _ _ _ _
   | exact LeO.none _
   | refine LeO.ite ?_ ?_
   | refine LeO.bind ?_ (fun _ => ?_)
theorem spec_TimesOfScoop.mono : ∀ a0 a1 a2 a3 a4 k, LeO (spec_TimesOfScoop.f k a0 a1 a2 a3 a4) (spec_TimesOfScoop.f (k + 1) a0 a1 a2 a3 a4) := by
 intro a0 a1 a2 a3 a4 k
 obtain ⟨ih0, ih1⟩ := spec_TimesOfScoop.mono_l k
 unfold spec_TimesOfScoop.f
 repeat' first
   | (with_reducible exact ih0 _ _ _ _ _ _)
   | (with_reducible exact ih1 _ _ _ _ _ _)
   | (with_reducible exact LeO.refl _)
   | (with_reducible exact LeO.none _)
   | (with_reducible refine LeO.ite ?_ ?_)
   | (with_reducible refine LeO.bind ?_ (fun _ => ?_))
   | exact ih0 _ _ _ _ _ _
   | exact ih1 _ _ _ _ _ _
   | exact LeO.none _
   | refine LeO.ite ?_ ?_
   | refine LeO.bind ?_ (fun _ => ?_)
def spec_TimesOfScoop.T6 : Bool × List (List Nat × List Nat) := (true, [([], []), ([], []), ([1], [1]), ([], []), ([3], [3]), ([2, 4], [2, 4]), ([0, 5], [0, 5]), ([6, 4, 0, 1, 2, 3, 4, 5, 6], [0, 6])])
def spec_TimesOfScoop.B6 : List Nat := [0, 0, 2, 0, 8, 30, 63, 127]
theorem spec_TimesOfScoop.tab6 : rtab .any (opsOf Try.f22 6) = spec_TimesOfScoop.T6 := by kernel_rfl
theorem spec_TimesOfScoop.bits6 : waitsOk spec_TimesOfScoop.T6.2 spec_TimesOfScoop.B6 = true := by kernel_rfl
set_option maxHeartbeats 8000000 in
set_option maxRecDepth 100000 in
theorem spec_TimesOfScoop.calls (k : Nat) (a0_0 : Int) (a0_1 : Int) (a0_2 : Int) (a1 : Int) (a2 : Int) (r1 : List Int) (r2 : Bool) (w : World) (h : spec_TimesOfScoop.f k a0_0 a0_1 a0_2 a1 a2 = some (r1, r2)) :
  Calls Try.prog 22 #[.agg #[.int .i64 a0_0, .int .i64 a0_1, .int .i64 a0_2], .int .i64 a1, .int .i64 a2] w fun e w' => ∃ v0_ : Value, e = .returned (.tuple #[v0_, .bool r2]) ∧ Kd.R (Kd.int .i64) 3 w' w.heap.size (fun _ => True) v0_ r1 ∧ Below w.heap.size w w' := by
 have hu25 := Try.underlying25
 have HB := Aside0.mk (Below.refl w.heap.size w)
 have H : ((spec_ckWheel.f a0_0 a0_1 a0_2).bind fun t234 => (if t234 = true then ((spec_l1In.f a1 0 (wrap64 (a0_0 - 1))).bind fun t235 => (if t235 = true then ((spec_ckTime.f a2).bind fun t236 => (spec_TimesOfScoop.j0 k a1 a2 (!t236) a0_0 a0_1 a0_2)) else (spec_TimesOfScoop.j0 k a1 a2 true a0_0 a0_1 a0_2))) else (spec_TimesOfScoop.j0 k a1 a2 true a0_0 a0_1 a0_2))) = some (r1, r2) := h
 clear h
 have HC4 := Aside0.mk H
 clear H
 go_enter Try.func22, Try.ntmps22
 go_upto_region 1 with (first | ((with_reducible refine gate_dst (N := 3) rfl ?_); refine bx 3 #[.int .i64 a0_0, .int .i64 a0_1, .int .i64 a0_2] 25 ?_; intro gb233 hg w5 hbox hb; have BK233 := Aside0.mk (hbox); have GW233 := ge HB hg; have GE233 := ge HB hg; replace HB := bs HB hb; clear hb hbox hg))
 (try simp only [Act.put, List.setIfInBounds_toArray, List.set_cons_zero, List.set_cons_succ])
 go_cut [25] (fun v25 wc => ∃ (kq : Nat) (x25_3 : Bool), v25 = .bool x25_3 ∧ Aside0 (spec_TimesOfScoop.j0 kq a1 a2 x25_3 a0_0 a0_1 a0_2 = some (r1, r2)) ∧ Aside0 (kq ≤ k) ∧ Aside0 (wc.heap[gb233]? = some (.cells #[.int .i64 a0_0, .int .i64 a0_1, .int .i64 a0_2] 25 (0, 0))) ∧ Aside0 (Below w.heap.size w wc))
 case first =>
  have H := HC4.out
  clear HC4
  replace H := Option.bind_eq_some_iff.mp H
  obtain ⟨t234, A60, H⟩ := H
  replace H : (if t234 = true then ((spec_l1In.f a1 0 (wrap64 (a0_0 - 1))).bind fun t235 => (if t235 = true then ((spec_ckTime.f a2).bind fun t236 => (spec_TimesOfScoop.j0 k a1 a2 (!t236) a0_0 a0_1 a0_2)) else (spec_TimesOfScoop.j0 k a1 a2 true a0_0 a0_1 a0_2))) else (spec_TimesOfScoop.j0 k a1 a2 true a0_0 a0_1 a0_2)) = some (r1, r2) := H
  have A6 := Aside0.mk A60
  clear A60
  by_cases c7 : t234 = true
  rotate_left
  ·replace c7 := Bool.eq_false_iff.mpr c7
   subst c7
   have H1 : (spec_TimesOfScoop.j0 k a1 a2 true a0_0 a0_1 a0_2) = some (r1, r2) := by rw [if_neg (show ¬ (false = true) by decide)] at H; exact H
   clear H
   have H := H1
   clear H1
   have H' := Aside0.mk H
   clear H
   have hcz17_0 := bc0 BK233
   have hcz17_1 := bc1 BK233
   have hcz17_2 := bc2 BK233
   have hfz17_0 := blk_frozen BK233.out 0
   have hfz17_1 := blk_frozen BK233.out 1
   have hfz17_2 := blk_frozen BK233.out 2
   go_wp2_with (first | ((with_reducible refine gate_callee (f := 138) rfl ?_); refine gl 11 Try.func138 #[.agg #[.int .i64 a0_0, .int .i64 a0_1, .int .i64 a0_2]] ?_; (with_reducible refine (spec_ckWheel.calls a0_0 a0_1 a0_2 false _ A6.out).mono ?_); rintro e w18 ⟨rfl, hb⟩; refine ⟨_, rfl, ?_⟩; replace BK233 := bb BK233 hb; replace HB := bs HB hb; (try clear hb)))
   go_meet
   case rel => exact ⟨_, (true), (by first | rfl | (simp; done) | (simp [*]; done)), H', ⟨by first | omega | exact Nat.le_refl _⟩, ⟨bk BK233⟩, ⟨bw HB⟩⟩
  subst c7
  have H1 : ((spec_l1In.f a1 0 (wrap64 (a0_0 - 1))).bind fun t235 => (if t235 = true then ((spec_ckTime.f a2).bind fun t236 => (spec_TimesOfScoop.j0 k a1 a2 (!t236) a0_0 a0_1 a0_2)) else (spec_TimesOfScoop.j0 k a1 a2 true a0_0 a0_1 a0_2))) = some (r1, r2) := by rw [if_pos rfl] at H; exact H
  clear H
  have H := H1
  clear H1
  replace H := Option.bind_eq_some_iff.mp H
  obtain ⟨t235, A80, H⟩ := H
  replace H : (if t235 = true then ((spec_ckTime.f a2).bind fun t236 => (spec_TimesOfScoop.j0 k a1 a2 (!t236) a0_0 a0_1 a0_2)) else (spec_TimesOfScoop.j0 k a1 a2 true a0_0 a0_1 a0_2)) = some (r1, r2) := H
  have A8 := Aside0.mk A80
  clear A80
  by_cases c9 : t235 = true
  rotate_left
  ·replace c9 := Bool.eq_false_iff.mpr c9
   subst c9
   have H1 : (spec_TimesOfScoop.j0 k a1 a2 true a0_0 a0_1 a0_2) = some (r1, r2) := by rw [if_neg (show ¬ (false = true) by decide)] at H; exact H
   clear H
   have H := H1
   clear H1
   have H' := Aside0.mk H
   clear H
   have hcz14_0 := bc0 BK233
   have hcz14_1 := bc1 BK233
   have hcz14_2 := bc2 BK233
   have hfz14_0 := blk_frozen BK233.out 0
   have hfz14_1 := blk_frozen BK233.out 1
   have hfz14_2 := blk_frozen BK233.out 2
   go_wp2_with (first | ((with_reducible refine gate_callee (f := 138) rfl ?_); refine gl 11 Try.func138 #[.agg #[.int .i64 a0_0, .int .i64 a0_1, .int .i64 a0_2]] ?_; (with_reducible refine (spec_ckWheel.calls a0_0 a0_1 a0_2 true _ A6.out).mono ?_); rintro e w15 ⟨rfl, hb⟩; refine ⟨_, rfl, ?_⟩; replace BK233 := bb BK233 hb; replace HB := bs HB hb; (try clear hb); have hcz16_0 := bc0 BK233; have hcz16_1 := bc1 BK233; have hcz16_2 := bc2 BK233; have hfz16_0 := blk_frozen BK233.out 0; have hfz16_1 := blk_frozen BK233.out 1; have hfz16_2 := blk_frozen BK233.out 2) | (go_at_call 143; (with_reducible refine (spec_l1In.calls a1 0 (wrap64 (a0_0 - 1)) false _ A8.out).mono ?_); rintro e w' ⟨rfl, ⟨nd, rfl⟩⟩))
   go_meet
   case rel => exact ⟨_, (true), (by first | rfl | (simp; done) | (simp [*]; done)), H', ⟨by first | omega | exact Nat.le_refl _⟩, ⟨bk BK233⟩, ⟨bw HB⟩⟩
  subst c9
  have H1 : ((spec_ckTime.f a2).bind fun t236 => (spec_TimesOfScoop.j0 k a1 a2 (!t236) a0_0 a0_1 a0_2)) = some (r1, r2) := by rw [if_pos rfl] at H; exact H
  clear H
  have H := H1
  clear H1
  replace H := Option.bind_eq_some_iff.mp H
  obtain ⟨t236, A100, H⟩ := H
  replace H : (spec_TimesOfScoop.j0 k a1 a2 (!t236) a0_0 a0_1 a0_2) = some (r1, r2) := H
  have A10 := Aside0.mk A100
  clear A100
  have H' := Aside0.mk H
  clear H
  have hcz11_0 := bc0 BK233
  have hcz11_1 := bc1 BK233
  have hcz11_2 := bc2 BK233
  have hfz11_0 := blk_frozen BK233.out 0
  have hfz11_1 := blk_frozen BK233.out 1
  have hfz11_2 := blk_frozen BK233.out 2
  go_wp2_with (first | ((with_reducible refine gate_callee (f := 138) rfl ?_); refine gl 11 Try.func138 #[.agg #[.int .i64 a0_0, .int .i64 a0_1, .int .i64 a0_2]] ?_; (with_reducible refine (spec_ckWheel.calls a0_0 a0_1 a0_2 true _ A6.out).mono ?_); rintro e w12 ⟨rfl, hb⟩; refine ⟨_, rfl, ?_⟩; replace BK233 := bb BK233 hb; replace HB := bs HB hb; (try clear hb); have hcz13_0 := bc0 BK233; have hcz13_1 := bc1 BK233; have hcz13_2 := bc2 BK233; have hfz13_0 := blk_frozen BK233.out 0; have hfz13_1 := blk_frozen BK233.out 1; have hfz13_2 := blk_frozen BK233.out 2) | (go_at_call 143; (with_reducible refine (spec_l1In.calls a1 0 (wrap64 (a0_0 - 1)) true _ A8.out).mono ?_); rintro e w' ⟨rfl, ⟨nd, rfl⟩⟩) | (go_at_call 139; (with_reducible refine (spec_ckTime.calls a2 t236 _ A10.out).mono ?_); rintro e w' ⟨rfl, ⟨nd, rfl⟩⟩))
  go_meet
  case rel => exact ⟨_, (!t236), (by first | rfl | (simp; done) | (simp [*]; done)), H', ⟨by first | omega | exact Nat.le_refl _⟩, ⟨bk BK233⟩, ⟨bw HB⟩⟩
 case rest =>
  clear HC4
  try clear c1
  try clear c2
  try clear p2
  try clear p6
  try clear c7
  try clear c9
  try clear c13
  try clear hcz11_0
  try clear hcz11_1
  try clear hcz11_2
  try clear hcz13_0
  try clear hcz13_1
  try clear hcz13_2
  try clear hcz14_0
  try clear hcz14_1
  try clear hcz14_2
  try clear hcz16_0
  try clear hcz16_1
  try clear hcz16_2
  try clear hcz17_0
  try clear hcz17_1
  try clear hcz17_2
  try clear hfz11_0
  try clear hfz11_1
  try clear hfz11_2
  try clear hfz13_0
  try clear hfz13_1
  try clear hfz13_2
  try clear hfz14_0
  try clear hfz14_1
  try clear hfz14_2
  try clear hfz16_0
  try clear hfz16_1
  try clear hfz16_2
  try clear hfz17_0
  try clear hfz17_1
  try clear hfz17_2
  obtain ⟨kq, x25_3, rfl, HA, HJ3, BK233, HB⟩ := hcut
  cases kq with
  | zero => exact absurd HA.out (by simp [spec_TimesOfScoop.j0])
  | succ kj3 =>
   have H := HA.out
   clear HA
   simp only [spec_TimesOfScoop.j0] at H
   by_cases c19 : x25_3 = true
   ·subst c19
    have H1 : (some (([] : List Int), false)) = some (r1, r2) := by rw [if_pos rfl] at H; exact H
    clear H
    have H := H1
    clear H1
    simp only [Option.some.injEq, Prod.mk.injEq] at H
    obtain ⟨rfl, rfl⟩ := H
    go_wp2
    go_ret2
    exact ⟨_, by first | rfl | (simp [errW_none, errW_some] <;> rfl) | (simp [*, errW_none, errW_some] <;> rfl), by first | exact Kd.R_nil _ _ _ _ _ | exact Kd.N_nil _ _ _ _ _ | exact Kd.V_nil _ _ _ _ _ | exact Kd.Q_nil _ _ _ _ _ | exact Kd.S_nil _ _ _ _ _, bw HB⟩
   replace c19 := Bool.eq_false_iff.mpr c19
   subst c19
   have H1 : ((spec_ckFill.f a0_0 a0_1 a0_2).bind fun t237 => (spec_TimesOfScoop.l0 kj3 a2 ([] : List Int) (wrap64 ((wrap64 (a1 + 1)) * t237)) a0_0 a0_1 a0_2)) = some (r1, r2) := by rw [if_neg (show ¬ (false = true) by decide)] at H; exact H
   clear H
   have H := H1
   clear H1
   replace H := Option.bind_eq_some_iff.mp H
   obtain ⟨t237, A200, H⟩ := H
   replace H : (spec_TimesOfScoop.l0 kj3 a2 ([] : List Int) (wrap64 ((wrap64 (a1 + 1)) * t237)) a0_0 a0_1 a0_2) = some (r1, r2) := H
   have A20 := Aside0.mk A200
   clear A200
   have H' := Aside0.mk H
   clear H
   have hcz21_0 := bc0 BK233
   have hcz21_1 := bc1 BK233
   have hcz21_2 := bc2 BK233
   have hfz21_0 := blk_frozen BK233.out 0
   have hfz21_1 := blk_frozen BK233.out 1
   have hfz21_2 := blk_frozen BK233.out 2
   go_wp2_with (first | ((with_reducible refine gate_callee (f := 140) rfl ?_); refine gl 29 Try.func140 #[.agg #[.int .i64 a0_0, .int .i64 a0_1, .int .i64 a0_2]] ?_; (with_reducible refine (spec_ckFill.calls a0_0 a0_1 a0_2 t237 _ A20.out).mono ?_); rintro e w22 ⟨rfl, hb⟩; refine ⟨_, rfl, ?_⟩; replace BK233 := bb BK233 hb; replace HB := bs HB hb; (try clear hb)))
   try simp only [Act.put, List.setIfInBounds_toArray, List.set_cons_zero, List.set_cons_succ]
   go_loopg [8, 9] kj3 (fun kq v8 v9 w' => ∃ (x8_2 : List Int) (x9_2 : Int), v9 = .int .i64 x9_2 ∧ Aside0 (spec_TimesOfScoop.l0 kq a2 x8_2 x9_2 a0_0 a0_1 a0_2 = some (r1, r2)) ∧ Aside0 (kq ≤ kj3) ∧ Aside0 (Kd.R (Kd.int .i64) 3 w' w.heap.size (fun _ => True) v8 x8_2) ∧ Aside0 (w'.heap[gb233]? = some (.cells #[.int .i64 a0_0, .int .i64 a0_1, .int .i64 a0_2] 25 (0, 0))) ∧ Aside0 (Below w.heap.size w w'))
   case atStart => exact ⟨(([] : List Int)), (wrap64 ((wrap64 (a1 + 1)) * t237)), (by first | rfl | (simp; done) | (simp [*]; done)), H', ⟨Nat.le_refl _⟩, ⟨by first | exact Kd.R_nil _ _ _ _ _ | exact Kd.N_nil _ _ _ _ _ | exact Kd.V_nil _ _ _ _ _ | exact Kd.Q_nil _ _ _ _ _ | exact Kd.S_nil _ _ _ _ _⟩, ⟨bk BK233⟩, ⟨bw HB⟩⟩
   case round =>
    clear H'
    try clear c1
    try clear c2
    try clear p2
    try clear p6
    try clear c7
    try clear c9
    try clear c13
    try clear c14
    try clear c19
    try clear c22
    try clear hcz11_0
    try clear hcz11_1
    try clear hcz11_2
    try clear hcz13_0
    try clear hcz13_1
    try clear hcz13_2
    try clear hcz14_0
    try clear hcz14_1
    try clear hcz14_2
    try clear hcz16_0
    try clear hcz16_1
    try clear hcz16_2
    try clear hcz17_0
    try clear hcz17_1
    try clear hcz17_2
    try clear hcz21_0
    try clear hcz21_1
    try clear hcz21_2
    try clear hfz11_0
    try clear hfz11_1
    try clear hfz11_2
    try clear hfz13_0
    try clear hfz13_1
    try clear hfz13_2
    try clear hfz14_0
    try clear hfz14_1
    try clear hfz14_2
    try clear hfz16_0
    try clear hfz16_1
    try clear hfz16_2
    try clear hfz17_0
    try clear hfz17_1
    try clear hfz17_2
    try clear hfz21_0
    try clear hfz21_1
    try clear hfz21_2
    try clear p2
    try clear p6
    obtain ⟨x8_2, x9_2, rfl, HA, HK2, HO_8, BK233, HB⟩ := hrel
    cases gk with
    | zero => exact absurd HA.out (by simp [spec_TimesOfScoop.l0])
    | succ k2 =>
     have H := HA.out
     clear HA
     simp only [spec_TimesOfScoop.l0] at H
     by_cases c23 : x9_2 ≤ a2
     rotate_left
     ·rw [if_neg c23] at H
      have c23b0 : decide (x9_2 ≤ a2) = false := decide_eq_false c23
      clear c23
      simp only [Option.some.injEq, Prod.mk.injEq] at H
      obtain ⟨rfl, rfl⟩ := H
      go_wp2
      go_ret2
      exact ⟨_, by first | rfl | (simp [errW_none, errW_some] <;> rfl) | (simp [*, errW_none, errW_some] <;> rfl), rk HO_8, bw HB⟩
     rw [if_pos c23] at H
     have c23b0 : decide (x9_2 ≤ a2) = true := decide_eq_true c23
     clear c23
     by_cases c24 : x8_2.length < 17592186044416
     rotate_left
     ·rw [if_neg c24] at H
      exact absurd H (by simp)
     rw [if_pos c24] at H
     have LMc24 := Aside0.mk c24
     clear c24
     obtain ⟨y238, hy238⟩ : ∃ y_ : List Int, y_ = (x8_2 ++ [x9_2]) := ⟨_, rfl⟩
     replace H : (if (y238.length : Int) > 500 then (some (([] : List Int), false)) else ((spec_ckFill.f a0_0 a0_1 a0_2).bind fun t241 => (spec_TimesOfScoop.l0 k2 a2 y238 (wrap64 (x9_2 + (wrap64 (a0_0 * t241)))) a0_0 a0_1 a0_2))) = some (r1, r2) := by first | (rw [hy238]; with_reducible exact H) | (have H2_ := (Option.bind_some _ _).symm.trans H; rw [hy238]; with_reducible exact H2_) | (have H2_ := (Option.bind_some _ _).symm.trans H; with_reducible exact H2_) | with_reducible exact H | (rw [hy238]; exact H) | exact H
     have Ny238 := Aside0.mk hy238
     clear hy238
     by_cases c25 : (y238.length : Int) > 500
     ·rw [if_pos c25] at H
      have c25b0 : decide (500 < (y238.length : Int)) = true := decide_eq_true c25
      have c25b1 : decide (500 < y238.length) = true := decide_eq_true (by omega)
      clear c25
      simp only [Option.some.injEq, Prod.mk.injEq] at H
      obtain ⟨rfl, rfl⟩ := H
      go_wp2_with (first | ((with_reducible refine gate_builtin (b := .append) (xs := #[.tmp 41, .tmp 43]) rfl ?_); at_builtin; refine Kd.R_append (Kd.int .i64) (w0 := w) w.heap.size rfl (.tmp 41) (.tmp 43) 34 3 (.int .i64 0) 8 rfl Try.underlying34 info3 rfl (by decide) (by omega) u8 x8_2 x9_2 [.int .i64 x9_2] (fun _ => True) (fun _ => False) rfl rfl ?aP (fun _ hk => hk.elim) ?aF ?aO ?aB ?aS ?aL ?_; (case aP => exact rfl); (case aB => exact (bw HB)); (case aF => exact (fun _ _ => trivial)); (case aO => exact (rk HO_8)); (case aS => exact (below_size (bw HB))); (case aL => have := LMc24.out; omega); intro v239 w26 ho hb hg hat; rw [← Ny238.out] at ho; have n0_ := Aside0.mk (blk_grown (g := gb233) (o := .cells #[.int .i64 a0_0, .int .i64 a0_1, .int .i64 a0_2] 25 (0, 0)) (bk BK233) hg (Kd.R_ne HO_8.out BK233.out (by decide))); have n1_ := Aside0.mk (hb); have n2_ := Aside0.mk (ho); clear BK233; clear HB; clear HO_8; have BK233 := n0_; have HB := n1_; have HO240 := n2_; clear n0_ n1_ n2_; clear ho hb hg hat; obtain ⟨Ao27, co27, eo27⟩ := Kd.R_slice HO240.out; subst eo27))
      go_ret2
      exact ⟨_, by first | rfl | (simp [errW_none, errW_some] <;> rfl) | (simp [*, errW_none, errW_some] <;> rfl), by first | exact Kd.R_nil _ _ _ _ _ | exact Kd.N_nil _ _ _ _ _ | exact Kd.V_nil _ _ _ _ _ | exact Kd.Q_nil _ _ _ _ _ | exact Kd.S_nil _ _ _ _ _, bw HB⟩
     rw [if_neg c25] at H
     have c25b0 : decide (500 < (y238.length : Int)) = false := decide_eq_false c25
     have c25b1 : decide (500 < y238.length) = false := decide_eq_false (by omega)
     clear c25
     replace H := Option.bind_eq_some_iff.mp H
     obtain ⟨t241, A280, H⟩ := H
     replace H : (spec_TimesOfScoop.l0 k2 a2 y238 (wrap64 (x9_2 + (wrap64 (a0_0 * t241)))) a0_0 a0_1 a0_2) = some (r1, r2) := H
     have A28 := Aside0.mk A280
     clear A280
     have H' := Aside0.mk H
     clear H
     try go_wp2_with (first | ((with_reducible refine gate_builtin (b := .append) (xs := #[.tmp 41, .tmp 43]) rfl ?_); at_builtin; refine Kd.R_append (Kd.int .i64) (w0 := w) w.heap.size rfl (.tmp 41) (.tmp 43) 34 3 (.int .i64 0) 8 rfl Try.underlying34 info3 rfl (by decide) (by omega) u8 x8_2 x9_2 [.int .i64 x9_2] (fun _ => True) (fun _ => False) rfl rfl ?aP (fun _ hk => hk.elim) ?aF ?aO ?aB ?aS ?aL ?_; (case aP => exact rfl); (case aB => exact (bw HB)); (case aF => exact (fun _ _ => trivial)); (case aO => exact (rk HO_8)); (case aS => exact (below_size (bw HB))); (case aL => have := LMc24.out; omega); intro v239 w29 ho hb hg hat; rw [← Ny238.out] at ho; have n0_ := Aside0.mk (blk_grown (g := gb233) (o := .cells #[.int .i64 a0_0, .int .i64 a0_1, .int .i64 a0_2] 25 (0, 0)) (bk BK233) hg (Kd.R_ne HO_8.out BK233.out (by decide))); have n1_ := Aside0.mk (hb); have n2_ := Aside0.mk (ho); clear BK233; clear HB; clear HO_8; have BK233 := n0_; have HB := n1_; have HO240 := n2_; clear n0_ n1_ n2_; clear ho hb hg hat; obtain ⟨Ao30, co30, eo30⟩ := Kd.R_slice HO240.out; subst eo30))
     replace HO240 := Aside0.mk (Kd.R_drew HO240.out)
     replace BK233 := Aside0.mk (blk_drew BK233.out)
     replace HB := Aside0.mk (below_drew1 HB.out)
     refine start_ (n := 8) (S := fun w' => w'.cell? ⟨gb233, 0, none⟩ = some (.int .i64 a0_0) ∧ w'.cell? ⟨gb233, 1, none⟩ = some (.int .i64 a0_1) ∧ w'.cell? ⟨gb233, 2, none⟩ = some (.int .i64 a0_2)) (ds := []) (bl 8 0) (by kernel_rfl) rfl rfl ⟨bc0 BK233, bc1 BK233, bc2 BK233⟩ (fun hHeld => ?_); refine with_tabW spec_TimesOfScoop.tab6 spec_TimesOfScoop.bits6 (fun HT_ HW_ => ?_)
     generalize w29.drew = w31 at HO240 BK233 HB hHeld ⊢
     refine pu 0 34 (bl 8 1) HT_.out (v := ?_) (a' := ?_) ?_ ?_ ?_
     rotate_left
     ·intro w'
      go_simp
      with_reducible rfl
     rotate_left
     ·simp only [Act.put, List.setIfInBounds_toArray, List.set_cons_zero, List.set_cons_succ, i64_w, i32_w]
      rfl
     refine pu 1 35 (bl 8 3) HT_.out (v := ?_) (a' := ?_) ?_ ?_ ?_
     rotate_left
     ·intro w'
      go_simp
      with_reducible rfl
     rotate_left
     ·simp only [Act.put, List.setIfInBounds_toArray, List.set_cons_zero, List.set_cons_succ, i64_w, i32_w]
      rfl
     refine tk 2 36 (bl 8 7) HT_.out HW_.out hHeld (v := ?_) (a' := ?_) ?_ ?_ ?_
     rotate_left
     ·rintro w' ⟨s0, s1, s2⟩
      go_simp
      with_reducible rfl
     rotate_left
     ·simp only [Act.put, List.setIfInBounds_toArray, List.set_cons_zero, List.set_cons_succ, i64_w, i32_w]
      rfl
     refine tk 3 37 (bl 8 15) HT_.out HW_.out hHeld (v := ?_) (a' := ?_) ?_ ?_ ?_
     rotate_left
     ·rintro w' ⟨s0, s1, s2⟩
      go_simp
      with_reducible rfl
     rotate_left
     ·simp only [Act.put, List.setIfInBounds_toArray, List.set_cons_zero, List.set_cons_succ, i64_w, i32_w]
      rfl
     refine on 4 38 (bl 8 31) HT_.out (fun K hK => ?_)
     refine gs Try.func140 #[.agg #[.int .i64 a0_0, .int .i64 a0_1, .int .i64 a0_2]] ?_
     with_reducible refine (spec_ckFill.calls a0_0 a0_1 a0_2 t241 _ A28.out).mono ?_
     rintro e w32 ⟨rfl, hb⟩
     refine ⟨_, rfl, ?_⟩
     replace HO240 := rb HO240 hb
     replace BK233 := bb BK233 hb
     replace HB := bs HB hb
     (try clear hb)
     (try clear hb2)
     (try clear hk)
     (try clear hi)
     refine hK.out _ _ ⟨bc0 BK233, bc1 BK233, bc2 BK233⟩ (fun hHeld => ?_)
     clear hK K
     refine norm_ (a' := ?_) ?_ ?_
     rotate_left
     ·show Act.put _ (some 38) _ = _
      simp only [Act.put, List.setIfInBounds_toArray, List.set_cons_zero, List.set_cons_succ, i64_w, i32_w]
      rfl
     refine pu 5 39 (bl 8 63) HT_.out (v := ?_) (a' := ?_) ?_ ?_ ?_
     rotate_left
     ·intro w'
      go_simp
      with_reducible rfl
     rotate_left
     ·simp only [Act.put, List.setIfInBounds_toArray, List.set_cons_zero, List.set_cons_succ, i64_w, i32_w]
      rfl
     refine pu 6 40 (bl 8 127) HT_.out (v := ?_) (a' := ?_) ?_ ?_ ?_
     rotate_left
     ·intro w'
      go_simp
      with_reducible rfl
     rotate_left
     ·simp only [Act.put, List.setIfInBounds_toArray, List.set_cons_zero, List.set_cons_succ, i64_w, i32_w]
      rfl
     refine pu 7 9 (bl 8 255) HT_.out (v := ?_) (a' := ?_) ?_ ?_ ?_
     rotate_left
     ·intro w'
      go_simp
      with_reducible rfl
     rotate_left
     ·simp only [Act.put, List.setIfInBounds_toArray, List.set_cons_zero, List.set_cons_succ, i64_w, i32_w]
      rfl
     refine done_ (done_of HT_.out (by kernel_rfl)) ?_
     try go_wp2
     go_roundg k2
     case measure => have := HJ3.out; have := HK2.out; omega
     case rel => exact ⟨(y238), (wrap64 (x9_2 + (wrap64 (a0_0 * t241)))), (by first | rfl | (simp; done) | (simp [*]; done)), H', ⟨by have := HJ3.out; have := HK2.out; omega⟩, ⟨rk HO240⟩, ⟨bk BK233⟩, ⟨bw HB⟩⟩

/-! ### spec_l1Cur_scale: function 144 -/
def spec_l1Cur_scale.f (s0_0 : List Int) (s0_1 : Int) (s0_2 : Int) : Option (Int × Int × Int × Int × Int) := (spec_l1Cur_pick.f s0_0 s0_1 s0_2 9).bind fun bt243 => ((spec_l1Cur_pick.f s0_0 bt243.2.1 bt243.2.2 9).bind fun bt246 => ((spec_l1Cur_pick.f s0_0 bt246.2.1 bt246.2.2 20).bind fun bt249 => ((spec_l1Cur_pick.f s0_0 bt249.2.1 bt249.2.2 16).bind fun bt253 => (if bt253.1 = 0 then ((spec_l1Cur_among.f s0_0 bt253.2.1 bt253.2.2 (([(-1), 60, 61] : List Int))).bind fun bt259 => (some (bt259.1, bt246.1, wrap64 (1 + bt249.1), bt259.2.1, bt259.2.2))) else (if bt253.1 = 1 then ((spec_l1Cur_among.f s0_0 bt253.2.1 bt253.2.2 (([0, 1000, 1001, (-1)] : List Int))).bind fun bt265 => (some (bt243.1, bt246.1, bt265.1, bt265.2.1, bt265.2.2))) else (some (bt243.1, bt246.1, wrap64 (1 + bt249.1), bt253.2.1, bt253.2.2)))))))
set_option maxHeartbeats 8000000 in
set_option maxRecDepth 100000 in
theorem spec_l1Cur_scale.calls (g : Nat) (s0_0 : List Int) (s0_1 : Int) (s0_2 : Int) (r1 : Int) (r2 : Int) (r3 : Int) (r4 : Int) (r5 : Int) (w0 w : World) (hI : IsS140 w0 w g s0_0 s0_1 s0_2) (hB : Below w0.heap.size w0 w) (h : spec_l1Cur_scale.f s0_0 s0_1 s0_2 = some (r1, r2, r3, r4, r5)) :
  Calls Try.prog 144 #[.pointer (some ⟨g, 0, none⟩)] w fun e w' => e = .returned (.agg #[.int .i64 r1, .int .i64 r2, .int .i64 r3]) ∧ IsS140 w0 w' g s0_0 r4 r5 ∧ Below w0.heap.size w0 w' ∧ KeepBut w w' g none := by
 have hu40 := Try.underlying40
 have HI0 := Aside0.mk hI
 have HK := Aside0.mk (KeepBut.refl w g none)
 have HL := Aside0.mk hB.size
 clear hI
 have HW0 := Aside0.mk hB.size
 have HB := Aside0.mk hB
 clear hB
 have H : ((spec_l1Cur_pick.f s0_0 s0_1 s0_2 9).bind fun bt243 => ((spec_l1Cur_pick.f s0_0 bt243.2.1 bt243.2.2 9).bind fun bt246 => ((spec_l1Cur_pick.f s0_0 bt246.2.1 bt246.2.2 20).bind fun bt249 => ((spec_l1Cur_pick.f s0_0 bt249.2.1 bt249.2.2 16).bind fun bt253 => (if bt253.1 = 0 then ((spec_l1Cur_among.f s0_0 bt253.2.1 bt253.2.2 (([(-1), 60, 61] : List Int))).bind fun bt259 => (some (bt259.1, bt246.1, wrap64 (1 + bt249.1), bt259.2.1, bt259.2.2))) else (if bt253.1 = 1 then ((spec_l1Cur_among.f s0_0 bt253.2.1 bt253.2.2 (([0, 1000, 1001, (-1)] : List Int))).bind fun bt265 => (some (bt243.1, bt246.1, bt265.1, bt265.2.1, bt265.2.2))) else (some (bt243.1, bt246.1, wrap64 (1 + bt249.1), bt253.2.1, bt253.2.2)))))))) = some (r1, r2, r3, r4, r5) := h
 clear h
 replace H := Option.bind_eq_some_iff.mp H
 obtain ⟨⟨t243, t244, t245⟩, A20, H⟩ := H
 replace H : ((spec_l1Cur_pick.f s0_0 t244 t245 9).bind fun bt246 => ((spec_l1Cur_pick.f s0_0 bt246.2.1 bt246.2.2 20).bind fun bt249 => ((spec_l1Cur_pick.f s0_0 bt249.2.1 bt249.2.2 16).bind fun bt253 => (if bt253.1 = 0 then ((spec_l1Cur_among.f s0_0 bt253.2.1 bt253.2.2 (([(-1), 60, 61] : List Int))).bind fun bt259 => (some (bt259.1, bt246.1, wrap64 (1 + bt249.1), bt259.2.1, bt259.2.2))) else (if bt253.1 = 1 then ((spec_l1Cur_among.f s0_0 bt253.2.1 bt253.2.2 (([0, 1000, 1001, (-1)] : List Int))).bind fun bt265 => (some (t243, bt246.1, bt265.1, bt265.2.1, bt265.2.2))) else (some (t243, bt246.1, wrap64 (1 + bt249.1), bt253.2.1, bt253.2.2))))))) = some (r1, r2, r3, r4, r5) := H
 have A2 := Aside0.mk A20
 clear A20
 replace H := Option.bind_eq_some_iff.mp H
 obtain ⟨⟨t246, t247, t248⟩, A30, H⟩ := H
 replace H : ((spec_l1Cur_pick.f s0_0 t247 t248 20).bind fun bt249 => ((spec_l1Cur_pick.f s0_0 bt249.2.1 bt249.2.2 16).bind fun bt253 => (if bt253.1 = 0 then ((spec_l1Cur_among.f s0_0 bt253.2.1 bt253.2.2 (([(-1), 60, 61] : List Int))).bind fun bt259 => (some (bt259.1, t246, wrap64 (1 + bt249.1), bt259.2.1, bt259.2.2))) else (if bt253.1 = 1 then ((spec_l1Cur_among.f s0_0 bt253.2.1 bt253.2.2 (([0, 1000, 1001, (-1)] : List Int))).bind fun bt265 => (some (t243, t246, bt265.1, bt265.2.1, bt265.2.2))) else (some (t243, t246, wrap64 (1 + bt249.1), bt253.2.1, bt253.2.2)))))) = some (r1, r2, r3, r4, r5) := H
 have A3 := Aside0.mk A30
 clear A30
 replace H := Option.bind_eq_some_iff.mp H
 obtain ⟨⟨t249, t250, t251⟩, A40, H⟩ := H
 replace H : ((spec_l1Cur_pick.f s0_0 t250 t251 16).bind fun bt253 => (if bt253.1 = 0 then ((spec_l1Cur_among.f s0_0 bt253.2.1 bt253.2.2 (([(-1), 60, 61] : List Int))).bind fun bt259 => (some (bt259.1, t246, wrap64 (1 + t249), bt259.2.1, bt259.2.2))) else (if bt253.1 = 1 then ((spec_l1Cur_among.f s0_0 bt253.2.1 bt253.2.2 (([0, 1000, 1001, (-1)] : List Int))).bind fun bt265 => (some (t243, t246, bt265.1, bt265.2.1, bt265.2.2))) else (some (t243, t246, wrap64 (1 + t249), bt253.2.1, bt253.2.2))))) = some (r1, r2, r3, r4, r5) := H
 have A4 := Aside0.mk A40
 clear A40
 replace H := Option.bind_eq_some_iff.mp H
 obtain ⟨⟨t253, t254, t255⟩, A50, H⟩ := H
 replace H : (if t253 = 0 then ((spec_l1Cur_among.f s0_0 t254 t255 (([(-1), 60, 61] : List Int))).bind fun bt259 => (some (bt259.1, t246, wrap64 (1 + t249), bt259.2.1, bt259.2.2))) else (if t253 = 1 then ((spec_l1Cur_among.f s0_0 t254 t255 (([0, 1000, 1001, (-1)] : List Int))).bind fun bt265 => (some (t243, t246, bt265.1, bt265.2.1, bt265.2.2))) else (some (t243, t246, wrap64 (1 + t249), t254, t255)))) = some (r1, r2, r3, r4, r5) := H
 have A5 := Aside0.mk A50
 clear A50
 by_cases c6 : t253 = 0
 ·rw [if_pos c6] at H
  have c6b0 : (t253 == 0) = true := beq_iff_eq.mpr c6
  have c6b1 : (t253 != 0) = false := bne_eq_false_iff_eq.mpr c6
  clear c6
  obtain ⟨y256, hy256⟩ : ∃ y_ : List Int, y_ = (([(-1), 60, 61] : List Int)) := ⟨_, rfl⟩
  replace H : ((spec_l1Cur_among.f s0_0 t254 t255 y256).bind fun bt259 => (some (bt259.1, t246, wrap64 (1 + t249), bt259.2.1, bt259.2.2))) = some (r1, r2, r3, r4, r5) := by first | (rw [hy256]; with_reducible exact H) | (have H2_ := (Option.bind_some _ _).symm.trans H; rw [hy256]; with_reducible exact H2_) | (have H2_ := (Option.bind_some _ _).symm.trans H; with_reducible exact H2_) | with_reducible exact H | (rw [hy256]; exact H) | exact H
  have Ny256 := Aside0.mk hy256
  clear hy256
  replace H := Option.bind_eq_some_iff.mp H
  obtain ⟨⟨t259, t260, t261⟩, A70, H⟩ := H
  replace H : (some (t259, t246, wrap64 (1 + t249), t260, t261)) = some (r1, r2, r3, r4, r5) := H
  have A7 := Aside0.mk A70
  clear A70
  simp only [Option.some.injEq, Prod.mk.injEq] at H
  obtain ⟨rfl, rfl, rfl, rfl, rfl⟩ := H
  go_enter Try.func144, Try.ntmps144
  go_wp2_with (first | ((with_reducible refine gate_dst (N := 2) rfl ?_); refine bx 2 #[.int .i64 0, .int .i64 0, .int .i64 0] 40 ?_; intro gb242 hg w8 hbox hb; replace HB := Aside0.mk (below_step (by repeat (first | (with_reducible first | exact HB.out | apply below_alloc | apply pw_below_drewN | apply below_drew1 | refine below_set ?_ (IsS140.ge HI0.out)) | exact HB.out)) hb); have BK242 := Aside0.mk (hbox); have GW242 := Aside0.mk ((by rw [hg]; exact (keep_size (w := w) (g := g) (row := none) (by repeat (first | (with_reducible first | exact HK.out | apply KeepBut.set_ | apply keep_drewN | apply keep_drew | apply keep_alloc) | exact HK.out))) : w.heap.size ≤ gb242)); have GE242 := Aside0.mk ((Nat.le_trans HW0.out (by rw [hg]; exact (keep_size (w := w) (g := g) (row := none) (by repeat (first | (with_reducible first | exact HK.out | apply KeepBut.set_ | apply keep_drewN | apply keep_drew | apply keep_alloc) | exact HK.out))) : w.heap.size ≤ gb242) : w0.heap.size ≤ gb242)); replace HK := Aside0.mk (KeepBut.trans (by repeat (first | (with_reducible first | exact HK.out | apply KeepBut.set_ | apply keep_drewN | apply keep_drew | apply keep_alloc) | exact HK.out)) (KeepBut.of_below hb g none) (.inl rfl)); have NB0_242 := Aside0.mk ((by rw [hg]; exact Nat.ne_of_lt (IsS140.lt (show IsS140 w0 _ g s0_0 s0_1 s0_2 from by repeat (first | (with_reducible first | exact HI0.out | apply IsS140.alloc | apply IsS140.drewN | apply IsS140.drew | apply IsS140.set_1 | apply IsS140.set_2) | exact HI0.out))) : g ≠ gb242)); have NB242_0 := Aside0.mk ((by rw [hg]; exact Nat.ne_of_gt (IsS140.lt (show IsS140 w0 _ g s0_0 s0_1 s0_2 from by repeat (first | (with_reducible first | exact HI0.out | apply IsS140.alloc | apply IsS140.drewN | apply IsS140.drew | apply IsS140.set_1 | apply IsS140.set_2) | exact HI0.out))) : gb242 ≠ g)); replace HI0 := Aside0.mk (IsS140.below (by repeat (first | (with_reducible first | exact HI0.out | apply IsS140.alloc | apply IsS140.drewN | apply IsS140.drew | apply IsS140.set_1 | apply IsS140.set_2) | exact HI0.out)) hb); clear hb hbox hg) | ((with_reducible refine gate_callee (f := 142) rfl ?_); refine gl 5 Try.func142 #[.pointer (some ⟨g, 0, none⟩), .int .i64 9] ?_; (with_reducible refine (spec_l1Cur_pick.calls g s0_0 s0_1 s0_2 9 t243 t244 t245 w0 _ ?side1 ?side2 A2.out).mono ?_); (case side1 => repeat (first | (with_reducible first | exact HI0.out | apply IsS140.alloc | apply IsS140.drewN | apply IsS140.drew | apply IsS140.set_1 | apply IsS140.set_2 | refine IsS140.far ?_ NB0_242.out _) | exact HI0.out)); (case side2 => repeat (first | (with_reducible first | exact HB.out | apply below_alloc | apply pw_below_drewN | apply below_drew1 | refine below_set ?_ (IsS140.ge HI0.out) | refine below_set ?_ GE242.out) | exact HB.out)); rintro e w9 ⟨rfl, hi, hb, hk⟩; refine ⟨_, rfl, ?_⟩; replace BK242 := Aside0.mk (KeepBut.blk hk (g' := gb242) (o := .cells #[.int .i64 0, .int .i64 0, .int .i64 0] 40 (0, 0)) (bk BK242) NB242_0.out (by simp)); replace HK := Aside0.mk (KeepBut.trans (by repeat (first | (with_reducible first | exact HK.out | apply KeepBut.set_ | apply keep_drewN | apply keep_drew | apply keep_alloc | refine keep_far ?_ GW242.out _) | exact HK.out)) hk (.inl rfl)); replace HB := Aside0.mk (hb); replace HI0 := Aside0.mk (hi); (try clear hb); (try clear hk); (try clear hi)) | ((with_reducible refine gate_callee (f := 142) rfl ?_); refine gl 7 Try.func142 #[.pointer (some ⟨g, 0, none⟩), .int .i64 9] ?_; (with_reducible refine (spec_l1Cur_pick.calls g s0_0 t244 t245 9 t246 t247 t248 w0 _ ?side1 ?side2 A3.out).mono ?_); (case side1 => repeat (first | (with_reducible first | exact HI0.out | apply IsS140.alloc | apply IsS140.drewN | apply IsS140.drew | apply IsS140.set_1 | apply IsS140.set_2 | refine IsS140.far ?_ NB0_242.out _) | exact HI0.out)); (case side2 => repeat (first | (with_reducible first | exact HB.out | apply below_alloc | apply pw_below_drewN | apply below_drew1 | refine below_set ?_ (IsS140.ge HI0.out) | refine below_set ?_ GE242.out) | exact HB.out)); rintro e w10 ⟨rfl, hi, hb, hk⟩; refine ⟨_, rfl, ?_⟩; replace BK242 := Aside0.mk (KeepBut.blk hk (g' := gb242) (o := .cells #[.int .i64 0, .int .i64 0, .int .i64 0] 40 (0, 0)) (bk BK242) NB242_0.out (by simp)); replace HK := Aside0.mk (KeepBut.trans (by repeat (first | (with_reducible first | exact HK.out | apply KeepBut.set_ | apply keep_drewN | apply keep_drew | apply keep_alloc | refine keep_far ?_ GW242.out _) | exact HK.out)) hk (.inl rfl)); replace HB := Aside0.mk (hb); replace HI0 := Aside0.mk (hi); (try clear hb); (try clear hk); (try clear hi)) | ((with_reducible refine gate_callee (f := 142) rfl ?_); refine gl 9 Try.func142 #[.pointer (some ⟨g, 0, none⟩), .int .i64 20] ?_; (with_reducible refine (spec_l1Cur_pick.calls g s0_0 t247 t248 20 t249 t250 t251 w0 _ ?side1 ?side2 A4.out).mono ?_); (case side1 => repeat (first | (with_reducible first | exact HI0.out | apply IsS140.alloc | apply IsS140.drewN | apply IsS140.drew | apply IsS140.set_1 | apply IsS140.set_2 | refine IsS140.far ?_ NB0_242.out _) | exact HI0.out)); (case side2 => repeat (first | (with_reducible first | exact HB.out | apply below_alloc | apply pw_below_drewN | apply below_drew1 | refine below_set ?_ (IsS140.ge HI0.out) | refine below_set ?_ GE242.out) | exact HB.out)); rintro e w11 ⟨rfl, hi, hb, hk⟩; refine ⟨_, rfl, ?_⟩; replace BK242 := Aside0.mk (KeepBut.blk hk (g' := gb242) (o := .cells #[.int .i64 0, .int .i64 0, .int .i64 0] 40 (0, 0)) (bk BK242) NB242_0.out (by simp)); replace HK := Aside0.mk (KeepBut.trans (by repeat (first | (with_reducible first | exact HK.out | apply KeepBut.set_ | apply keep_drewN | apply keep_drew | apply keep_alloc | refine keep_far ?_ GW242.out _) | exact HK.out)) hk (.inl rfl)); replace HB := Aside0.mk (hb); replace HI0 := Aside0.mk (hi); (try clear hb); (try clear hk); (try clear hi)) | ((with_reducible refine gate_dst (N := 3) rfl ?_); refine bx 3 #[.int .i64 0, .int .i64 0, .int .i64 0] 40 ?_; intro gb252 hg w12 hbox hb; replace HB := Aside0.mk (below_step (by repeat (first | (with_reducible first | exact HB.out | apply below_alloc | apply pw_below_drewN | apply below_drew1 | refine below_set ?_ (IsS140.ge HI0.out) | refine below_set ?_ GE242.out) | exact HB.out)) hb); have BK252 := Aside0.mk (hbox); have GW252 := Aside0.mk ((by rw [hg]; exact (keep_size (w := w) (g := g) (row := none) (by repeat (first | (with_reducible first | exact HK.out | apply KeepBut.set_ | apply keep_drewN | apply keep_drew | apply keep_alloc | refine keep_far ?_ GW242.out _) | exact HK.out))) : w.heap.size ≤ gb252)); have GE252 := Aside0.mk ((Nat.le_trans HW0.out (by rw [hg]; exact (keep_size (w := w) (g := g) (row := none) (by repeat (first | (with_reducible first | exact HK.out | apply KeepBut.set_ | apply keep_drewN | apply keep_drew | apply keep_alloc | refine keep_far ?_ GW242.out _) | exact HK.out))) : w.heap.size ≤ gb252) : w0.heap.size ≤ gb252)); replace HK := Aside0.mk (KeepBut.trans (by repeat (first | (with_reducible first | exact HK.out | apply KeepBut.set_ | apply keep_drewN | apply keep_drew | apply keep_alloc | refine keep_far ?_ GW242.out _) | exact HK.out)) (KeepBut.of_below hb g none) (.inl rfl)); have NB242_252 := nl BK242 hg; have NB252_242 := nr BK242 hg; replace BK242 := bb BK242 hb; have NB0_252 := Aside0.mk ((by rw [hg]; exact Nat.ne_of_lt (IsS140.lt (show IsS140 w0 _ g s0_0 t250 t251 from by repeat (first | (with_reducible first | exact HI0.out | apply IsS140.alloc | apply IsS140.drewN | apply IsS140.drew | apply IsS140.set_1 | apply IsS140.set_2 | refine IsS140.far ?_ NB0_242.out _) | exact HI0.out))) : g ≠ gb252)); have NB252_0 := Aside0.mk ((by rw [hg]; exact Nat.ne_of_gt (IsS140.lt (show IsS140 w0 _ g s0_0 t250 t251 from by repeat (first | (with_reducible first | exact HI0.out | apply IsS140.alloc | apply IsS140.drewN | apply IsS140.drew | apply IsS140.set_1 | apply IsS140.set_2 | refine IsS140.far ?_ NB0_242.out _) | exact HI0.out))) : gb252 ≠ g)); replace HI0 := Aside0.mk (IsS140.below (by repeat (first | (with_reducible first | exact HI0.out | apply IsS140.alloc | apply IsS140.drewN | apply IsS140.drew | apply IsS140.set_1 | apply IsS140.set_2 | refine IsS140.far ?_ NB0_242.out _) | exact HI0.out)) hb); clear hb hbox hg; have hnb13 := NB252_242.out; have hnc13 := NB242_252.out; have hnb14 := NB252_0.out; have hnc14 := NB0_252.out; have hcz15_0 := bc0 BK252; have hcz15_1 := bc1 BK252; have hcz15_2 := bc2 BK252; have hfz15_0 := blk_frozen BK252.out 0; have hfz15_1 := blk_frozen BK252.out 1; have hfz15_2 := blk_frozen BK252.out 2) | ((with_reducible refine gate_callee (f := 142) rfl ?_); refine gl 13 Try.func142 #[.pointer (some ⟨g, 0, none⟩), .int .i64 16] ?_; (with_reducible refine (spec_l1Cur_pick.calls g s0_0 t250 t251 16 t253 t254 t255 w0 _ ?side1 ?side2 A5.out).mono ?_); (case side1 => repeat (first | (with_reducible first | exact HI0.out | apply IsS140.alloc | apply IsS140.drewN | apply IsS140.drew | apply IsS140.set_1 | apply IsS140.set_2 | refine IsS140.far ?_ NB0_242.out _ | refine IsS140.far ?_ NB0_252.out _) | exact HI0.out)); (case side2 => repeat (first | (with_reducible first | exact HB.out | apply below_alloc | apply pw_below_drewN | apply below_drew1 | refine below_set ?_ (IsS140.ge HI0.out) | refine below_set ?_ GE242.out | refine below_set ?_ GE252.out) | exact HB.out)); rintro e w16 ⟨rfl, hi, hb, hk⟩; refine ⟨_, rfl, ?_⟩; replace BK242 := Aside0.mk (KeepBut.blk hk (g' := gb242) (o := .cells #[.int .i64 0, .int .i64 0, .int .i64 0] 40 (0, 0)) (bk BK242) NB242_0.out (by simp)); replace BK252 := Aside0.mk (KeepBut.blk hk (g' := gb252) (o := .cells #[.int .i64 t243, .int .i64 t246, .int .i64 (wrap64 (1 + t249))] 40 (0, 0)) (by (with_reducible repeat (first | refine blk_drewN ?_ _ | refine blk_drew ?_ | refine blk_alloc ?_ _)); refine blk_put (cs := #[.int .i64 t243, .int .i64 t246, .int .i64 0]) ?_ 2 _ rfl; (with_reducible repeat (first | refine blk_drewN ?_ _ | refine blk_drew ?_ | refine blk_alloc ?_ _)); refine blk_put (cs := #[.int .i64 t243, .int .i64 0, .int .i64 0]) ?_ 1 _ rfl; (with_reducible repeat (first | refine blk_drewN ?_ _ | refine blk_drew ?_ | refine blk_alloc ?_ _)); refine blk_put (cs := #[.int .i64 0, .int .i64 0, .int .i64 0]) ?_ 0 _ rfl; exact bk BK252) NB252_0.out (by simp)); replace HK := Aside0.mk (KeepBut.trans (by repeat (first | (with_reducible first | exact HK.out | apply KeepBut.set_ | apply keep_drewN | apply keep_drew | apply keep_alloc | refine keep_far ?_ GW242.out _ | refine keep_far ?_ GW252.out _) | exact HK.out)) hk (.inl rfl)); replace HB := Aside0.mk (hb); replace HI0 := Aside0.mk (hi); (try clear hb); (try clear hk); (try clear hi)) | ((with_reducible refine gate_dst (N := 17) rfl ?_); refine Kd.R_lit (Kd.int .i64) _ 3 ?hg (N := 17) ?hd (xs := ([(-1), 60, 61] : List Int)) (inner := [.int .i64 (-1), .int .i64 60, .int .i64 61]) (ok := fun _ => True) (okp := fun _ => True) ?hr ?hp (fun _ hk => hk) trivial (Below.refl _ _) (Nat.le_refl _) (by simp) ?_; (case hd => rfl); (case hg => rfl); (case hr => first | (go_simp; done) | (go_simp; rfl)); (case hp => exact (Reps.one (show Kd.M (Kd.int .i64) _ _ _ (-1) [.int .i64 (-1)] from rfl) (Reps.one (show Kd.M (Kd.int .i64) _ _ _ 60 [.int .i64 60] from rfl) (Reps.one (show Kd.M (Kd.int .i64) _ _ _ 61 [.int .i64 61] from rfl) (Reps.none _ _))))); intro v257 w17 ho18 hb hg_ hnew_; clear hg_ hnew_; (first | rw [← Ny256.out] at ho18 | (simp only [Int.reduceToNat] at ho18; rw [← Ny256.out] at ho18)); have HO258 := Aside0.mk (Kd.R_lower ho18 (keep_size (w := w) (g := g) (row := none) (by repeat (first | (with_reducible first | exact HK.out | apply KeepBut.set_ | apply keep_drewN | apply keep_drew | apply keep_alloc | refine keep_far ?_ GW242.out _ | refine keep_far ?_ GW252.out _) | exact HK.out)))); replace BK242 := bb BK242 hb; replace BK252 := bb BK252 hb; replace HK := Aside0.mk (KeepBut.trans (by repeat (first | (with_reducible first | exact HK.out | apply KeepBut.set_ | apply keep_drewN | apply keep_drew | apply keep_alloc | refine keep_far ?_ GW242.out _ | refine keep_far ?_ GW252.out _) | exact HK.out)) (KeepBut.of_below hb g none) (.inl rfl)); replace HB := Aside0.mk (below_step (by repeat (first | (with_reducible first | exact HB.out | apply below_alloc | apply pw_below_drewN | apply below_drew1 | refine below_set ?_ (IsS140.ge HI0.out) | refine below_set ?_ GE242.out | refine below_set ?_ GE252.out) | exact HB.out)) hb); replace HI0 := Aside0.mk (IsS140.below (by repeat (first | (with_reducible first | exact HI0.out | apply IsS140.alloc | apply IsS140.drewN | apply IsS140.drew | apply IsS140.set_1 | apply IsS140.set_2 | refine IsS140.far ?_ NB0_242.out _ | refine IsS140.far ?_ NB0_252.out _) | exact HI0.out)) hb); clear hb ho18; obtain ⟨Ao19, co19, eo19⟩ := Kd.R_slice HO258.out; subst eo19) | ((with_reducible refine gate_callee (f := 145) rfl ?_); refine gl 18 Try.func145 #[.pointer (some ⟨g, 0, none⟩), .slice Ao19 y256.length co19] ?_; (with_reducible refine (spec_l1Cur_among.calls g s0_0 t254 t255 _ _ y256 t259 t260 t261 w0 _ ?side1 ?side2 ?side3 ?side4 ?side5 A7.out).mono ?_); (case side1 => repeat (first | (with_reducible first | exact HI0.out | apply IsS140.alloc | apply IsS140.drewN | apply IsS140.drew | apply IsS140.set_1 | apply IsS140.set_2 | refine IsS140.far ?_ NB0_242.out _ | refine IsS140.far ?_ NB0_252.out _) | exact HI0.out)); (case side2 => repeat (first | (with_reducible first | exact HB.out | apply below_alloc | apply pw_below_drewN | apply below_drew1 | refine below_set ?_ (IsS140.ge HI0.out) | refine below_set ?_ GE242.out | refine below_set ?_ GE252.out) | exact HB.out)); (case side3 => exact cr HO258); (case side4 => exact (Kd.R_reads' HO258.out).2.1); (case side5 => exact far_slice (IsS140.own_ne HI0.out HO258.out (by decide))); rintro e w20 ⟨rfl, hi, hb, hk⟩; refine ⟨_, rfl, ?_⟩; replace BK242 := Aside0.mk (KeepBut.blk hk (g' := gb242) (o := .cells #[.int .i64 0, .int .i64 0, .int .i64 0] 40 (0, 0)) (bk BK242) NB242_0.out (by simp)); replace BK252 := Aside0.mk (KeepBut.blk hk (g' := gb252) (o := .cells #[.int .i64 t243, .int .i64 t246, .int .i64 (wrap64 (1 + t249))] 40 (0, 0)) (bk BK252) NB252_0.out (by simp)); replace HO258 := Aside0.mk (Kd.R_mono (Kd.R_keep (IsS140.apart (show IsS140 w0 _ g s0_0 t254 t255 from by repeat (first | (with_reducible first | exact HI0.out | apply IsS140.alloc | apply IsS140.drewN | apply IsS140.drew | apply IsS140.set_1 | apply IsS140.set_2 | refine IsS140.far ?_ NB0_242.out _ | refine IsS140.far ?_ NB0_252.out _) | exact HI0.out)) (rk HO258) (by decide)) hk (fun _ h => h.2)) (fun _ h => h.1)); replace HK := Aside0.mk (KeepBut.trans (by repeat (first | (with_reducible first | exact HK.out | apply KeepBut.set_ | apply keep_drewN | apply keep_drew | apply keep_alloc | refine keep_far ?_ GW242.out _ | refine keep_far ?_ GW252.out _) | exact HK.out)) hk (.inl rfl)); replace HB := Aside0.mk (hb); replace HI0 := Aside0.mk (hi); (try clear hb); (try clear hk); (try clear hi); have hcz21_0 := bc0 BK252; have hcz21_1 := bc1 BK252; have hcz21_2 := bc2 BK252; have hfz21_0 := blk_frozen BK252.out 0; have hfz21_1 := blk_frozen BK252.out 1; have hfz21_2 := blk_frozen BK252.out 2; have hnb22 := NB242_0.out; have hnc22 := NB0_242.out; have hcz23_0 := bc0 BK242; have hcz23_1 := bc1 BK242; have hcz23_2 := bc2 BK242; have hfz23_0 := blk_frozen BK242.out 0; have hfz23_1 := blk_frozen BK242.out 1; have hfz23_2 := blk_frozen BK242.out 2))
  refine bodyPost_ret (results_cell_row rfl _ _ gb242 40 #[.int .i64 t259, .int .i64 t246, .int .i64 (wrap64 (1 + t249))] (0, 0) _ rfl (by (with_reducible repeat (first | refine blk_drewN ?_ _ | refine blk_drew ?_ | refine blk_alloc ?_ _)); refine blk_put (cs := #[.int .i64 t259, .int .i64 t246, .int .i64 0]) ?_ 2 _ rfl; (with_reducible repeat (first | refine blk_drewN ?_ _ | refine blk_drew ?_ | refine blk_alloc ?_ _)); refine blk_put (cs := #[.int .i64 t259, .int .i64 0, .int .i64 0]) ?_ 1 _ rfl; (with_reducible repeat (first | refine blk_drewN ?_ _ | refine blk_drew ?_ | refine blk_alloc ?_ _)); refine blk_put (cs := #[.int .i64 0, .int .i64 0, .int .i64 0]) ?_ 0 _ rfl; exact bk BK242) Try.underlying40 rfl (by kernel_rfl)) rfl ?_
  exact ⟨by first | rfl | (simp [errW_none, errW_some] <;> rfl) | (simp [*, errW_none, errW_some] <;> rfl), by repeat (first | (with_reducible first | exact HI0.out | apply IsS140.alloc | apply IsS140.drewN | apply IsS140.drew | apply IsS140.set_1 | apply IsS140.set_2 | refine IsS140.far ?_ NB0_242.out _ | refine IsS140.far ?_ NB0_252.out _) | exact HI0.out), by repeat (first | (with_reducible first | exact HB.out | apply below_alloc | apply pw_below_drewN | apply below_drew1 | refine below_set ?_ (IsS140.ge HI0.out) | refine below_set ?_ GE242.out | refine below_set ?_ GE252.out) | exact HB.out), by repeat (first | (with_reducible first | exact HK.out | apply KeepBut.set_ | apply keep_drewN | apply keep_drew | apply keep_alloc | refine keep_far ?_ GW242.out _ | refine keep_far ?_ GW252.out _) | exact HK.out)⟩
 rw [if_neg c6] at H
 have c6b0 : (t253 == 0) = false := beq_eq_false_iff_ne.mpr c6
 have c6b1 : (t253 != 0) = true := bne_iff_ne.mpr c6
 by_cases c24 : t253 = 1
 rotate_left
 ·rw [if_neg c24] at H
  have c24b0 : (t253 == 1) = false := beq_eq_false_iff_ne.mpr c24
  have c24b1 : (t253 != 1) = true := bne_iff_ne.mpr c24
  simp only [Option.some.injEq, Prod.mk.injEq] at H
  obtain ⟨rfl, rfl, rfl, rfl, rfl⟩ := H
  go_enter Try.func144, Try.ntmps144
  go_wp2_with (first | ((with_reducible refine gate_dst (N := 2) rfl ?_); refine bx 2 #[.int .i64 0, .int .i64 0, .int .i64 0] 40 ?_; intro gb242 hg w42 hbox hb; replace HB := Aside0.mk (below_step (by repeat (first | (with_reducible first | exact HB.out | apply below_alloc | apply pw_below_drewN | apply below_drew1 | refine below_set ?_ (IsS140.ge HI0.out)) | exact HB.out)) hb); have BK242 := Aside0.mk (hbox); have GW242 := Aside0.mk ((by rw [hg]; exact (keep_size (w := w) (g := g) (row := none) (by repeat (first | (with_reducible first | exact HK.out | apply KeepBut.set_ | apply keep_drewN | apply keep_drew | apply keep_alloc) | exact HK.out))) : w.heap.size ≤ gb242)); have GE242 := Aside0.mk ((Nat.le_trans HW0.out (by rw [hg]; exact (keep_size (w := w) (g := g) (row := none) (by repeat (first | (with_reducible first | exact HK.out | apply KeepBut.set_ | apply keep_drewN | apply keep_drew | apply keep_alloc) | exact HK.out))) : w.heap.size ≤ gb242) : w0.heap.size ≤ gb242)); replace HK := Aside0.mk (KeepBut.trans (by repeat (first | (with_reducible first | exact HK.out | apply KeepBut.set_ | apply keep_drewN | apply keep_drew | apply keep_alloc) | exact HK.out)) (KeepBut.of_below hb g none) (.inl rfl)); have NB0_242 := Aside0.mk ((by rw [hg]; exact Nat.ne_of_lt (IsS140.lt (show IsS140 w0 _ g s0_0 s0_1 s0_2 from by repeat (first | (with_reducible first | exact HI0.out | apply IsS140.alloc | apply IsS140.drewN | apply IsS140.drew | apply IsS140.set_1 | apply IsS140.set_2) | exact HI0.out))) : g ≠ gb242)); have NB242_0 := Aside0.mk ((by rw [hg]; exact Nat.ne_of_gt (IsS140.lt (show IsS140 w0 _ g s0_0 s0_1 s0_2 from by repeat (first | (with_reducible first | exact HI0.out | apply IsS140.alloc | apply IsS140.drewN | apply IsS140.drew | apply IsS140.set_1 | apply IsS140.set_2) | exact HI0.out))) : gb242 ≠ g)); replace HI0 := Aside0.mk (IsS140.below (by repeat (first | (with_reducible first | exact HI0.out | apply IsS140.alloc | apply IsS140.drewN | apply IsS140.drew | apply IsS140.set_1 | apply IsS140.set_2) | exact HI0.out)) hb); clear hb hbox hg) | ((with_reducible refine gate_callee (f := 142) rfl ?_); refine gl 5 Try.func142 #[.pointer (some ⟨g, 0, none⟩), .int .i64 9] ?_; (with_reducible refine (spec_l1Cur_pick.calls g s0_0 s0_1 s0_2 9 t243 t244 t245 w0 _ ?side1 ?side2 A2.out).mono ?_); (case side1 => repeat (first | (with_reducible first | exact HI0.out | apply IsS140.alloc | apply IsS140.drewN | apply IsS140.drew | apply IsS140.set_1 | apply IsS140.set_2 | refine IsS140.far ?_ NB0_242.out _) | exact HI0.out)); (case side2 => repeat (first | (with_reducible first | exact HB.out | apply below_alloc | apply pw_below_drewN | apply below_drew1 | refine below_set ?_ (IsS140.ge HI0.out) | refine below_set ?_ GE242.out) | exact HB.out)); rintro e w43 ⟨rfl, hi, hb, hk⟩; refine ⟨_, rfl, ?_⟩; replace BK242 := Aside0.mk (KeepBut.blk hk (g' := gb242) (o := .cells #[.int .i64 0, .int .i64 0, .int .i64 0] 40 (0, 0)) (bk BK242) NB242_0.out (by simp)); replace HK := Aside0.mk (KeepBut.trans (by repeat (first | (with_reducible first | exact HK.out | apply KeepBut.set_ | apply keep_drewN | apply keep_drew | apply keep_alloc | refine keep_far ?_ GW242.out _) | exact HK.out)) hk (.inl rfl)); replace HB := Aside0.mk (hb); replace HI0 := Aside0.mk (hi); (try clear hb); (try clear hk); (try clear hi)) | ((with_reducible refine gate_callee (f := 142) rfl ?_); refine gl 7 Try.func142 #[.pointer (some ⟨g, 0, none⟩), .int .i64 9] ?_; (with_reducible refine (spec_l1Cur_pick.calls g s0_0 t244 t245 9 t246 t247 t248 w0 _ ?side1 ?side2 A3.out).mono ?_); (case side1 => repeat (first | (with_reducible first | exact HI0.out | apply IsS140.alloc | apply IsS140.drewN | apply IsS140.drew | apply IsS140.set_1 | apply IsS140.set_2 | refine IsS140.far ?_ NB0_242.out _) | exact HI0.out)); (case side2 => repeat (first | (with_reducible first | exact HB.out | apply below_alloc | apply pw_below_drewN | apply below_drew1 | refine below_set ?_ (IsS140.ge HI0.out) | refine below_set ?_ GE242.out) | exact HB.out)); rintro e w44 ⟨rfl, hi, hb, hk⟩; refine ⟨_, rfl, ?_⟩; replace BK242 := Aside0.mk (KeepBut.blk hk (g' := gb242) (o := .cells #[.int .i64 0, .int .i64 0, .int .i64 0] 40 (0, 0)) (bk BK242) NB242_0.out (by simp)); replace HK := Aside0.mk (KeepBut.trans (by repeat (first | (with_reducible first | exact HK.out | apply KeepBut.set_ | apply keep_drewN | apply keep_drew | apply keep_alloc | refine keep_far ?_ GW242.out _) | exact HK.out)) hk (.inl rfl)); replace HB := Aside0.mk (hb); replace HI0 := Aside0.mk (hi); (try clear hb); (try clear hk); (try clear hi)) | ((with_reducible refine gate_callee (f := 142) rfl ?_); refine gl 9 Try.func142 #[.pointer (some ⟨g, 0, none⟩), .int .i64 20] ?_; (with_reducible refine (spec_l1Cur_pick.calls g s0_0 t247 t248 20 t249 t250 t251 w0 _ ?side1 ?side2 A4.out).mono ?_); (case side1 => repeat (first | (with_reducible first | exact HI0.out | apply IsS140.alloc | apply IsS140.drewN | apply IsS140.drew | apply IsS140.set_1 | apply IsS140.set_2 | refine IsS140.far ?_ NB0_242.out _) | exact HI0.out)); (case side2 => repeat (first | (with_reducible first | exact HB.out | apply below_alloc | apply pw_below_drewN | apply below_drew1 | refine below_set ?_ (IsS140.ge HI0.out) | refine below_set ?_ GE242.out) | exact HB.out)); rintro e w45 ⟨rfl, hi, hb, hk⟩; refine ⟨_, rfl, ?_⟩; replace BK242 := Aside0.mk (KeepBut.blk hk (g' := gb242) (o := .cells #[.int .i64 0, .int .i64 0, .int .i64 0] 40 (0, 0)) (bk BK242) NB242_0.out (by simp)); replace HK := Aside0.mk (KeepBut.trans (by repeat (first | (with_reducible first | exact HK.out | apply KeepBut.set_ | apply keep_drewN | apply keep_drew | apply keep_alloc | refine keep_far ?_ GW242.out _) | exact HK.out)) hk (.inl rfl)); replace HB := Aside0.mk (hb); replace HI0 := Aside0.mk (hi); (try clear hb); (try clear hk); (try clear hi)) | ((with_reducible refine gate_dst (N := 3) rfl ?_); refine bx 3 #[.int .i64 0, .int .i64 0, .int .i64 0] 40 ?_; intro gb252 hg w46 hbox hb; replace HB := Aside0.mk (below_step (by repeat (first | (with_reducible first | exact HB.out | apply below_alloc | apply pw_below_drewN | apply below_drew1 | refine below_set ?_ (IsS140.ge HI0.out) | refine below_set ?_ GE242.out) | exact HB.out)) hb); have BK252 := Aside0.mk (hbox); have GW252 := Aside0.mk ((by rw [hg]; exact (keep_size (w := w) (g := g) (row := none) (by repeat (first | (with_reducible first | exact HK.out | apply KeepBut.set_ | apply keep_drewN | apply keep_drew | apply keep_alloc | refine keep_far ?_ GW242.out _) | exact HK.out))) : w.heap.size ≤ gb252)); have GE252 := Aside0.mk ((Nat.le_trans HW0.out (by rw [hg]; exact (keep_size (w := w) (g := g) (row := none) (by repeat (first | (with_reducible first | exact HK.out | apply KeepBut.set_ | apply keep_drewN | apply keep_drew | apply keep_alloc | refine keep_far ?_ GW242.out _) | exact HK.out))) : w.heap.size ≤ gb252) : w0.heap.size ≤ gb252)); replace HK := Aside0.mk (KeepBut.trans (by repeat (first | (with_reducible first | exact HK.out | apply KeepBut.set_ | apply keep_drewN | apply keep_drew | apply keep_alloc | refine keep_far ?_ GW242.out _) | exact HK.out)) (KeepBut.of_below hb g none) (.inl rfl)); have NB242_252 := nl BK242 hg; have NB252_242 := nr BK242 hg; replace BK242 := bb BK242 hb; have NB0_252 := Aside0.mk ((by rw [hg]; exact Nat.ne_of_lt (IsS140.lt (show IsS140 w0 _ g s0_0 t250 t251 from by repeat (first | (with_reducible first | exact HI0.out | apply IsS140.alloc | apply IsS140.drewN | apply IsS140.drew | apply IsS140.set_1 | apply IsS140.set_2 | refine IsS140.far ?_ NB0_242.out _) | exact HI0.out))) : g ≠ gb252)); have NB252_0 := Aside0.mk ((by rw [hg]; exact Nat.ne_of_gt (IsS140.lt (show IsS140 w0 _ g s0_0 t250 t251 from by repeat (first | (with_reducible first | exact HI0.out | apply IsS140.alloc | apply IsS140.drewN | apply IsS140.drew | apply IsS140.set_1 | apply IsS140.set_2 | refine IsS140.far ?_ NB0_242.out _) | exact HI0.out))) : gb252 ≠ g)); replace HI0 := Aside0.mk (IsS140.below (by repeat (first | (with_reducible first | exact HI0.out | apply IsS140.alloc | apply IsS140.drewN | apply IsS140.drew | apply IsS140.set_1 | apply IsS140.set_2 | refine IsS140.far ?_ NB0_242.out _) | exact HI0.out)) hb); clear hb hbox hg; have hnb47 := NB252_242.out; have hnc47 := NB242_252.out; have hnb48 := NB252_0.out; have hnc48 := NB0_252.out; have hcz49_0 := bc0 BK252; have hcz49_1 := bc1 BK252; have hcz49_2 := bc2 BK252; have hfz49_0 := blk_frozen BK252.out 0; have hfz49_1 := blk_frozen BK252.out 1; have hfz49_2 := blk_frozen BK252.out 2) | ((with_reducible refine gate_callee (f := 142) rfl ?_); refine gl 13 Try.func142 #[.pointer (some ⟨g, 0, none⟩), .int .i64 16] ?_; (with_reducible refine (spec_l1Cur_pick.calls g s0_0 t250 t251 16 t253 t254 t255 w0 _ ?side1 ?side2 A5.out).mono ?_); (case side1 => repeat (first | (with_reducible first | exact HI0.out | apply IsS140.alloc | apply IsS140.drewN | apply IsS140.drew | apply IsS140.set_1 | apply IsS140.set_2 | refine IsS140.far ?_ NB0_242.out _ | refine IsS140.far ?_ NB0_252.out _) | exact HI0.out)); (case side2 => repeat (first | (with_reducible first | exact HB.out | apply below_alloc | apply pw_below_drewN | apply below_drew1 | refine below_set ?_ (IsS140.ge HI0.out) | refine below_set ?_ GE242.out | refine below_set ?_ GE252.out) | exact HB.out)); rintro e w50 ⟨rfl, hi, hb, hk⟩; refine ⟨_, rfl, ?_⟩; replace BK242 := Aside0.mk (KeepBut.blk hk (g' := gb242) (o := .cells #[.int .i64 0, .int .i64 0, .int .i64 0] 40 (0, 0)) (bk BK242) NB242_0.out (by simp)); replace BK252 := Aside0.mk (KeepBut.blk hk (g' := gb252) (o := .cells #[.int .i64 t243, .int .i64 t246, .int .i64 (wrap64 (1 + t249))] 40 (0, 0)) (by (with_reducible repeat (first | refine blk_drewN ?_ _ | refine blk_drew ?_ | refine blk_alloc ?_ _)); refine blk_put (cs := #[.int .i64 t243, .int .i64 t246, .int .i64 0]) ?_ 2 _ rfl; (with_reducible repeat (first | refine blk_drewN ?_ _ | refine blk_drew ?_ | refine blk_alloc ?_ _)); refine blk_put (cs := #[.int .i64 t243, .int .i64 0, .int .i64 0]) ?_ 1 _ rfl; (with_reducible repeat (first | refine blk_drewN ?_ _ | refine blk_drew ?_ | refine blk_alloc ?_ _)); refine blk_put (cs := #[.int .i64 0, .int .i64 0, .int .i64 0]) ?_ 0 _ rfl; exact bk BK252) NB252_0.out (by simp)); replace HK := Aside0.mk (KeepBut.trans (by repeat (first | (with_reducible first | exact HK.out | apply KeepBut.set_ | apply keep_drewN | apply keep_drew | apply keep_alloc | refine keep_far ?_ GW242.out _ | refine keep_far ?_ GW252.out _) | exact HK.out)) hk (.inl rfl)); replace HB := Aside0.mk (hb); replace HI0 := Aside0.mk (hi); (try clear hb); (try clear hk); (try clear hi); have hcz51_0 := bc0 BK252; have hcz51_1 := bc1 BK252; have hcz51_2 := bc2 BK252; have hfz51_0 := blk_frozen BK252.out 0; have hfz51_1 := blk_frozen BK252.out 1; have hfz51_2 := blk_frozen BK252.out 2; have hnb52 := NB242_0.out; have hnc52 := NB0_242.out; have hcz53_0 := bc0 BK242; have hcz53_1 := bc1 BK242; have hcz53_2 := bc2 BK242; have hfz53_0 := blk_frozen BK242.out 0; have hfz53_1 := blk_frozen BK242.out 1; have hfz53_2 := blk_frozen BK242.out 2))
  refine bodyPost_ret (results_cell_row rfl _ _ gb242 40 #[.int .i64 t243, .int .i64 t246, .int .i64 (wrap64 (1 + t249))] (0, 0) _ rfl (by (with_reducible repeat (first | refine blk_drewN ?_ _ | refine blk_drew ?_ | refine blk_alloc ?_ _)); refine blk_put (cs := #[.int .i64 t243, .int .i64 t246, .int .i64 0]) ?_ 2 _ rfl; (with_reducible repeat (first | refine blk_drewN ?_ _ | refine blk_drew ?_ | refine blk_alloc ?_ _)); refine blk_put (cs := #[.int .i64 t243, .int .i64 0, .int .i64 0]) ?_ 1 _ rfl; (with_reducible repeat (first | refine blk_drewN ?_ _ | refine blk_drew ?_ | refine blk_alloc ?_ _)); refine blk_put (cs := #[.int .i64 0, .int .i64 0, .int .i64 0]) ?_ 0 _ rfl; exact bk BK242) Try.underlying40 rfl (by kernel_rfl)) rfl ?_
  exact ⟨by first | rfl | (simp [errW_none, errW_some] <;> rfl) | (simp [*, errW_none, errW_some] <;> rfl), by repeat (first | (with_reducible first | exact HI0.out | apply IsS140.alloc | apply IsS140.drewN | apply IsS140.drew | apply IsS140.set_1 | apply IsS140.set_2 | refine IsS140.far ?_ NB0_242.out _ | refine IsS140.far ?_ NB0_252.out _) | exact HI0.out), by repeat (first | (with_reducible first | exact HB.out | apply below_alloc | apply pw_below_drewN | apply below_drew1 | refine below_set ?_ (IsS140.ge HI0.out) | refine below_set ?_ GE242.out | refine below_set ?_ GE252.out) | exact HB.out), by repeat (first | (with_reducible first | exact HK.out | apply KeepBut.set_ | apply keep_drewN | apply keep_drew | apply keep_alloc | refine keep_far ?_ GW242.out _ | refine keep_far ?_ GW252.out _) | exact HK.out)⟩
 rw [if_pos c24] at H
 have c24b0 : (t253 == 1) = true := beq_iff_eq.mpr c24
 have c24b1 : (t253 != 1) = false := bne_eq_false_iff_eq.mpr c24
 clear c24
 obtain ⟨y262, hy262⟩ : ∃ y_ : List Int, y_ = (([0, 1000, 1001, (-1)] : List Int)) := ⟨_, rfl⟩
 replace H : ((spec_l1Cur_among.f s0_0 t254 t255 y262).bind fun bt265 => (some (t243, t246, bt265.1, bt265.2.1, bt265.2.2))) = some (r1, r2, r3, r4, r5) := by first | (rw [hy262]; with_reducible exact H) | (have H2_ := (Option.bind_some _ _).symm.trans H; rw [hy262]; with_reducible exact H2_) | (have H2_ := (Option.bind_some _ _).symm.trans H; with_reducible exact H2_) | with_reducible exact H | (rw [hy262]; exact H) | exact H
 have Ny262 := Aside0.mk hy262
 clear hy262
 replace H := Option.bind_eq_some_iff.mp H
 obtain ⟨⟨t265, t266, t267⟩, A250, H⟩ := H
 replace H : (some (t243, t246, t265, t266, t267)) = some (r1, r2, r3, r4, r5) := H
 have A25 := Aside0.mk A250
 clear A250
 simp only [Option.some.injEq, Prod.mk.injEq] at H
 obtain ⟨rfl, rfl, rfl, rfl, rfl⟩ := H
 go_enter Try.func144, Try.ntmps144
 go_wp2_with (first | ((with_reducible refine gate_dst (N := 2) rfl ?_); refine bx 2 #[.int .i64 0, .int .i64 0, .int .i64 0] 40 ?_; intro gb242 hg w26 hbox hb; replace HB := Aside0.mk (below_step (by repeat (first | (with_reducible first | exact HB.out | apply below_alloc | apply pw_below_drewN | apply below_drew1 | refine below_set ?_ (IsS140.ge HI0.out)) | exact HB.out)) hb); have BK242 := Aside0.mk (hbox); have GW242 := Aside0.mk ((by rw [hg]; exact (keep_size (w := w) (g := g) (row := none) (by repeat (first | (with_reducible first | exact HK.out | apply KeepBut.set_ | apply keep_drewN | apply keep_drew | apply keep_alloc) | exact HK.out))) : w.heap.size ≤ gb242)); have GE242 := Aside0.mk ((Nat.le_trans HW0.out (by rw [hg]; exact (keep_size (w := w) (g := g) (row := none) (by repeat (first | (with_reducible first | exact HK.out | apply KeepBut.set_ | apply keep_drewN | apply keep_drew | apply keep_alloc) | exact HK.out))) : w.heap.size ≤ gb242) : w0.heap.size ≤ gb242)); replace HK := Aside0.mk (KeepBut.trans (by repeat (first | (with_reducible first | exact HK.out | apply KeepBut.set_ | apply keep_drewN | apply keep_drew | apply keep_alloc) | exact HK.out)) (KeepBut.of_below hb g none) (.inl rfl)); have NB0_242 := Aside0.mk ((by rw [hg]; exact Nat.ne_of_lt (IsS140.lt (show IsS140 w0 _ g s0_0 s0_1 s0_2 from by repeat (first | (with_reducible first | exact HI0.out | apply IsS140.alloc | apply IsS140.drewN | apply IsS140.drew | apply IsS140.set_1 | apply IsS140.set_2) | exact HI0.out))) : g ≠ gb242)); have NB242_0 := Aside0.mk ((by rw [hg]; exact Nat.ne_of_gt (IsS140.lt (show IsS140 w0 _ g s0_0 s0_1 s0_2 from by repeat (first | (with_reducible first | exact HI0.out | apply IsS140.alloc | apply IsS140.drewN | apply IsS140.drew | apply IsS140.set_1 | apply IsS140.set_2) | exact HI0.out))) : gb242 ≠ g)); replace HI0 := Aside0.mk (IsS140.below (by repeat (first | (with_reducible first | exact HI0.out | apply IsS140.alloc | apply IsS140.drewN | apply IsS140.drew | apply IsS140.set_1 | apply IsS140.set_2) | exact HI0.out)) hb); clear hb hbox hg) | ((with_reducible refine gate_callee (f := 142) rfl ?_); refine gl 5 Try.func142 #[.pointer (some ⟨g, 0, none⟩), .int .i64 9] ?_; (with_reducible refine (spec_l1Cur_pick.calls g s0_0 s0_1 s0_2 9 t243 t244 t245 w0 _ ?side1 ?side2 A2.out).mono ?_); (case side1 => repeat (first | (with_reducible first | exact HI0.out | apply IsS140.alloc | apply IsS140.drewN | apply IsS140.drew | apply IsS140.set_1 | apply IsS140.set_2 | refine IsS140.far ?_ NB0_242.out _) | exact HI0.out)); (case side2 => repeat (first | (with_reducible first | exact HB.out | apply below_alloc | apply pw_below_drewN | apply below_drew1 | refine below_set ?_ (IsS140.ge HI0.out) | refine below_set ?_ GE242.out) | exact HB.out)); rintro e w27 ⟨rfl, hi, hb, hk⟩; refine ⟨_, rfl, ?_⟩; replace BK242 := Aside0.mk (KeepBut.blk hk (g' := gb242) (o := .cells #[.int .i64 0, .int .i64 0, .int .i64 0] 40 (0, 0)) (bk BK242) NB242_0.out (by simp)); replace HK := Aside0.mk (KeepBut.trans (by repeat (first | (with_reducible first | exact HK.out | apply KeepBut.set_ | apply keep_drewN | apply keep_drew | apply keep_alloc | refine keep_far ?_ GW242.out _) | exact HK.out)) hk (.inl rfl)); replace HB := Aside0.mk (hb); replace HI0 := Aside0.mk (hi); (try clear hb); (try clear hk); (try clear hi)) | ((with_reducible refine gate_callee (f := 142) rfl ?_); refine gl 7 Try.func142 #[.pointer (some ⟨g, 0, none⟩), .int .i64 9] ?_; (with_reducible refine (spec_l1Cur_pick.calls g s0_0 t244 t245 9 t246 t247 t248 w0 _ ?side1 ?side2 A3.out).mono ?_); (case side1 => repeat (first | (with_reducible first | exact HI0.out | apply IsS140.alloc | apply IsS140.drewN | apply IsS140.drew | apply IsS140.set_1 | apply IsS140.set_2 | refine IsS140.far ?_ NB0_242.out _) | exact HI0.out)); (case side2 => repeat (first | (with_reducible first | exact HB.out | apply below_alloc | apply pw_below_drewN | apply below_drew1 | refine below_set ?_ (IsS140.ge HI0.out) | refine below_set ?_ GE242.out) | exact HB.out)); rintro e w28 ⟨rfl, hi, hb, hk⟩; refine ⟨_, rfl, ?_⟩; replace BK242 := Aside0.mk (KeepBut.blk hk (g' := gb242) (o := .cells #[.int .i64 0, .int .i64 0, .int .i64 0] 40 (0, 0)) (bk BK242) NB242_0.out (by simp)); replace HK := Aside0.mk (KeepBut.trans (by repeat (first | (with_reducible first | exact HK.out | apply KeepBut.set_ | apply keep_drewN | apply keep_drew | apply keep_alloc | refine keep_far ?_ GW242.out _) | exact HK.out)) hk (.inl rfl)); replace HB := Aside0.mk (hb); replace HI0 := Aside0.mk (hi); (try clear hb); (try clear hk); (try clear hi)) | ((with_reducible refine gate_callee (f := 142) rfl ?_); refine gl 9 Try.func142 #[.pointer (some ⟨g, 0, none⟩), .int .i64 20] ?_; (with_reducible refine (spec_l1Cur_pick.calls g s0_0 t247 t248 20 t249 t250 t251 w0 _ ?side1 ?side2 A4.out).mono ?_); (case side1 => repeat (first | (with_reducible first | exact HI0.out | apply IsS140.alloc | apply IsS140.drewN | apply IsS140.drew | apply IsS140.set_1 | apply IsS140.set_2 | refine IsS140.far ?_ NB0_242.out _) | exact HI0.out)); (case side2 => repeat (first | (with_reducible first | exact HB.out | apply below_alloc | apply pw_below_drewN | apply below_drew1 | refine below_set ?_ (IsS140.ge HI0.out) | refine below_set ?_ GE242.out) | exact HB.out)); rintro e w29 ⟨rfl, hi, hb, hk⟩; refine ⟨_, rfl, ?_⟩; replace BK242 := Aside0.mk (KeepBut.blk hk (g' := gb242) (o := .cells #[.int .i64 0, .int .i64 0, .int .i64 0] 40 (0, 0)) (bk BK242) NB242_0.out (by simp)); replace HK := Aside0.mk (KeepBut.trans (by repeat (first | (with_reducible first | exact HK.out | apply KeepBut.set_ | apply keep_drewN | apply keep_drew | apply keep_alloc | refine keep_far ?_ GW242.out _) | exact HK.out)) hk (.inl rfl)); replace HB := Aside0.mk (hb); replace HI0 := Aside0.mk (hi); (try clear hb); (try clear hk); (try clear hi)) | ((with_reducible refine gate_dst (N := 3) rfl ?_); refine bx 3 #[.int .i64 0, .int .i64 0, .int .i64 0] 40 ?_; intro gb252 hg w30 hbox hb; replace HB := Aside0.mk (below_step (by repeat (first | (with_reducible first | exact HB.out | apply below_alloc | apply pw_below_drewN | apply below_drew1 | refine below_set ?_ (IsS140.ge HI0.out) | refine below_set ?_ GE242.out) | exact HB.out)) hb); have BK252 := Aside0.mk (hbox); have GW252 := Aside0.mk ((by rw [hg]; exact (keep_size (w := w) (g := g) (row := none) (by repeat (first | (with_reducible first | exact HK.out | apply KeepBut.set_ | apply keep_drewN | apply keep_drew | apply keep_alloc | refine keep_far ?_ GW242.out _) | exact HK.out))) : w.heap.size ≤ gb252)); have GE252 := Aside0.mk ((Nat.le_trans HW0.out (by rw [hg]; exact (keep_size (w := w) (g := g) (row := none) (by repeat (first | (with_reducible first | exact HK.out | apply KeepBut.set_ | apply keep_drewN | apply keep_drew | apply keep_alloc | refine keep_far ?_ GW242.out _) | exact HK.out))) : w.heap.size ≤ gb252) : w0.heap.size ≤ gb252)); replace HK := Aside0.mk (KeepBut.trans (by repeat (first | (with_reducible first | exact HK.out | apply KeepBut.set_ | apply keep_drewN | apply keep_drew | apply keep_alloc | refine keep_far ?_ GW242.out _) | exact HK.out)) (KeepBut.of_below hb g none) (.inl rfl)); have NB242_252 := nl BK242 hg; have NB252_242 := nr BK242 hg; replace BK242 := bb BK242 hb; have NB0_252 := Aside0.mk ((by rw [hg]; exact Nat.ne_of_lt (IsS140.lt (show IsS140 w0 _ g s0_0 t250 t251 from by repeat (first | (with_reducible first | exact HI0.out | apply IsS140.alloc | apply IsS140.drewN | apply IsS140.drew | apply IsS140.set_1 | apply IsS140.set_2 | refine IsS140.far ?_ NB0_242.out _) | exact HI0.out))) : g ≠ gb252)); have NB252_0 := Aside0.mk ((by rw [hg]; exact Nat.ne_of_gt (IsS140.lt (show IsS140 w0 _ g s0_0 t250 t251 from by repeat (first | (with_reducible first | exact HI0.out | apply IsS140.alloc | apply IsS140.drewN | apply IsS140.drew | apply IsS140.set_1 | apply IsS140.set_2 | refine IsS140.far ?_ NB0_242.out _) | exact HI0.out))) : gb252 ≠ g)); replace HI0 := Aside0.mk (IsS140.below (by repeat (first | (with_reducible first | exact HI0.out | apply IsS140.alloc | apply IsS140.drewN | apply IsS140.drew | apply IsS140.set_1 | apply IsS140.set_2 | refine IsS140.far ?_ NB0_242.out _) | exact HI0.out)) hb); clear hb hbox hg; have hnb31 := NB252_242.out; have hnc31 := NB242_252.out; have hnb32 := NB252_0.out; have hnc32 := NB0_252.out; have hcz33_0 := bc0 BK252; have hcz33_1 := bc1 BK252; have hcz33_2 := bc2 BK252; have hfz33_0 := blk_frozen BK252.out 0; have hfz33_1 := blk_frozen BK252.out 1; have hfz33_2 := blk_frozen BK252.out 2) | ((with_reducible refine gate_callee (f := 142) rfl ?_); refine gl 13 Try.func142 #[.pointer (some ⟨g, 0, none⟩), .int .i64 16] ?_; (with_reducible refine (spec_l1Cur_pick.calls g s0_0 t250 t251 16 t253 t254 t255 w0 _ ?side1 ?side2 A5.out).mono ?_); (case side1 => repeat (first | (with_reducible first | exact HI0.out | apply IsS140.alloc | apply IsS140.drewN | apply IsS140.drew | apply IsS140.set_1 | apply IsS140.set_2 | refine IsS140.far ?_ NB0_242.out _ | refine IsS140.far ?_ NB0_252.out _) | exact HI0.out)); (case side2 => repeat (first | (with_reducible first | exact HB.out | apply below_alloc | apply pw_below_drewN | apply below_drew1 | refine below_set ?_ (IsS140.ge HI0.out) | refine below_set ?_ GE242.out | refine below_set ?_ GE252.out) | exact HB.out)); rintro e w34 ⟨rfl, hi, hb, hk⟩; refine ⟨_, rfl, ?_⟩; replace BK242 := Aside0.mk (KeepBut.blk hk (g' := gb242) (o := .cells #[.int .i64 0, .int .i64 0, .int .i64 0] 40 (0, 0)) (bk BK242) NB242_0.out (by simp)); replace BK252 := Aside0.mk (KeepBut.blk hk (g' := gb252) (o := .cells #[.int .i64 t243, .int .i64 t246, .int .i64 (wrap64 (1 + t249))] 40 (0, 0)) (by (with_reducible repeat (first | refine blk_drewN ?_ _ | refine blk_drew ?_ | refine blk_alloc ?_ _)); refine blk_put (cs := #[.int .i64 t243, .int .i64 t246, .int .i64 0]) ?_ 2 _ rfl; (with_reducible repeat (first | refine blk_drewN ?_ _ | refine blk_drew ?_ | refine blk_alloc ?_ _)); refine blk_put (cs := #[.int .i64 t243, .int .i64 0, .int .i64 0]) ?_ 1 _ rfl; (with_reducible repeat (first | refine blk_drewN ?_ _ | refine blk_drew ?_ | refine blk_alloc ?_ _)); refine blk_put (cs := #[.int .i64 0, .int .i64 0, .int .i64 0]) ?_ 0 _ rfl; exact bk BK252) NB252_0.out (by simp)); replace HK := Aside0.mk (KeepBut.trans (by repeat (first | (with_reducible first | exact HK.out | apply KeepBut.set_ | apply keep_drewN | apply keep_drew | apply keep_alloc | refine keep_far ?_ GW242.out _ | refine keep_far ?_ GW252.out _) | exact HK.out)) hk (.inl rfl)); replace HB := Aside0.mk (hb); replace HI0 := Aside0.mk (hi); (try clear hb); (try clear hk); (try clear hi)) | ((with_reducible refine gate_dst (N := 23) rfl ?_); refine Kd.R_lit (Kd.int .i64) _ 3 ?hg (N := 23) ?hd (xs := ([0, 1000, 1001, (-1)] : List Int)) (inner := [.int .i64 0, .int .i64 1000, .int .i64 1001, .int .i64 (-1)]) (ok := fun _ => True) (okp := fun _ => True) ?hr ?hp (fun _ hk => hk) trivial (Below.refl _ _) (Nat.le_refl _) (by simp) ?_; (case hd => rfl); (case hg => rfl); (case hr => first | (go_simp; done) | (go_simp; rfl)); (case hp => exact (Reps.one (show Kd.M (Kd.int .i64) _ _ _ 0 [.int .i64 0] from rfl) (Reps.one (show Kd.M (Kd.int .i64) _ _ _ 1000 [.int .i64 1000] from rfl) (Reps.one (show Kd.M (Kd.int .i64) _ _ _ 1001 [.int .i64 1001] from rfl) (Reps.one (show Kd.M (Kd.int .i64) _ _ _ (-1) [.int .i64 (-1)] from rfl) (Reps.none _ _)))))); intro v263 w35 ho36 hb hg_ hnew_; clear hg_ hnew_; (first | rw [← Ny262.out] at ho36 | (simp only [Int.reduceToNat] at ho36; rw [← Ny262.out] at ho36)); have HO264 := Aside0.mk (Kd.R_lower ho36 (keep_size (w := w) (g := g) (row := none) (by repeat (first | (with_reducible first | exact HK.out | apply KeepBut.set_ | apply keep_drewN | apply keep_drew | apply keep_alloc | refine keep_far ?_ GW242.out _ | refine keep_far ?_ GW252.out _) | exact HK.out)))); replace BK242 := bb BK242 hb; replace BK252 := bb BK252 hb; replace HK := Aside0.mk (KeepBut.trans (by repeat (first | (with_reducible first | exact HK.out | apply KeepBut.set_ | apply keep_drewN | apply keep_drew | apply keep_alloc | refine keep_far ?_ GW242.out _ | refine keep_far ?_ GW252.out _) | exact HK.out)) (KeepBut.of_below hb g none) (.inl rfl)); replace HB := Aside0.mk (below_step (by repeat (first | (with_reducible first | exact HB.out | apply below_alloc | apply pw_below_drewN | apply below_drew1 | refine below_set ?_ (IsS140.ge HI0.out) | refine below_set ?_ GE242.out | refine below_set ?_ GE252.out) | exact HB.out)) hb); replace HI0 := Aside0.mk (IsS140.below (by repeat (first | (with_reducible first | exact HI0.out | apply IsS140.alloc | apply IsS140.drewN | apply IsS140.drew | apply IsS140.set_1 | apply IsS140.set_2 | refine IsS140.far ?_ NB0_242.out _ | refine IsS140.far ?_ NB0_252.out _) | exact HI0.out)) hb); clear hb ho36; obtain ⟨Ao37, co37, eo37⟩ := Kd.R_slice HO264.out; subst eo37) | ((with_reducible refine gate_callee (f := 145) rfl ?_); refine gl 24 Try.func145 #[.pointer (some ⟨g, 0, none⟩), .slice Ao37 y262.length co37] ?_; (with_reducible refine (spec_l1Cur_among.calls g s0_0 t254 t255 _ _ y262 t265 t266 t267 w0 _ ?side1 ?side2 ?side3 ?side4 ?side5 A25.out).mono ?_); (case side1 => repeat (first | (with_reducible first | exact HI0.out | apply IsS140.alloc | apply IsS140.drewN | apply IsS140.drew | apply IsS140.set_1 | apply IsS140.set_2 | refine IsS140.far ?_ NB0_242.out _ | refine IsS140.far ?_ NB0_252.out _) | exact HI0.out)); (case side2 => repeat (first | (with_reducible first | exact HB.out | apply below_alloc | apply pw_below_drewN | apply below_drew1 | refine below_set ?_ (IsS140.ge HI0.out) | refine below_set ?_ GE242.out | refine below_set ?_ GE252.out) | exact HB.out)); (case side3 => exact cr HO264); (case side4 => exact (Kd.R_reads' HO264.out).2.1); (case side5 => exact far_slice (IsS140.own_ne HI0.out HO264.out (by decide))); rintro e w38 ⟨rfl, hi, hb, hk⟩; refine ⟨_, rfl, ?_⟩; replace BK242 := Aside0.mk (KeepBut.blk hk (g' := gb242) (o := .cells #[.int .i64 0, .int .i64 0, .int .i64 0] 40 (0, 0)) (bk BK242) NB242_0.out (by simp)); replace BK252 := Aside0.mk (KeepBut.blk hk (g' := gb252) (o := .cells #[.int .i64 t243, .int .i64 t246, .int .i64 (wrap64 (1 + t249))] 40 (0, 0)) (bk BK252) NB252_0.out (by simp)); replace HO264 := Aside0.mk (Kd.R_mono (Kd.R_keep (IsS140.apart (show IsS140 w0 _ g s0_0 t254 t255 from by repeat (first | (with_reducible first | exact HI0.out | apply IsS140.alloc | apply IsS140.drewN | apply IsS140.drew | apply IsS140.set_1 | apply IsS140.set_2 | refine IsS140.far ?_ NB0_242.out _ | refine IsS140.far ?_ NB0_252.out _) | exact HI0.out)) (rk HO264) (by decide)) hk (fun _ h => h.2)) (fun _ h => h.1)); replace HK := Aside0.mk (KeepBut.trans (by repeat (first | (with_reducible first | exact HK.out | apply KeepBut.set_ | apply keep_drewN | apply keep_drew | apply keep_alloc | refine keep_far ?_ GW242.out _ | refine keep_far ?_ GW252.out _) | exact HK.out)) hk (.inl rfl)); replace HB := Aside0.mk (hb); replace HI0 := Aside0.mk (hi); (try clear hb); (try clear hk); (try clear hi); have hcz39_0 := bc0 BK252; have hcz39_1 := bc1 BK252; have hcz39_2 := bc2 BK252; have hfz39_0 := blk_frozen BK252.out 0; have hfz39_1 := blk_frozen BK252.out 1; have hfz39_2 := blk_frozen BK252.out 2; have hnb40 := NB242_0.out; have hnc40 := NB0_242.out; have hcz41_0 := bc0 BK242; have hcz41_1 := bc1 BK242; have hcz41_2 := bc2 BK242; have hfz41_0 := blk_frozen BK242.out 0; have hfz41_1 := blk_frozen BK242.out 1; have hfz41_2 := blk_frozen BK242.out 2))
 refine bodyPost_ret (results_cell_row rfl _ _ gb242 40 #[.int .i64 t243, .int .i64 t246, .int .i64 t265] (0, 0) _ rfl (by (with_reducible repeat (first | refine blk_drewN ?_ _ | refine blk_drew ?_ | refine blk_alloc ?_ _)); refine blk_put (cs := #[.int .i64 t243, .int .i64 t246, .int .i64 0]) ?_ 2 _ rfl; (with_reducible repeat (first | refine blk_drewN ?_ _ | refine blk_drew ?_ | refine blk_alloc ?_ _)); refine blk_put (cs := #[.int .i64 t243, .int .i64 0, .int .i64 0]) ?_ 1 _ rfl; (with_reducible repeat (first | refine blk_drewN ?_ _ | refine blk_drew ?_ | refine blk_alloc ?_ _)); refine blk_put (cs := #[.int .i64 0, .int .i64 0, .int .i64 0]) ?_ 0 _ rfl; exact bk BK242) Try.underlying40 rfl (by kernel_rfl)) rfl ?_
 exact ⟨by first | rfl | (simp [errW_none, errW_some] <;> rfl) | (simp [*, errW_none, errW_some] <;> rfl), by repeat (first | (with_reducible first | exact HI0.out | apply IsS140.alloc | apply IsS140.drewN | apply IsS140.drew | apply IsS140.set_1 | apply IsS140.set_2 | refine IsS140.far ?_ NB0_242.out _ | refine IsS140.far ?_ NB0_252.out _) | exact HI0.out), by repeat (first | (with_reducible first | exact HB.out | apply below_alloc | apply pw_below_drewN | apply below_drew1 | refine below_set ?_ (IsS140.ge HI0.out) | refine below_set ?_ GE242.out | refine below_set ?_ GE252.out) | exact HB.out), by repeat (first | (with_reducible first | exact HK.out | apply KeepBut.set_ | apply keep_drewN | apply keep_drew | apply keep_alloc | refine keep_far ?_ GW242.out _ | refine keep_far ?_ GW252.out _) | exact HK.out)⟩

/-! ### spec_DrawScaleEvents: function 23 -/
def spec_DrawScaleEvents.f (l0 : List Int) : Option (Int × Int × Int × Int) := (spec_l1Cur_scale.f l0 0 0).bind fun bt270 => ((spec_l1Cur_among.f l0 bt270.2.2.2.1 bt270.2.2.2.2 (([0, 1, 10, 40, 200, 201, (-1)] : List Int))).bind fun bt278 => (some (bt270.1, bt270.2.1, bt270.2.2.1, bt278.1)))
set_option maxHeartbeats 8000000 in
set_option maxRecDepth 100000 in
theorem spec_DrawScaleEvents.calls (A0 : Option Addr) (c0 : Nat) (l0 : List Int) (r1 : Int) (r2 : Int) (r3 : Int) (r4 : Int) (w : World) (hr0 : Kd.C (Kd.int .u8) w A0 l0.length l0) (hc0 : l0.length ≤ c0) (h : spec_DrawScaleEvents.f l0 = some (r1, r2, r3, r4)) :
  Calls Try.prog 23 #[.slice A0 l0.length c0] w fun e w' => e = .returned (.tuple #[.agg #[.int .i64 r1, .int .i64 r2, .int .i64 r3], .int .i64 r4]) ∧ Below w.heap.size w w' := by
 have hu40 := Try.underlying40
 have hu140 := Try.underlying140
 have HR0 := Aside0.mk hr0
 have HC0 := Aside0.mk hc0
 clear hr0 hc0
 have HB := Aside0.mk (Below.refl w.heap.size w)
 have H : ((spec_l1Cur_scale.f l0 0 0).bind fun bt270 => ((spec_l1Cur_among.f l0 bt270.2.2.2.1 bt270.2.2.2.2 (([0, 1, 10, 40, 200, 201, (-1)] : List Int))).bind fun bt278 => (some (bt270.1, bt270.2.1, bt270.2.2.1, bt278.1)))) = some (r1, r2, r3, r4) := h
 clear h
 replace H := Option.bind_eq_some_iff.mp H
 obtain ⟨⟨t270, t271, t272, t273, t274⟩, A20, H⟩ := H
 replace H : ((spec_l1Cur_among.f l0 t273 t274 (([0, 1, 10, 40, 200, 201, (-1)] : List Int))).bind fun bt278 => (some (t270, t271, t272, bt278.1))) = some (r1, r2, r3, r4) := H
 have A2 := Aside0.mk A20
 clear A20
 obtain ⟨y275, hy275⟩ : ∃ y_ : List Int, y_ = (([0, 1, 10, 40, 200, 201, (-1)] : List Int)) := ⟨_, rfl⟩
 replace H : ((spec_l1Cur_among.f l0 t273 t274 y275).bind fun bt278 => (some (t270, t271, t272, bt278.1))) = some (r1, r2, r3, r4) := by first | (rw [hy275]; with_reducible exact H) | (have H2_ := (Option.bind_some _ _).symm.trans H; rw [hy275]; with_reducible exact H2_) | (have H2_ := (Option.bind_some _ _).symm.trans H; with_reducible exact H2_) | with_reducible exact H | (rw [hy275]; exact H) | exact H
 have Ny275 := Aside0.mk hy275
 clear hy275
 replace H := Option.bind_eq_some_iff.mp H
 obtain ⟨⟨t278, t279, t280⟩, A30, H⟩ := H
 replace H : (some (t270, t271, t272, t278)) = some (r1, r2, r3, r4) := H
 have A3 := Aside0.mk A30
 clear A30
 simp only [Option.some.injEq, Prod.mk.injEq] at H
 obtain ⟨rfl, rfl, rfl, rfl⟩ := H
 go_enter Try.func23, Try.ntmps23
 go_wp2_with (first | ((with_reducible refine gate_dst (N := 2) rfl ?_); refine bx 2 #[.int .i64 0, .int .i64 0, .int .i64 0] 40 ?_; intro gb268 hg w4 hbox hb; have BK268 := Aside0.mk (hbox); have GW268 := ge HB hg; have GE268 := ge HB hg; replace HB := bs HB hb; clear hb hbox hg) | ((with_reducible refine gate_dst (N := 7) rfl ?_); refine bx 7 #[.slice A0 l0.length c0, .int .i64 0, .int .u64 0] 140 ?_; intro gb269 hg w5 hbox hb; have HI269 := Aside0.mk ((⟨_, _, hbox, (by rw [hg]; exact (below_size (bw HB)) : w.heap.size ≤ gb269), HR0.out⟩ : IsS140 w _ gb269 l0 0 0)); replace HB := bs HB hb; have NB268_269 := nl BK268 hg; have NB269_268 := nr BK268 hg; replace BK268 := bb BK268 hb; clear hb hbox hg) | ((with_reducible refine gate_callee (f := 144) rfl ?_); refine gl 9 Try.func144 #[.pointer (some ⟨gb269, 0, none⟩)] ?_; (with_reducible refine (spec_l1Cur_scale.calls gb269 l0 0 0 t270 t271 t272 t273 t274 w _ ?side1 ?side2 A2.out).mono ?_); (case side1 => repeat (first | (with_reducible first | exact HI269.out | apply IsS140.alloc | apply IsS140.drewN | apply IsS140.drew | apply IsS140.set_1 | apply IsS140.set_2 | refine IsS140.far ?_ NB269_268.out _) | exact HI269.out)); (case side2 => repeat (first | (with_reducible first | exact HB.out | apply below_alloc | apply pw_below_drewN | apply below_drew1 | refine below_set ?_ (IsS140.ge HI269.out) | refine below_set ?_ GE268.out) | exact HB.out)); rintro e w6 ⟨rfl, hi, hb, hk⟩; refine ⟨_, rfl, ?_⟩; replace BK268 := Aside0.mk (KeepBut.blk hk (g' := gb268) (o := .cells #[.int .i64 0, .int .i64 0, .int .i64 0] 40 (0, 0)) (bk BK268) NB268_269.out (by simp)); replace HB := Aside0.mk (hb); replace HI269 := Aside0.mk (hi); (try clear hb); (try clear hk); (try clear hi)) | ((with_reducible refine gate_dst (N := 11) rfl ?_); refine Kd.R_lit (Kd.int .i64) _ 3 ?hg (N := 11) ?hd (xs := ([0, 1, 10, 40, 200, 201, (-1)] : List Int)) (inner := [.int .i64 0, .int .i64 1, .int .i64 10, .int .i64 40, .int .i64 200, .int .i64 201, .int .i64 (-1)]) (ok := fun _ => True) (okp := fun _ => True) ?hr ?hp (fun _ hk => hk) trivial (Below.refl _ _) (Nat.le_refl _) (by simp) ?_; (case hd => rfl); (case hg => rfl); (case hr => first | (go_simp; done) | (go_simp; rfl)); (case hp => exact (Reps.one (show Kd.M (Kd.int .i64) _ _ _ 0 [.int .i64 0] from rfl) (Reps.one (show Kd.M (Kd.int .i64) _ _ _ 1 [.int .i64 1] from rfl) (Reps.one (show Kd.M (Kd.int .i64) _ _ _ 10 [.int .i64 10] from rfl) (Reps.one (show Kd.M (Kd.int .i64) _ _ _ 40 [.int .i64 40] from rfl) (Reps.one (show Kd.M (Kd.int .i64) _ _ _ 200 [.int .i64 200] from rfl) (Reps.one (show Kd.M (Kd.int .i64) _ _ _ 201 [.int .i64 201] from rfl) (Reps.one (show Kd.M (Kd.int .i64) _ _ _ (-1) [.int .i64 (-1)] from rfl) (Reps.none _ _))))))))); intro v276 w7 ho8 hb hg_ hnew_; clear hg_ hnew_; (first | rw [← Ny275.out] at ho8 | (simp only [Int.reduceToNat] at ho8; rw [← Ny275.out] at ho8)); have HO277 := Aside0.mk (Kd.R_lower ho8 (below_size (by repeat (first | (with_reducible first | exact HB.out | apply below_alloc | apply pw_below_drewN | apply below_drew1 | refine below_set ?_ (IsS140.ge HI269.out) | refine below_set ?_ GE268.out) | exact HB.out)))); replace BK268 := bb BK268 hb; replace HB := Aside0.mk (below_step (by repeat (first | (with_reducible first | exact HB.out | apply below_alloc | apply pw_below_drewN | apply below_drew1 | refine below_set ?_ (IsS140.ge HI269.out) | refine below_set ?_ GE268.out) | exact HB.out)) hb); replace HI269 := Aside0.mk (IsS140.below (by repeat (first | (with_reducible first | exact HI269.out | apply IsS140.alloc | apply IsS140.drewN | apply IsS140.drew | apply IsS140.set_1 | apply IsS140.set_2 | refine IsS140.far ?_ NB269_268.out _) | exact HI269.out)) hb); clear hb ho8; obtain ⟨Ao9, co9, eo9⟩ := Kd.R_slice HO277.out; subst eo9) | ((with_reducible refine gate_callee (f := 145) rfl ?_); refine gl 12 Try.func145 #[.pointer (some ⟨gb269, 0, none⟩), .slice Ao9 y275.length co9] ?_; (with_reducible refine (spec_l1Cur_among.calls gb269 l0 t273 t274 _ _ y275 t278 t279 t280 w _ ?side1 ?side2 ?side3 ?side4 ?side5 A3.out).mono ?_); (case side1 => repeat (first | (with_reducible first | exact HI269.out | apply IsS140.alloc | apply IsS140.drewN | apply IsS140.drew | apply IsS140.set_1 | apply IsS140.set_2 | refine IsS140.far ?_ NB269_268.out _) | exact HI269.out)); (case side2 => repeat (first | (with_reducible first | exact HB.out | apply below_alloc | apply pw_below_drewN | apply below_drew1 | refine below_set ?_ (IsS140.ge HI269.out) | refine below_set ?_ GE268.out) | exact HB.out)); (case side3 => exact cr HO277); (case side4 => exact (Kd.R_reads' HO277.out).2.1); (case side5 => exact far_slice (IsS140.own_ne HI269.out HO277.out (by decide))); rintro e w10 ⟨rfl, hi, hb, hk⟩; refine ⟨_, rfl, ?_⟩; replace BK268 := Aside0.mk (KeepBut.blk hk (g' := gb268) (o := .cells #[.int .i64 0, .int .i64 0, .int .i64 0] 40 (0, 0)) (bk BK268) NB268_269.out (by simp)); replace HO277 := Aside0.mk (Kd.R_mono (Kd.R_keep (IsS140.apart (show IsS140 w _ gb269 l0 t273 t274 from by repeat (first | (with_reducible first | exact HI269.out | apply IsS140.alloc | apply IsS140.drewN | apply IsS140.drew | apply IsS140.set_1 | apply IsS140.set_2 | refine IsS140.far ?_ NB269_268.out _) | exact HI269.out)) (rk HO277) (by decide)) hk (fun _ h => h.2)) (fun _ h => h.1)); replace HB := Aside0.mk (hb); replace HI269 := Aside0.mk (hi); (try clear hb); (try clear hk); (try clear hi); have hnb11 := NB268_269.out; have hnc11 := NB269_268.out; have hcz12_0 := bc0 BK268; have hcz12_1 := bc1 BK268; have hcz12_2 := bc2 BK268; have hfz12_0 := blk_frozen BK268.out 0; have hfz12_1 := blk_frozen BK268.out 1; have hfz12_2 := blk_frozen BK268.out 2))
 refine bodyPost_ret (results_ct rfl _ _ gb268 40 #[.int .i64 t270, .int .i64 t271, .int .i64 t272] (0, 0) _ rfl (by (with_reducible repeat (first | refine blk_drewN ?_ _ | refine blk_drew ?_ | refine blk_alloc ?_ _)); refine blk_put (cs := #[.int .i64 t270, .int .i64 t271, .int .i64 0]) ?_ 2 _ rfl; (with_reducible repeat (first | refine blk_drewN ?_ _ | refine blk_drew ?_ | refine blk_alloc ?_ _)); refine blk_put (cs := #[.int .i64 t270, .int .i64 0, .int .i64 0]) ?_ 1 _ rfl; (with_reducible repeat (first | refine blk_drewN ?_ _ | refine blk_drew ?_ | refine blk_alloc ?_ _)); refine blk_put (cs := #[.int .i64 0, .int .i64 0, .int .i64 0]) ?_ 0 _ rfl; exact bk BK268) Try.underlying40 rfl (by kernel_rfl)) rfl ?_
 exact ⟨by first | rfl | (simp [errW_none, errW_some] <;> rfl) | (simp [*, errW_none, errW_some] <;> rfl), by repeat (first | (with_reducible first | exact HB.out | apply below_alloc | apply pw_below_drewN | apply below_drew1 | refine below_set ?_ (IsS140.ge HI269.out) | refine below_set ?_ GE268.out) | exact HB.out)⟩

/-! ### impl_isScale: function 146 -/
def impl_isScale.f (a0_0 : Int) (a0_1 : Int) (a0_2 : Int) : Option (Bool) := (impl_within.f a0_0 0 60).bind fun t282 => (if t282 = true then ((impl_within.f a0_1 0 60).bind fun t283 => (if t283 = true then ((impl_within.f a0_2 1 1000).bind fun t284 => (some t284)) else (some false))) else (some false))
set_option maxHeartbeats 8000000 in
set_option maxRecDepth 100000 in
theorem impl_isScale.calls (a0_0 : Int) (a0_1 : Int) (a0_2 : Int) (r : Bool) (w : World) (h : impl_isScale.f a0_0 a0_1 a0_2 = some r) :
  Calls Try.prog 146 #[.agg #[.int .i64 a0_0, .int .i64 a0_1, .int .i64 a0_2]] w fun e w' => e = .returned (.bool r) ∧ Below w.heap.size w w' := by
 have hu40 := Try.underlying40
 have HB := Aside0.mk (Below.refl w.heap.size w)
 have H : ((impl_within.f a0_0 0 60).bind fun t282 => (if t282 = true then ((impl_within.f a0_1 0 60).bind fun t283 => (if t283 = true then ((impl_within.f a0_2 1 1000).bind fun t284 => (some t284)) else (some false))) else (some false))) = some r := h
 clear h
 replace H := Option.bind_eq_some_iff.mp H
 obtain ⟨t282, A20, H⟩ := H
 replace H : (if t282 = true then ((impl_within.f a0_1 0 60).bind fun t283 => (if t283 = true then ((impl_within.f a0_2 1 1000).bind fun t284 => (some t284)) else (some false))) else (some false)) = some r := H
 have A2 := Aside0.mk A20
 clear A20
 by_cases c3 : t282 = true
 rotate_left
 ·replace c3 := Bool.eq_false_iff.mpr c3
  subst c3
  have H1 : (some false) = some r := by rw [if_neg (show ¬ (false = true) by decide)] at H; exact H
  clear H
  have H := H1
  clear H1
  obtain rfl := Option.some.inj H
  go_enter Try.func146, Try.ntmps146
  go_wp2_with (first | ((with_reducible refine gate_dst (N := 1) rfl ?_); refine bx 1 #[.int .i64 a0_0, .int .i64 a0_1, .int .i64 a0_2] 40 ?_; intro gb281 hg w11 hbox hb; have BK281 := Aside0.mk (hbox); have GW281 := ge HB hg; have GE281 := ge HB hg; replace HB := bs HB hb; clear hb hbox hg; have hcz12_0 := bc0 BK281; have hcz12_1 := bc1 BK281; have hcz12_2 := bc2 BK281; have hfz12_0 := blk_frozen BK281.out 0; have hfz12_1 := blk_frozen BK281.out 1; have hfz12_2 := blk_frozen BK281.out 2) | ((with_reducible refine gate_callee (f := 141) rfl ?_); refine gl 5 Try.func141 #[.int .i64 a0_0, .int .i64 0, .int .i64 60] ?_; (with_reducible refine (impl_within.calls a0_0 0 60 false _ A2.out).mono ?_); rintro e w' ⟨rfl, ⟨nd, rfl⟩⟩; refine ⟨_, rfl, ?_⟩))
  go_ret
  exact ⟨by first | rfl | (simp [errW_none, errW_some] <;> rfl) | (simp [*, errW_none, errW_some] <;> rfl), bw HB⟩
 subst c3
 have H1 : ((impl_within.f a0_1 0 60).bind fun t283 => (if t283 = true then ((impl_within.f a0_2 1 1000).bind fun t284 => (some t284)) else (some false))) = some r := by rw [if_pos rfl] at H; exact H
 clear H
 have H := H1
 clear H1
 replace H := Option.bind_eq_some_iff.mp H
 obtain ⟨t283, A40, H⟩ := H
 replace H : (if t283 = true then ((impl_within.f a0_2 1 1000).bind fun t284 => (some t284)) else (some false)) = some r := H
 have A4 := Aside0.mk A40
 clear A40
 by_cases c5 : t283 = true
 rotate_left
 ·replace c5 := Bool.eq_false_iff.mpr c5
  subst c5
  have H1 : (some false) = some r := by rw [if_neg (show ¬ (false = true) by decide)] at H; exact H
  clear H
  have H := H1
  clear H1
  obtain rfl := Option.some.inj H
  go_enter Try.func146, Try.ntmps146
  go_wp2_with (first | ((with_reducible refine gate_dst (N := 1) rfl ?_); refine bx 1 #[.int .i64 a0_0, .int .i64 a0_1, .int .i64 a0_2] 40 ?_; intro gb281 hg w9 hbox hb; have BK281 := Aside0.mk (hbox); have GW281 := ge HB hg; have GE281 := ge HB hg; replace HB := bs HB hb; clear hb hbox hg; have hcz10_0 := bc0 BK281; have hcz10_1 := bc1 BK281; have hcz10_2 := bc2 BK281; have hfz10_0 := blk_frozen BK281.out 0; have hfz10_1 := blk_frozen BK281.out 1; have hfz10_2 := blk_frozen BK281.out 2) | ((with_reducible refine gate_callee (f := 141) rfl ?_); refine gl 5 Try.func141 #[.int .i64 a0_0, .int .i64 0, .int .i64 60] ?_; (with_reducible refine (impl_within.calls a0_0 0 60 true _ A2.out).mono ?_); rintro e w' ⟨rfl, ⟨nd, rfl⟩⟩; refine ⟨_, rfl, ?_⟩) | (go_at_call 141; (with_reducible refine (impl_within.calls a0_1 0 60 false _ A4.out).mono ?_); rintro e w' ⟨rfl, ⟨nd, rfl⟩⟩))
  go_ret
  exact ⟨by first | rfl | (simp [errW_none, errW_some] <;> rfl) | (simp [*, errW_none, errW_some] <;> rfl), bw HB⟩
 subst c5
 have H1 : ((impl_within.f a0_2 1 1000).bind fun t284 => (some t284)) = some r := by rw [if_pos rfl] at H; exact H
 clear H
 have H := H1
 clear H1
 replace H := Option.bind_eq_some_iff.mp H
 obtain ⟨t284, A60, H⟩ := H
 replace H : (some t284) = some r := H
 have A6 := Aside0.mk A60
 clear A60
 obtain rfl := Option.some.inj H
 go_enter Try.func146, Try.ntmps146
 go_wp2_with (first | ((with_reducible refine gate_dst (N := 1) rfl ?_); refine bx 1 #[.int .i64 a0_0, .int .i64 a0_1, .int .i64 a0_2] 40 ?_; intro gb281 hg w7 hbox hb; have BK281 := Aside0.mk (hbox); have GW281 := ge HB hg; have GE281 := ge HB hg; replace HB := bs HB hb; clear hb hbox hg; have hcz8_0 := bc0 BK281; have hcz8_1 := bc1 BK281; have hcz8_2 := bc2 BK281; have hfz8_0 := blk_frozen BK281.out 0; have hfz8_1 := blk_frozen BK281.out 1; have hfz8_2 := blk_frozen BK281.out 2) | ((with_reducible refine gate_callee (f := 141) rfl ?_); refine gl 5 Try.func141 #[.int .i64 a0_0, .int .i64 0, .int .i64 60] ?_; (with_reducible refine (impl_within.calls a0_0 0 60 true _ A2.out).mono ?_); rintro e w' ⟨rfl, ⟨nd, rfl⟩⟩; refine ⟨_, rfl, ?_⟩) | (go_at_call 141; (with_reducible refine (impl_within.calls a0_1 0 60 true _ A4.out).mono ?_); rintro e w' ⟨rfl, ⟨nd, rfl⟩⟩) | (go_at_call 141; (with_reducible refine (impl_within.calls a0_2 1 1000 t284 _ A6.out).mono ?_); rintro e w' ⟨rfl, ⟨nd, rfl⟩⟩))
 go_ret
 exact ⟨by first | rfl | (simp [errW_none, errW_some] <;> rfl) | (simp [*, errW_none, errW_some] <;> rfl), bw HB⟩

/-! ### impl_Scale_tip: function 147 -/
def impl_Scale_tip.f (a0_0 : Int) (a0_1 : Int) (a0_2 : Int) (a1_0 : Int) (a1_1 : Int) : Option (Int × Int × Int) := if (wrap64 ((wrap64 (a1_0 + a0_0)) - (wrap64 (a1_1 + a0_1)))) ≥ a0_2 then (some (0, wrap64 (a1_1 + a0_1), 108)) else (if (wrap64 ((wrap64 (a1_1 + a0_1)) - (wrap64 (a1_0 + a0_0)))) ≥ a0_2 then (some (wrap64 (a1_0 + a0_0), 0, 114)) else (some (wrap64 (a1_0 + a0_0), wrap64 (a1_1 + a0_1), 45)))
set_option maxHeartbeats 8000000 in
set_option maxRecDepth 100000 in
theorem impl_Scale_tip.calls (a0_0 : Int) (a0_1 : Int) (a0_2 : Int) (a1_0 : Int) (a1_1 : Int) (r1 : Int) (r2 : Int) (r3 : Int) (w : World) (h : impl_Scale_tip.f a0_0 a0_1 a0_2 a1_0 a1_1 = some (r1, r2, r3)) :
  Calls Try.prog 147 #[.agg #[.int .i64 a0_0, .int .i64 a0_1, .int .i64 a0_2], .agg #[.int .i64 a1_0, .int .i64 a1_1]] w fun e w' => e = .returned (.tuple #[.agg #[.int .i64 r1, .int .i64 r2], .int .u8 r3]) ∧ Below w.heap.size w w' := by
 have hu40 := Try.underlying40
 have hu150 := Try.underlying150
 have HB := Aside0.mk (Below.refl w.heap.size w)
 have H : (if (wrap64 ((wrap64 (a1_0 + a0_0)) - (wrap64 (a1_1 + a0_1)))) ≥ a0_2 then (some (0, wrap64 (a1_1 + a0_1), 108)) else (if (wrap64 ((wrap64 (a1_1 + a0_1)) - (wrap64 (a1_0 + a0_0)))) ≥ a0_2 then (some (wrap64 (a1_0 + a0_0), 0, 114)) else (some (wrap64 (a1_0 + a0_0), wrap64 (a1_1 + a0_1), 45)))) = some (r1, r2, r3) := h
 clear h
 by_cases c3 : (wrap64 ((wrap64 (a1_0 + a0_0)) - (wrap64 (a1_1 + a0_1)))) ≥ a0_2
 ·rw [if_pos c3] at H
  have c3b0 : decide (a0_2 ≤ (wrap64 ((wrap64 (a1_0 + a0_0)) - (wrap64 (a1_1 + a0_1))))) = true := decide_eq_true c3
  clear c3
  simp only [Option.some.injEq, Prod.mk.injEq] at H
  obtain ⟨rfl, rfl, rfl⟩ := H
  go_enter Try.func147, Try.ntmps147
  go_wp2_with (first | ((with_reducible refine gate_dst (N := 2) rfl ?_); refine bx 2 #[.int .i64 a0_0, .int .i64 a0_1, .int .i64 a0_2] 40 ?_; intro gb285 hg w4 hbox hb; have BK285 := Aside0.mk (hbox); have GW285 := ge HB hg; have GE285 := ge HB hg; replace HB := bs HB hb; clear hb hbox hg) | ((with_reducible refine gate_dst (N := 3) rfl ?_); refine bx 3 #[.int .i64 a1_0, .int .i64 a1_1] 150 ?_; intro gb286 hg w5 hbox hb; have BK286 := Aside0.mk (hbox); have GW286 := ge HB hg; have GE286 := ge HB hg; replace HB := bs HB hb; have NB285_286 := nl BK285 hg; have NB286_285 := nr BK285 hg; replace BK285 := bb BK285 hb; clear hb hbox hg) | ((with_reducible refine gate_dst (N := 4) rfl ?_); refine bx 4 #[.int .i64 0, .int .i64 0] 150 ?_; intro gb287 hg w6 hbox hb; have BK287 := Aside0.mk (hbox); have GW287 := ge HB hg; have GE287 := ge HB hg; replace HB := bs HB hb; have NB285_287 := nl BK285 hg; have NB287_285 := nr BK285 hg; replace BK285 := bb BK285 hb; have NB286_287 := nl BK286 hg; have NB287_286 := nr BK286 hg; replace BK286 := bb BK286 hb; clear hb hbox hg; have hnb7 := NB286_285.out; have hnc7 := NB285_286.out; have hnb8 := NB286_287.out; have hnc8 := NB287_286.out; have hcz9_0 := bc0 BK286; have hcz9_1 := bc1 BK286; have hfz9_0 := blk_frozen BK286.out 0; have hfz9_1 := blk_frozen BK286.out 1; have hnb10 := NB285_287.out; have hnc10 := NB287_285.out; have hcz11_0 := bc0 BK285; have hcz11_1 := bc1 BK285; have hcz11_2 := bc2 BK285; have hfz11_0 := blk_frozen BK285.out 0; have hfz11_1 := blk_frozen BK285.out 1; have hfz11_2 := blk_frozen BK285.out 2; have hcz12_0 := bc0 BK287; have hcz12_1 := bc1 BK287; have hfz12_0 := blk_frozen BK287.out 0; have hfz12_1 := blk_frozen BK287.out 1))
  refine bodyPost_ret (results_ct rfl _ _ gb287 150 #[.int .i64 0, .int .i64 (wrap64 (a1_1 + a0_1))] (0, 0) _ rfl (by (with_reducible repeat (first | refine blk_drewN ?_ _ | refine blk_drew ?_ | refine blk_alloc ?_ _)); refine blk_put (cs := #[.int .i64 0, .int .i64 0]) ?_ 1 _ rfl; (with_reducible repeat (first | refine blk_drewN ?_ _ | refine blk_drew ?_ | refine blk_alloc ?_ _)); refine blk_put (cs := #[.int .i64 0, .int .i64 0]) ?_ 0 _ rfl; exact bk BK287) Try.underlying150 rfl (by kernel_rfl)) rfl ?_
  exact ⟨by first | rfl | (simp [errW_none, errW_some] <;> rfl) | (simp [*, errW_none, errW_some] <;> rfl), bw HB⟩
 rw [if_neg c3] at H
 have c3b0 : decide (a0_2 ≤ (wrap64 ((wrap64 (a1_0 + a0_0)) - (wrap64 (a1_1 + a0_1))))) = false := decide_eq_false c3
 clear c3
 by_cases c13 : (wrap64 ((wrap64 (a1_1 + a0_1)) - (wrap64 (a1_0 + a0_0)))) ≥ a0_2
 rotate_left
 ·rw [if_neg c13] at H
  have c13b0 : decide (a0_2 ≤ (wrap64 ((wrap64 (a1_1 + a0_1)) - (wrap64 (a1_0 + a0_0))))) = false := decide_eq_false c13
  clear c13
  simp only [Option.some.injEq, Prod.mk.injEq] at H
  obtain ⟨rfl, rfl, rfl⟩ := H
  go_enter Try.func147, Try.ntmps147
  go_wp2_with (first | ((with_reducible refine gate_dst (N := 2) rfl ?_); refine bx 2 #[.int .i64 a0_0, .int .i64 a0_1, .int .i64 a0_2] 40 ?_; intro gb285 hg w23 hbox hb; have BK285 := Aside0.mk (hbox); have GW285 := ge HB hg; have GE285 := ge HB hg; replace HB := bs HB hb; clear hb hbox hg) | ((with_reducible refine gate_dst (N := 3) rfl ?_); refine bx 3 #[.int .i64 a1_0, .int .i64 a1_1] 150 ?_; intro gb286 hg w24 hbox hb; have BK286 := Aside0.mk (hbox); have GW286 := ge HB hg; have GE286 := ge HB hg; replace HB := bs HB hb; have NB285_286 := nl BK285 hg; have NB286_285 := nr BK285 hg; replace BK285 := bb BK285 hb; clear hb hbox hg) | ((with_reducible refine gate_dst (N := 4) rfl ?_); refine bx 4 #[.int .i64 0, .int .i64 0] 150 ?_; intro gb287 hg w25 hbox hb; have BK287 := Aside0.mk (hbox); have GW287 := ge HB hg; have GE287 := ge HB hg; replace HB := bs HB hb; have NB285_287 := nl BK285 hg; have NB287_285 := nr BK285 hg; replace BK285 := bb BK285 hb; have NB286_287 := nl BK286 hg; have NB287_286 := nr BK286 hg; replace BK286 := bb BK286 hb; clear hb hbox hg; have hnb26 := NB286_285.out; have hnc26 := NB285_286.out; have hnb27 := NB286_287.out; have hnc27 := NB287_286.out; have hcz28_0 := bc0 BK286; have hcz28_1 := bc1 BK286; have hfz28_0 := blk_frozen BK286.out 0; have hfz28_1 := blk_frozen BK286.out 1; have hnb29 := NB285_287.out; have hnc29 := NB287_285.out; have hcz30_0 := bc0 BK285; have hcz30_1 := bc1 BK285; have hcz30_2 := bc2 BK285; have hfz30_0 := blk_frozen BK285.out 0; have hfz30_1 := blk_frozen BK285.out 1; have hfz30_2 := blk_frozen BK285.out 2; have hcz31_0 := bc0 BK287; have hcz31_1 := bc1 BK287; have hfz31_0 := blk_frozen BK287.out 0; have hfz31_1 := blk_frozen BK287.out 1))
  refine bodyPost_ret (results_ct rfl _ _ gb287 150 #[.int .i64 (wrap64 (a1_0 + a0_0)), .int .i64 (wrap64 (a1_1 + a0_1))] (0, 0) _ rfl (by (with_reducible repeat (first | refine blk_drewN ?_ _ | refine blk_drew ?_ | refine blk_alloc ?_ _)); refine blk_put (cs := #[.int .i64 (wrap64 (a1_0 + a0_0)), .int .i64 0]) ?_ 1 _ rfl; (with_reducible repeat (first | refine blk_drewN ?_ _ | refine blk_drew ?_ | refine blk_alloc ?_ _)); refine blk_put (cs := #[.int .i64 0, .int .i64 0]) ?_ 0 _ rfl; exact bk BK287) Try.underlying150 rfl (by kernel_rfl)) rfl ?_
  exact ⟨by first | rfl | (simp [errW_none, errW_some] <;> rfl) | (simp [*, errW_none, errW_some] <;> rfl), bw HB⟩
 rw [if_pos c13] at H
 have c13b0 : decide (a0_2 ≤ (wrap64 ((wrap64 (a1_1 + a0_1)) - (wrap64 (a1_0 + a0_0))))) = true := decide_eq_true c13
 clear c13
 simp only [Option.some.injEq, Prod.mk.injEq] at H
 obtain ⟨rfl, rfl, rfl⟩ := H
 go_enter Try.func147, Try.ntmps147
 go_wp2_with (first | ((with_reducible refine gate_dst (N := 2) rfl ?_); refine bx 2 #[.int .i64 a0_0, .int .i64 a0_1, .int .i64 a0_2] 40 ?_; intro gb285 hg w14 hbox hb; have BK285 := Aside0.mk (hbox); have GW285 := ge HB hg; have GE285 := ge HB hg; replace HB := bs HB hb; clear hb hbox hg) | ((with_reducible refine gate_dst (N := 3) rfl ?_); refine bx 3 #[.int .i64 a1_0, .int .i64 a1_1] 150 ?_; intro gb286 hg w15 hbox hb; have BK286 := Aside0.mk (hbox); have GW286 := ge HB hg; have GE286 := ge HB hg; replace HB := bs HB hb; have NB285_286 := nl BK285 hg; have NB286_285 := nr BK285 hg; replace BK285 := bb BK285 hb; clear hb hbox hg) | ((with_reducible refine gate_dst (N := 4) rfl ?_); refine bx 4 #[.int .i64 0, .int .i64 0] 150 ?_; intro gb287 hg w16 hbox hb; have BK287 := Aside0.mk (hbox); have GW287 := ge HB hg; have GE287 := ge HB hg; replace HB := bs HB hb; have NB285_287 := nl BK285 hg; have NB287_285 := nr BK285 hg; replace BK285 := bb BK285 hb; have NB286_287 := nl BK286 hg; have NB287_286 := nr BK286 hg; replace BK286 := bb BK286 hb; clear hb hbox hg; have hnb17 := NB286_285.out; have hnc17 := NB285_286.out; have hnb18 := NB286_287.out; have hnc18 := NB287_286.out; have hcz19_0 := bc0 BK286; have hcz19_1 := bc1 BK286; have hfz19_0 := blk_frozen BK286.out 0; have hfz19_1 := blk_frozen BK286.out 1; have hnb20 := NB285_287.out; have hnc20 := NB287_285.out; have hcz21_0 := bc0 BK285; have hcz21_1 := bc1 BK285; have hcz21_2 := bc2 BK285; have hfz21_0 := blk_frozen BK285.out 0; have hfz21_1 := blk_frozen BK285.out 1; have hfz21_2 := blk_frozen BK285.out 2; have hcz22_0 := bc0 BK287; have hcz22_1 := bc1 BK287; have hfz22_0 := blk_frozen BK287.out 0; have hfz22_1 := blk_frozen BK287.out 1))
 refine bodyPost_ret (results_ct rfl _ _ gb287 150 #[.int .i64 (wrap64 (a1_0 + a0_0)), .int .i64 0] (0, 0) _ rfl (by (with_reducible repeat (first | refine blk_drewN ?_ _ | refine blk_drew ?_ | refine blk_alloc ?_ _)); refine blk_put (cs := #[.int .i64 (wrap64 (a1_0 + a0_0)), .int .i64 0]) ?_ 1 _ rfl; (with_reducible repeat (first | refine blk_drewN ?_ _ | refine blk_drew ?_ | refine blk_alloc ?_ _)); refine blk_put (cs := #[.int .i64 0, .int .i64 0]) ?_ 0 _ rfl; exact bk BK287) Try.underlying150 rfl (by kernel_rfl)) rfl ?_
 exact ⟨by first | rfl | (simp [errW_none, errW_some] <;> rfl) | (simp [*, errW_none, errW_some] <;> rfl), bw HB⟩

/-! ### impl_ScaleEvents: function 24 -/
mutual
def impl_ScaleEvents.j0 : Nat → Int → Bool → Int → Int → Int → Option (ByteArray × Bool)
 | 0, _, _, _, _, _ => none
 | k + 1, x1, x17, x289000, x289001, x289002 => if x17 = true then (some ((⟨#[]⟩ : ByteArray), false)) else (impl_ScaleEvents.l0 k (([] : List Int)) x1 0 x289000 x289001 x289002 0 0)
def impl_ScaleEvents.l0 : Nat → List Int → Int → Int → Int → Int → Int → Int → Int → Option (ByteArray × Bool)
 | 0, _, _, _, _, _, _, _, _ => none
 | k + 1, x6, x20, x21, x289000, x289001, x289002, x295000, x295001 => if x21 < x20 then ((impl_Scale_tip.f x289000 x289001 x289002 x295000 x295001).bind fun bt295 => (if x6.length < 140737488355328 then (impl_ScaleEvents.l0 k (x6 ++ [bt295.2.2]) x20 (wrap64 (x21 + 1)) x289000 x289001 x289002 bt295.1 bt295.2.1) else (none))) else (some (strOfNums x6, true))
end
def impl_ScaleEvents.f (k : Nat) (a0_0 : Int) (a0_1 : Int) (a0_2 : Int) (a1 : Int) : Option (ByteArray × Bool) := (impl_isScale.f a0_0 a0_1 a0_2).bind fun t289 => (if t289 = true then ((impl_within.f a1 0 200).bind fun t290 => (impl_ScaleEvents.j0 k a1 (!t290) a0_0 a0_1 a0_2)) else (impl_ScaleEvents.j0 k a1 true a0_0 a0_1 a0_2))
theorem impl_ScaleEvents.mono_l : ∀ k, (∀ y0 y1 y2 y3 y4, LeO (impl_ScaleEvents.j0 k y0 y1 y2 y3 y4) (impl_ScaleEvents.j0 (k + 1) y0 y1 y2 y3 y4)) ∧ (∀ y0 y1 y2 y3 y4 y5 y6 y7, LeO (impl_ScaleEvents.l0 k y0 y1 y2 y3 y4 y5 y6 y7) (impl_ScaleEvents.l0 (k + 1) y0 y1 y2 y3 y4 y5 y6 y7))
 | 0 => ⟨fun _ _ _ _ _ r h => by simp [impl_ScaleEvents.j0] at h, fun _ _ _ _ _ _ _ _ r h => by simp [impl_ScaleEvents.l0] at h⟩
 | k + 1 => by
  obtain ⟨ih0, ih1⟩ := impl_ScaleEvents.mono_l k
  refine ⟨?_, ?_⟩
  ·intro y0 y1 y2 y3 y4
   unfold impl_ScaleEvents.j0
   repeat' first
   | (with_reducible exact ih0 _ _ _ _ _)
   | (with_reducible exact ih1 _ _ _ _ _ _ _ _)
   | (with_reducible exact LeO.refl _)
   | (with_reducible exact LeO.none _)
   | (with_reducible refine LeO.ite ?_ ?_)
   | (with_reducible refine LeO.bind ?_ (fun _ => ?_))
   | exact ih0 _ _ _ _ _
   | exact ih1 _ _ _ _ _ _ _ _
   | exact LeO.none _
   | refine LeO.ite ?_ ?_
   | refine LeO.bind ?_ (fun _ => ?_)
  ·intro y0 y1 y2 y3 y4 y5 y6 y7
   unfold impl_ScaleEvents.l0
   repeat' first
   | (with_reducible exact ih0 _ _ _ _ _)
   | (with_reducible exact ih1 _ _ _ _ _ _ _ _)
   | (with_reducible exact LeO.refl _)
   | (with_reducible exact LeO.none _)
   | (with_reducible refine LeO.ite ?_ ?_)
   | (with_reducible refine LeO.bind ?_ (fun _ => ?_))
   | exact ih0 _ _ _ _ _
   | exact ih1 _ _ _ _ _ _ _ _
   | exact LeO.none _
   | refine LeO.ite ?_ ?_
   | refine LeO.bind ?_ (fun _ => ?_)
theorem impl_ScaleEvents.mono : ∀ a0 a1 a2 a3 k, LeO (impl_ScaleEvents.f k a0 a1 a2 a3) (impl_ScaleEvents.f (k + 1) a0 a1 a2 a3) := by
 intro a0 a1 a2 a3 k
 obtain ⟨ih0, ih1⟩ := impl_ScaleEvents.mono_l k
 unfold impl_ScaleEvents.f
 repeat' first
   | (with_reducible exact ih0 _ _ _ _ _)
   | (with_reducible exact ih1 _ _ _ _ _ _ _ _)
   | (with_reducible exact LeO.refl _)
   | (with_reducible exact LeO.none _)
   | (with_reducible refine LeO.ite ?_ ?_)
   | (with_reducible refine LeO.bind ?_ (fun _ => ?_))
   | exact ih0 _ _ _ _ _
   | exact ih1 _ _ _ _ _ _ _ _
   | exact LeO.none _
   | refine LeO.ite ?_ ?_
   | refine LeO.bind ?_ (fun _ => ?_)
set_option maxHeartbeats 8000000 in
set_option maxRecDepth 100000 in
theorem impl_ScaleEvents.calls (k : Nat) (a0_0 : Int) (a0_1 : Int) (a0_2 : Int) (a1 : Int) (r1 : ByteArray) (r2 : Bool) (w : World) (h : impl_ScaleEvents.f k a0_0 a0_1 a0_2 a1 = some (r1, r2)) :
  Calls Try.prog 24 #[.agg #[.int .i64 a0_0, .int .i64 a0_1, .int .i64 a0_2], .int .i64 a1] w fun e w' => e = .returned (.tuple #[.string r1, .bool r2]) ∧ Below w.heap.size w w' := by
 have hu40 := Try.underlying40
 have hu150 := Try.underlying150
 have HB := Aside0.mk (Below.refl w.heap.size w)
 have H : ((impl_isScale.f a0_0 a0_1 a0_2).bind fun t289 => (if t289 = true then ((impl_within.f a1 0 200).bind fun t290 => (impl_ScaleEvents.j0 k a1 (!t290) a0_0 a0_1 a0_2)) else (impl_ScaleEvents.j0 k a1 true a0_0 a0_1 a0_2))) = some (r1, r2) := h
 clear h
 have HC3 := Aside0.mk H
 clear H
 go_enter Try.func24, Try.ntmps24
 go_upto_region 1 with (first | ((with_reducible refine gate_dst (N := 2) rfl ?_); refine bx 2 #[.int .i64 a0_0, .int .i64 a0_1, .int .i64 a0_2] 40 ?_; intro gb288 hg w4 hbox hb; have BK288 := Aside0.mk (hbox); have GW288 := ge HB hg; have GE288 := ge HB hg; replace HB := bs HB hb; clear hb hbox hg))
 (try simp only [Act.put, List.setIfInBounds_toArray, List.set_cons_zero, List.set_cons_succ])
 go_cut [17] (fun v17 wc => ∃ (kq : Nat) (x17_2 : Bool), v17 = .bool x17_2 ∧ Aside0 (impl_ScaleEvents.j0 kq a1 x17_2 a0_0 a0_1 a0_2 = some (r1, r2)) ∧ Aside0 (kq ≤ k) ∧ Aside0 (wc.heap[gb288]? = some (.cells #[.int .i64 a0_0, .int .i64 a0_1, .int .i64 a0_2] 40 (0, 0))) ∧ Aside0 (Below w.heap.size w wc))
 case first =>
  have H := HC3.out
  clear HC3
  replace H := Option.bind_eq_some_iff.mp H
  obtain ⟨t289, A50, H⟩ := H
  replace H : (if t289 = true then ((impl_within.f a1 0 200).bind fun t290 => (impl_ScaleEvents.j0 k a1 (!t290) a0_0 a0_1 a0_2)) else (impl_ScaleEvents.j0 k a1 true a0_0 a0_1 a0_2)) = some (r1, r2) := H
  have A5 := Aside0.mk A50
  clear A50
  by_cases c6 : t289 = true
  rotate_left
  ·replace c6 := Bool.eq_false_iff.mpr c6
   subst c6
   have H1 : (impl_ScaleEvents.j0 k a1 true a0_0 a0_1 a0_2) = some (r1, r2) := by rw [if_neg (show ¬ (false = true) by decide)] at H; exact H
   clear H
   have H := H1
   clear H1
   have H' := Aside0.mk H
   clear H
   have hcz10_0 := bc0 BK288
   have hcz10_1 := bc1 BK288
   have hcz10_2 := bc2 BK288
   have hfz10_0 := blk_frozen BK288.out 0
   have hfz10_1 := blk_frozen BK288.out 1
   have hfz10_2 := blk_frozen BK288.out 2
   go_wp2_with (first | ((with_reducible refine gate_callee (f := 146) rfl ?_); refine gl 11 Try.func146 #[.agg #[.int .i64 a0_0, .int .i64 a0_1, .int .i64 a0_2]] ?_; (with_reducible refine (impl_isScale.calls a0_0 a0_1 a0_2 false _ A5.out).mono ?_); rintro e w11 ⟨rfl, hb⟩; refine ⟨_, rfl, ?_⟩; replace BK288 := bb BK288 hb; replace HB := bs HB hb; (try clear hb)))
   go_meet
   case rel => exact ⟨_, (true), (by first | rfl | (simp; done) | (simp [*]; done)), H', ⟨by first | omega | exact Nat.le_refl _⟩, ⟨bk BK288⟩, ⟨bw HB⟩⟩
  subst c6
  have H1 : ((impl_within.f a1 0 200).bind fun t290 => (impl_ScaleEvents.j0 k a1 (!t290) a0_0 a0_1 a0_2)) = some (r1, r2) := by rw [if_pos rfl] at H; exact H
  clear H
  have H := H1
  clear H1
  replace H := Option.bind_eq_some_iff.mp H
  obtain ⟨t290, A70, H⟩ := H
  replace H : (impl_ScaleEvents.j0 k a1 (!t290) a0_0 a0_1 a0_2) = some (r1, r2) := H
  have A7 := Aside0.mk A70
  clear A70
  have H' := Aside0.mk H
  clear H
  have hcz8_0 := bc0 BK288
  have hcz8_1 := bc1 BK288
  have hcz8_2 := bc2 BK288
  have hfz8_0 := blk_frozen BK288.out 0
  have hfz8_1 := blk_frozen BK288.out 1
  have hfz8_2 := blk_frozen BK288.out 2
  go_wp2_with (first | ((with_reducible refine gate_callee (f := 146) rfl ?_); refine gl 11 Try.func146 #[.agg #[.int .i64 a0_0, .int .i64 a0_1, .int .i64 a0_2]] ?_; (with_reducible refine (impl_isScale.calls a0_0 a0_1 a0_2 true _ A5.out).mono ?_); rintro e w9 ⟨rfl, hb⟩; refine ⟨_, rfl, ?_⟩; replace BK288 := bb BK288 hb; replace HB := bs HB hb; (try clear hb)) | (go_at_call 141; (with_reducible refine (impl_within.calls a1 0 200 t290 _ A7.out).mono ?_); rintro e w' ⟨rfl, ⟨nd, rfl⟩⟩))
  go_meet
  case rel => exact ⟨_, (!t290), (by first | rfl | (simp; done) | (simp [*]; done)), H', ⟨by first | omega | exact Nat.le_refl _⟩, ⟨bk BK288⟩, ⟨bw HB⟩⟩
 case rest =>
  clear HC3
  try clear c1
  try clear c2
  try clear p2
  try clear c6
  try clear hcz10_0
  try clear hcz10_1
  try clear hcz10_2
  try clear hcz8_0
  try clear hcz8_1
  try clear hcz8_2
  try clear hfz10_0
  try clear hfz10_1
  try clear hfz10_2
  try clear hfz8_0
  try clear hfz8_1
  try clear hfz8_2
  obtain ⟨kq, x17_2, rfl, HA, HJ2, BK288, HB⟩ := hcut
  cases kq with
  | zero => exact absurd HA.out (by simp [impl_ScaleEvents.j0])
  | succ kj2 =>
   have H := HA.out
   clear HA
   simp only [impl_ScaleEvents.j0] at H
   by_cases c12 : x17_2 = true
   ·subst c12
    have H1 : (some ((⟨#[]⟩ : ByteArray), false)) = some (r1, r2) := by rw [if_pos rfl] at H; exact H
    clear H
    have H := H1
    clear H1
    simp only [Option.some.injEq, Prod.mk.injEq] at H
    obtain ⟨rfl, rfl⟩ := H
    go_wp2
    go_ret2
    exact ⟨by first | rfl | (simp [errW_none, errW_some] <;> rfl) | (simp [*, errW_none, errW_some] <;> rfl), bw HB⟩
   replace c12 := Bool.eq_false_iff.mpr c12
   subst c12
   have H1 : (impl_ScaleEvents.l0 kj2 (([] : List Int)) a1 0 a0_0 a0_1 a0_2 0 0) = some (r1, r2) := by rw [if_neg (show ¬ (false = true) by decide)] at H; exact H
   clear H
   have H := H1
   clear H1
   obtain ⟨y291, hy291⟩ : ∃ y_ : List Int, y_ = (([] : List Int)) := ⟨_, rfl⟩
   replace H : (impl_ScaleEvents.l0 kj2 y291 a1 0 a0_0 a0_1 a0_2 0 0) = some (r1, r2) := by first | (rw [hy291]; with_reducible exact H) | (have H2_ := (Option.bind_some _ _).symm.trans H; rw [hy291]; with_reducible exact H2_) | (have H2_ := (Option.bind_some _ _).symm.trans H; with_reducible exact H2_) | with_reducible exact H | (rw [hy291]; exact H) | exact H
   have Ny291 := Aside0.mk hy291
   clear hy291
   have H' := Aside0.mk H
   clear H
   go_wp2_with (first | ((with_reducible refine gate_dst (N := 18) rfl ?_); refine Kd.R_lit (Kd.int .u8) _ 5 ?hg (N := 18) ?hd (xs := ([] : List Int)) (inner := []) (ok := fun _ => True) (okp := fun _ => True) ?hr ?hp (fun _ hk => hk) trivial (Below.refl _ _) (Nat.le_refl _) (by simp) ?_; (case hd => rfl); (case hg => rfl); (case hr => first | (go_simp; done) | (go_simp; rfl)); (case hp => exact (Reps.none _ _)); intro v292 w13 ho14 hb hg_ hnew_; clear hg_ hnew_; (first | rw [← Ny291.out] at ho14 | (simp only [Int.reduceToNat] at ho14; rw [← Ny291.out] at ho14)); have HO293 := lo ho14 HB; replace BK288 := bb BK288 hb; replace HB := bs HB hb; clear hb ho14) | ((with_reducible refine gate_dst (N := 7) rfl ?_); refine bx 7 #[.int .i64 0, .int .i64 0] 150 ?_; intro gb294 hg w15 hbox hb; replace HO293 := rb HO293 hb; have BK294 := Aside0.mk (hbox); have GW294 := ge HB hg; have GE294 := ge HB hg; replace HB := bs HB hb; have NB288_294 := nl BK288 hg; have NB294_288 := nr BK288 hg; replace BK288 := bb BK288 hb; clear hb hbox hg; have hnb16 := NB294_288.out; have hnc16 := NB288_294.out; have hcz17_0 := bc0 BK294; have hcz17_1 := bc1 BK294; have hfz17_0 := blk_frozen BK294.out 0; have hfz17_1 := blk_frozen BK294.out 1))
   try simp only [Act.put, List.setIfInBounds_toArray, List.set_cons_zero, List.set_cons_succ]
   go_loopg [6, 21] kj2 (fun kq v6 v21 w' => ∃ (x6_2 : List Int) (x21_2 : Int) (x295000_2 : Int) (x295001_2 : Int), v21 = .int .i64 x21_2 ∧ Aside0 (impl_ScaleEvents.l0 kq x6_2 a1 x21_2 a0_0 a0_1 a0_2 x295000_2 x295001_2 = some (r1, r2)) ∧ Aside0 (kq ≤ kj2) ∧ Aside0 (Kd.R (Kd.int .u8) 5 w' w.heap.size (fun _ => True) v6 x6_2) ∧ Aside0 (w'.heap[gb288]? = some (.cells #[.int .i64 a0_0, .int .i64 a0_1, .int .i64 a0_2] 40 (0, 0))) ∧ Aside0 (w'.heap[gb294]? = some (.cells #[.int .i64 x295000_2, .int .i64 x295001_2] 150 (0, 0))) ∧ Aside0 (Below w.heap.size w w'))
   case atStart => exact ⟨(y291), (0), (0), (0), (by first | rfl | (simp; done) | (simp [*]; done)), H', ⟨Nat.le_refl _⟩, ⟨by (with_reducible repeat (first | apply Kd.R_alloc | apply Kd.R_drewN | apply Kd.R_drew)); exact Kd.R_mono (Kd.R_far (p := ⟨gb294, 1, none⟩) (Kd.R_far (p := ⟨gb294, 0, none⟩) (Kd.R_types HO293.out BK294.out (by decide)) (fun _ hk => hk.2) (.int .i64 0)) (fun _ hk => hk.2) (.int .i64 0)) (fun _ hk => trivial)⟩, ⟨bk BK288⟩, ⟨by (with_reducible repeat (first | refine blk_drewN ?_ _ | refine blk_drew ?_ | refine blk_alloc ?_ _)); refine blk_put (cs := #[.int .i64 0, .int .i64 0]) ?_ 1 _ rfl; (with_reducible repeat (first | refine blk_drewN ?_ _ | refine blk_drew ?_ | refine blk_alloc ?_ _)); refine blk_put (cs := #[.int .i64 0, .int .i64 0]) ?_ 0 _ rfl; exact bk BK294⟩, ⟨bw HB⟩⟩
   case round =>
    clear H'
    try clear c1
    try clear c2
    try clear p2
    try clear c6
    try clear c12
    try clear c14
    try clear c16
    try clear hcz10_0
    try clear hcz10_1
    try clear hcz10_2
    try clear hcz17_0
    try clear hcz17_1
    try clear hcz8_0
    try clear hcz8_1
    try clear hcz8_2
    try clear hfz10_0
    try clear hfz10_1
    try clear hfz10_2
    try clear hfz17_0
    try clear hfz17_1
    try clear hfz8_0
    try clear hfz8_1
    try clear hfz8_2
    try clear p2
    obtain ⟨x6_2, x21_2, x295000_2, x295001_2, rfl, HA, HK2, HO_6, BK288, BK294, HB⟩ := hrel
    cases gk with
    | zero => exact absurd HA.out (by simp [impl_ScaleEvents.l0])
    | succ k2 =>
     have H := HA.out
     clear HA
     simp only [impl_ScaleEvents.l0] at H
     by_cases c18 : x21_2 < a1
     rotate_left
     ·rw [if_neg c18] at H
      have c18b0 : decide (x21_2 < a1) = false := decide_eq_false c18
      clear c18
      simp only [Option.some.injEq, Prod.mk.injEq] at H
      obtain ⟨rfl, rfl⟩ := H
      have hcv32 := own_string (P := Try.prog) Try.underlying22 Try.underlying5 Try.underlying9 (Kd.own_of_R HO_6.out)
      go_wp2
      go_ret2
      exact ⟨by first | rfl | (simp [errW_none, errW_some] <;> rfl) | (simp [*, errW_none, errW_some] <;> rfl), bw HB⟩
     rw [if_pos c18] at H
     have c18b0 : decide (x21_2 < a1) = true := decide_eq_true c18
     clear c18
     replace H := Option.bind_eq_some_iff.mp H
     obtain ⟨⟨t295, t296, t297⟩, A190, H⟩ := H
     replace H : (if x6_2.length < 140737488355328 then (impl_ScaleEvents.l0 k2 (x6_2 ++ [t297]) a1 (wrap64 (x21_2 + 1)) a0_0 a0_1 a0_2 t295 t296) else (none)) = some (r1, r2) := H
     have A19 := Aside0.mk A190
     clear A190
     by_cases c20 : x6_2.length < 140737488355328
     rotate_left
     ·rw [if_neg c20] at H
      exact absurd H (by simp)
     rw [if_pos c20] at H
     have LMc20 := Aside0.mk c20
     clear c20
     obtain ⟨y299, hy299⟩ : ∃ y_ : List Int, y_ = (x6_2 ++ [t297]) := ⟨_, rfl⟩
     replace H : (impl_ScaleEvents.l0 k2 y299 a1 (wrap64 (x21_2 + 1)) a0_0 a0_1 a0_2 t295 t296) = some (r1, r2) := by first | (rw [hy299]; with_reducible exact H) | (have H2_ := (Option.bind_some _ _).symm.trans H; rw [hy299]; with_reducible exact H2_) | (have H2_ := (Option.bind_some _ _).symm.trans H; with_reducible exact H2_) | with_reducible exact H | (rw [hy299]; exact H) | exact H
     have Ny299 := Aside0.mk hy299
     clear hy299
     have H' := Aside0.mk H
     clear H
     have hnb21 := NB288_294.out
     have hnc21 := NB294_288.out
     have hcz22_0 := bc0 BK288
     have hcz22_1 := bc1 BK288
     have hcz22_2 := bc2 BK288
     have hfz22_0 := blk_frozen BK288.out 0
     have hfz22_1 := blk_frozen BK288.out 1
     have hfz22_2 := blk_frozen BK288.out 2
     have hcz23_0 := bc0 BK294
     have hcz23_1 := bc1 BK294
     have hfz23_0 := blk_frozen BK294.out 0
     have hfz23_1 := blk_frozen BK294.out 1
     go_wp2_with (first | ((with_reducible refine gate_callee (f := 147) rfl ?_); refine gl 26 Try.func147 #[.agg #[.int .i64 a0_0, .int .i64 a0_1, .int .i64 a0_2], .agg #[.int .i64 x295000_2, .int .i64 x295001_2]] ?_; (with_reducible refine (impl_Scale_tip.calls a0_0 a0_1 a0_2 x295000_2 x295001_2 t295 t296 t297 _ A19.out).mono ?_); rintro e w24 ⟨rfl, hb⟩; refine ⟨_, rfl, ?_⟩; replace HO_6 := rb HO_6 hb; replace BK288 := bb BK288 hb; replace BK294 := bb BK294 hb; replace HB := bs HB hb; (try clear hb)) | ((with_reducible refine gate_dst (N := 8) rfl ?_); refine bx 8 #[.int .i64 0, .int .i64 0] 150 ?_; intro gb298 hg w25 hbox hb; replace HO_6 := rb HO_6 hb; have BK298 := Aside0.mk (hbox); have GW298 := ge HB hg; have GE298 := ge HB hg; replace HB := bs HB hb; have NB288_298 := nl BK288 hg; have NB298_288 := nr BK288 hg; replace BK288 := bb BK288 hb; have NB294_298 := nl BK294 hg; have NB298_294 := nr BK294 hg; replace BK294 := bb BK294 hb; clear hb hbox hg; have hnb26 := NB298_288.out; have hnc26 := NB288_298.out; have hnb27 := NB298_294.out; have hnc27 := NB294_298.out; have hcz28_0 := bc0 BK298; have hcz28_1 := bc1 BK298; have hfz28_0 := blk_frozen BK298.out 0; have hfz28_1 := blk_frozen BK298.out 1) | ((with_reducible refine gate_builtin (b := .append) (xs := #[.tmp 29, .tmp 31]) rfl ?_); at_builtin; refine Kd.R_append (Kd.int .u8) (w0 := w) w.heap.size rfl (.tmp 29) (.tmp 31) 22 5 (.int .u8 0) 1 rfl Try.underlying22 info5 rfl (by decide) (by omega) u6 x6_2 t297 [.int .u8 t297] (fun _ => True) (fun _ => False) rfl (by first | (go_simp; done) | (go_simp; rfl)) ?aP (fun _ hk => hk.elim) ?aF ?aO ?aB ?aS ?aL ?_; (case aP => exact rfl); (case aB => exact (bw HB)); (case aF => exact (fun _ _ => trivial)); (case aO => exact (by (with_reducible repeat (first | apply Kd.R_alloc | apply Kd.R_drewN | apply Kd.R_drew)); exact Kd.R_mono (Kd.R_far (p := ⟨gb298, 1, none⟩) (Kd.R_far (p := ⟨gb298, 0, none⟩) (Kd.R_types HO_6.out BK298.out (by decide)) (fun _ hk => hk.2) (.int .i64 t295)) (fun _ hk => hk.2) (.int .i64 t296)) (fun _ hk => trivial))); (case aS => exact (below_size (bw HB))); (case aL => have := LMc20.out; omega); intro v300 w29 ho hb hg hat; rw [← Ny299.out] at ho; have n0_ := Aside0.mk (blk_grown (g := gb288) (o := .cells #[.int .i64 a0_0, .int .i64 a0_1, .int .i64 a0_2] 40 (0, 0)) (bk BK288) hg (Kd.R_ne HO_6.out BK288.out (by decide))); have n1_ := Aside0.mk (blk_grown (g := gb294) (o := .cells #[.int .i64 x295000_2, .int .i64 x295001_2] 150 (0, 0)) (bk BK294) hg (Kd.R_ne HO_6.out BK294.out (by decide))); have n2_ := Aside0.mk (blk_grown (g := gb298) (o := .cells #[.int .i64 t295, .int .i64 t296] 150 (0, 0)) (by (with_reducible repeat (first | refine blk_drewN ?_ _ | refine blk_drew ?_ | refine blk_alloc ?_ _)); refine blk_put (cs := #[.int .i64 t295, .int .i64 0]) ?_ 1 _ rfl; (with_reducible repeat (first | refine blk_drewN ?_ _ | refine blk_drew ?_ | refine blk_alloc ?_ _)); refine blk_put (cs := #[.int .i64 0, .int .i64 0]) ?_ 0 _ rfl; exact bk BK298) hg (Kd.R_ne HO_6.out BK298.out (by decide))); have n3_ := Aside0.mk (hb); have n4_ := Aside0.mk (ho); clear BK288; clear BK294; clear BK298; clear HB; clear HO_6; have BK288 := n0_; have BK294 := n1_; have BK298 := n2_; have HB := n3_; have HO301 := n4_; clear n0_ n1_ n2_ n3_ n4_; clear ho hb hg hat; have hcz30_0 := bc0 BK298; have hcz30_1 := bc1 BK298; have hfz30_0 := blk_frozen BK298.out 0; have hfz30_1 := blk_frozen BK298.out 1; have hcz31_0 := bc0 BK294; have hcz31_1 := bc1 BK294; have hfz31_0 := blk_frozen BK294.out 0; have hfz31_1 := blk_frozen BK294.out 1))
     go_roundg k2
     case measure => have := HJ2.out; have := HK2.out; omega
     case rel => exact ⟨(y299), (wrap64 (x21_2 + 1)), (t295), (t296), (by first | rfl | (simp; done) | (simp [*]; done)), H', ⟨by have := HJ2.out; have := HK2.out; omega⟩, ⟨by (with_reducible repeat (first | apply Kd.R_alloc | apply Kd.R_drewN | apply Kd.R_drew)); exact Kd.R_mono (Kd.R_far (p := ⟨gb294, 1, none⟩) (Kd.R_far (p := ⟨gb294, 0, none⟩) (Kd.R_types HO301.out BK294.out (by decide)) (fun _ hk => hk.2) (.int .i64 t295)) (fun _ hk => hk.2) (.int .i64 t296)) (fun _ hk => trivial)⟩, ⟨bk BK288⟩, ⟨by (with_reducible repeat (first | refine blk_drewN ?_ _ | refine blk_drew ?_ | refine blk_alloc ?_ _)); refine blk_put (cs := #[.int .i64 t295, .int .i64 x295001_2]) ?_ 1 _ rfl; (with_reducible repeat (first | refine blk_drewN ?_ _ | refine blk_drew ?_ | refine blk_alloc ?_ _)); refine blk_put (cs := #[.int .i64 x295000_2, .int .i64 x295001_2]) ?_ 0 _ rfl; exact bk BK294⟩, ⟨bw HB⟩⟩

/-! ### spec_ckScale: function 148 -/
def spec_ckScale.f (a0_0 : Int) (a0_1 : Int) (a0_2 : Int) : Option (Bool) := (spec_l1In.f a0_0 0 60).bind fun t303 => (if t303 = true then ((spec_l1In.f a0_1 0 60).bind fun t304 => (if t304 = true then ((spec_l1In.f a0_2 1 1000).bind fun t305 => (some t305)) else (some false))) else (some false))
set_option maxHeartbeats 8000000 in
set_option maxRecDepth 100000 in
theorem spec_ckScale.calls (a0_0 : Int) (a0_1 : Int) (a0_2 : Int) (r : Bool) (w : World) (h : spec_ckScale.f a0_0 a0_1 a0_2 = some r) :
  Calls Try.prog 148 #[.agg #[.int .i64 a0_0, .int .i64 a0_1, .int .i64 a0_2]] w fun e w' => e = .returned (.bool r) ∧ Below w.heap.size w w' := by
 have hu40 := Try.underlying40
 have HB := Aside0.mk (Below.refl w.heap.size w)
 have H : ((spec_l1In.f a0_0 0 60).bind fun t303 => (if t303 = true then ((spec_l1In.f a0_1 0 60).bind fun t304 => (if t304 = true then ((spec_l1In.f a0_2 1 1000).bind fun t305 => (some t305)) else (some false))) else (some false))) = some r := h
 clear h
 replace H := Option.bind_eq_some_iff.mp H
 obtain ⟨t303, A20, H⟩ := H
 replace H : (if t303 = true then ((spec_l1In.f a0_1 0 60).bind fun t304 => (if t304 = true then ((spec_l1In.f a0_2 1 1000).bind fun t305 => (some t305)) else (some false))) else (some false)) = some r := H
 have A2 := Aside0.mk A20
 clear A20
 by_cases c3 : t303 = true
 rotate_left
 ·replace c3 := Bool.eq_false_iff.mpr c3
  subst c3
  have H1 : (some false) = some r := by rw [if_neg (show ¬ (false = true) by decide)] at H; exact H
  clear H
  have H := H1
  clear H1
  obtain rfl := Option.some.inj H
  go_enter Try.func148, Try.ntmps148
  go_wp2_with (first | ((with_reducible refine gate_dst (N := 1) rfl ?_); refine bx 1 #[.int .i64 a0_0, .int .i64 a0_1, .int .i64 a0_2] 40 ?_; intro gb302 hg w11 hbox hb; have BK302 := Aside0.mk (hbox); have GW302 := ge HB hg; have GE302 := ge HB hg; replace HB := bs HB hb; clear hb hbox hg; have hcz12_0 := bc0 BK302; have hcz12_1 := bc1 BK302; have hcz12_2 := bc2 BK302; have hfz12_0 := blk_frozen BK302.out 0; have hfz12_1 := blk_frozen BK302.out 1; have hfz12_2 := blk_frozen BK302.out 2) | ((with_reducible refine gate_callee (f := 143) rfl ?_); refine gl 5 Try.func143 #[.int .i64 a0_0, .int .i64 0, .int .i64 60] ?_; (with_reducible refine (spec_l1In.calls a0_0 0 60 false _ A2.out).mono ?_); rintro e w' ⟨rfl, ⟨nd, rfl⟩⟩; refine ⟨_, rfl, ?_⟩))
  go_ret
  exact ⟨by first | rfl | (simp [errW_none, errW_some] <;> rfl) | (simp [*, errW_none, errW_some] <;> rfl), bw HB⟩
 subst c3
 have H1 : ((spec_l1In.f a0_1 0 60).bind fun t304 => (if t304 = true then ((spec_l1In.f a0_2 1 1000).bind fun t305 => (some t305)) else (some false))) = some r := by rw [if_pos rfl] at H; exact H
 clear H
 have H := H1
 clear H1
 replace H := Option.bind_eq_some_iff.mp H
 obtain ⟨t304, A40, H⟩ := H
 replace H : (if t304 = true then ((spec_l1In.f a0_2 1 1000).bind fun t305 => (some t305)) else (some false)) = some r := H
 have A4 := Aside0.mk A40
 clear A40
 by_cases c5 : t304 = true
 rotate_left
 ·replace c5 := Bool.eq_false_iff.mpr c5
  subst c5
  have H1 : (some false) = some r := by rw [if_neg (show ¬ (false = true) by decide)] at H; exact H
  clear H
  have H := H1
  clear H1
  obtain rfl := Option.some.inj H
  go_enter Try.func148, Try.ntmps148
  go_wp2_with (first | ((with_reducible refine gate_dst (N := 1) rfl ?_); refine bx 1 #[.int .i64 a0_0, .int .i64 a0_1, .int .i64 a0_2] 40 ?_; intro gb302 hg w9 hbox hb; have BK302 := Aside0.mk (hbox); have GW302 := ge HB hg; have GE302 := ge HB hg; replace HB := bs HB hb; clear hb hbox hg; have hcz10_0 := bc0 BK302; have hcz10_1 := bc1 BK302; have hcz10_2 := bc2 BK302; have hfz10_0 := blk_frozen BK302.out 0; have hfz10_1 := blk_frozen BK302.out 1; have hfz10_2 := blk_frozen BK302.out 2) | ((with_reducible refine gate_callee (f := 143) rfl ?_); refine gl 5 Try.func143 #[.int .i64 a0_0, .int .i64 0, .int .i64 60] ?_; (with_reducible refine (spec_l1In.calls a0_0 0 60 true _ A2.out).mono ?_); rintro e w' ⟨rfl, ⟨nd, rfl⟩⟩; refine ⟨_, rfl, ?_⟩) | (go_at_call 143; (with_reducible refine (spec_l1In.calls a0_1 0 60 false _ A4.out).mono ?_); rintro e w' ⟨rfl, ⟨nd, rfl⟩⟩))
  go_ret
  exact ⟨by first | rfl | (simp [errW_none, errW_some] <;> rfl) | (simp [*, errW_none, errW_some] <;> rfl), bw HB⟩
 subst c5
 have H1 : ((spec_l1In.f a0_2 1 1000).bind fun t305 => (some t305)) = some r := by rw [if_pos rfl] at H; exact H
 clear H
 have H := H1
 clear H1
 replace H := Option.bind_eq_some_iff.mp H
 obtain ⟨t305, A60, H⟩ := H
 replace H : (some t305) = some r := H
 have A6 := Aside0.mk A60
 clear A60
 obtain rfl := Option.some.inj H
 go_enter Try.func148, Try.ntmps148
 go_wp2_with (first | ((with_reducible refine gate_dst (N := 1) rfl ?_); refine bx 1 #[.int .i64 a0_0, .int .i64 a0_1, .int .i64 a0_2] 40 ?_; intro gb302 hg w7 hbox hb; have BK302 := Aside0.mk (hbox); have GW302 := ge HB hg; have GE302 := ge HB hg; replace HB := bs HB hb; clear hb hbox hg; have hcz8_0 := bc0 BK302; have hcz8_1 := bc1 BK302; have hcz8_2 := bc2 BK302; have hfz8_0 := blk_frozen BK302.out 0; have hfz8_1 := blk_frozen BK302.out 1; have hfz8_2 := blk_frozen BK302.out 2) | ((with_reducible refine gate_callee (f := 143) rfl ?_); refine gl 5 Try.func143 #[.int .i64 a0_0, .int .i64 0, .int .i64 60] ?_; (with_reducible refine (spec_l1In.calls a0_0 0 60 true _ A2.out).mono ?_); rintro e w' ⟨rfl, ⟨nd, rfl⟩⟩; refine ⟨_, rfl, ?_⟩) | (go_at_call 143; (with_reducible refine (spec_l1In.calls a0_1 0 60 true _ A4.out).mono ?_); rintro e w' ⟨rfl, ⟨nd, rfl⟩⟩) | (go_at_call 143; (with_reducible refine (spec_l1In.calls a0_2 1 1000 t305 _ A6.out).mono ?_); rintro e w' ⟨rfl, ⟨nd, rfl⟩⟩))
 go_ret
 exact ⟨by first | rfl | (simp [errW_none, errW_some] <;> rfl) | (simp [*, errW_none, errW_some] <;> rfl), bw HB⟩

/-! ### spec_ckPans_tick: function 149 -/
def spec_ckPans_tick.f (a0_0 : Int) (a0_1 : Int) (a1_0 : Int) (a1_1 : Int) (a1_2 : Int) : Option (Int × Int × ByteArray) := if (wrap64 (a0_0 + a1_0)) ≥ (wrap64 ((wrap64 (a0_1 + a1_1)) + a1_2)) then (some (0, wrap64 (a0_1 + a1_1), (⟨#[108]⟩ : ByteArray))) else (if (wrap64 (a0_1 + a1_1)) ≥ (wrap64 ((wrap64 (a0_0 + a1_0)) + a1_2)) then (some (wrap64 (a0_0 + a1_0), 0, (⟨#[114]⟩ : ByteArray))) else (some (wrap64 (a0_0 + a1_0), wrap64 (a0_1 + a1_1), (⟨#[45]⟩ : ByteArray))))
set_option maxHeartbeats 8000000 in
set_option maxRecDepth 100000 in
theorem spec_ckPans_tick.calls (a0_0 : Int) (a0_1 : Int) (a1_0 : Int) (a1_1 : Int) (a1_2 : Int) (r1 : Int) (r2 : Int) (r3 : ByteArray) (w : World) (h : spec_ckPans_tick.f a0_0 a0_1 a1_0 a1_1 a1_2 = some (r1, r2, r3)) :
  Calls Try.prog 149 #[.agg #[.int .i64 a0_0, .int .i64 a0_1], .agg #[.int .i64 a1_0, .int .i64 a1_1, .int .i64 a1_2]] w fun e w' => e = .returned (.tuple #[.agg #[.int .i64 r1, .int .i64 r2], .string r3]) ∧ Below w.heap.size w w' := by
 have hu154 := Try.underlying154
 have hu40 := Try.underlying40
 have HB := Aside0.mk (Below.refl w.heap.size w)
 have H : (if (wrap64 (a0_0 + a1_0)) ≥ (wrap64 ((wrap64 (a0_1 + a1_1)) + a1_2)) then (some (0, wrap64 (a0_1 + a1_1), (⟨#[108]⟩ : ByteArray))) else (if (wrap64 (a0_1 + a1_1)) ≥ (wrap64 ((wrap64 (a0_0 + a1_0)) + a1_2)) then (some (wrap64 (a0_0 + a1_0), 0, (⟨#[114]⟩ : ByteArray))) else (some (wrap64 (a0_0 + a1_0), wrap64 (a0_1 + a1_1), (⟨#[45]⟩ : ByteArray))))) = some (r1, r2, r3) := h
 clear h
 by_cases c3 : (wrap64 (a0_0 + a1_0)) ≥ (wrap64 ((wrap64 (a0_1 + a1_1)) + a1_2))
 ·rw [if_pos c3] at H
  have c3b0 : decide ((wrap64 ((wrap64 (a0_1 + a1_1)) + a1_2)) ≤ (wrap64 (a0_0 + a1_0))) = true := decide_eq_true c3
  clear c3
  simp only [Option.some.injEq, Prod.mk.injEq] at H
  obtain ⟨rfl, rfl, rfl⟩ := H
  go_enter Try.func149, Try.ntmps149
  go_wp2_with (first | ((with_reducible refine gate_dst (N := 2) rfl ?_); refine bx 2 #[.int .i64 a0_0, .int .i64 a0_1] 154 ?_; intro gb306 hg w4 hbox hb; have BK306 := Aside0.mk (hbox); have GW306 := ge HB hg; have GE306 := ge HB hg; replace HB := bs HB hb; clear hb hbox hg) | ((with_reducible refine gate_dst (N := 3) rfl ?_); refine bx 3 #[.int .i64 a1_0, .int .i64 a1_1, .int .i64 a1_2] 40 ?_; intro gb307 hg w5 hbox hb; have BK307 := Aside0.mk (hbox); have GW307 := ge HB hg; have GE307 := ge HB hg; replace HB := bs HB hb; have NB306_307 := nl BK306 hg; have NB307_306 := nr BK306 hg; replace BK306 := bb BK306 hb; clear hb hbox hg) | ((with_reducible refine gate_dst (N := 4) rfl ?_); refine bx 4 #[.int .i64 0, .int .i64 0] 154 ?_; intro gb308 hg w6 hbox hb; have BK308 := Aside0.mk (hbox); have GW308 := ge HB hg; have GE308 := ge HB hg; replace HB := bs HB hb; have NB306_308 := nl BK306 hg; have NB308_306 := nr BK306 hg; replace BK306 := bb BK306 hb; have NB307_308 := nl BK307 hg; have NB308_307 := nr BK307 hg; replace BK307 := bb BK307 hb; clear hb hbox hg; have hnb7 := NB306_307.out; have hnc7 := NB307_306.out; have hnb8 := NB306_308.out; have hnc8 := NB308_306.out; have hcz9_0 := bc0 BK306; have hcz9_1 := bc1 BK306; have hfz9_0 := blk_frozen BK306.out 0; have hfz9_1 := blk_frozen BK306.out 1; have hnb10 := NB307_308.out; have hnc10 := NB308_307.out; have hcz11_0 := bc0 BK307; have hcz11_1 := bc1 BK307; have hcz11_2 := bc2 BK307; have hfz11_0 := blk_frozen BK307.out 0; have hfz11_1 := blk_frozen BK307.out 1; have hfz11_2 := blk_frozen BK307.out 2; have hcz12_0 := bc0 BK308; have hcz12_1 := bc1 BK308; have hfz12_0 := blk_frozen BK308.out 0; have hfz12_1 := blk_frozen BK308.out 1))
  refine bodyPost_ret (results_ct rfl _ _ gb308 154 #[.int .i64 0, .int .i64 (wrap64 (a0_1 + a1_1))] (0, 0) _ rfl (by (with_reducible repeat (first | refine blk_drewN ?_ _ | refine blk_drew ?_ | refine blk_alloc ?_ _)); refine blk_put (cs := #[.int .i64 0, .int .i64 0]) ?_ 1 _ rfl; (with_reducible repeat (first | refine blk_drewN ?_ _ | refine blk_drew ?_ | refine blk_alloc ?_ _)); refine blk_put (cs := #[.int .i64 0, .int .i64 0]) ?_ 0 _ rfl; exact bk BK308) Try.underlying154 rfl (by kernel_rfl)) rfl ?_
  exact ⟨by first | rfl | (simp [errW_none, errW_some] <;> rfl) | (simp [*, errW_none, errW_some] <;> rfl), bw HB⟩
 rw [if_neg c3] at H
 have c3b0 : decide ((wrap64 ((wrap64 (a0_1 + a1_1)) + a1_2)) ≤ (wrap64 (a0_0 + a1_0))) = false := decide_eq_false c3
 clear c3
 by_cases c13 : (wrap64 (a0_1 + a1_1)) ≥ (wrap64 ((wrap64 (a0_0 + a1_0)) + a1_2))
 rotate_left
 ·rw [if_neg c13] at H
  have c13b0 : decide ((wrap64 ((wrap64 (a0_0 + a1_0)) + a1_2)) ≤ (wrap64 (a0_1 + a1_1))) = false := decide_eq_false c13
  clear c13
  simp only [Option.some.injEq, Prod.mk.injEq] at H
  obtain ⟨rfl, rfl, rfl⟩ := H
  go_enter Try.func149, Try.ntmps149
  go_wp2_with (first | ((with_reducible refine gate_dst (N := 2) rfl ?_); refine bx 2 #[.int .i64 a0_0, .int .i64 a0_1] 154 ?_; intro gb306 hg w23 hbox hb; have BK306 := Aside0.mk (hbox); have GW306 := ge HB hg; have GE306 := ge HB hg; replace HB := bs HB hb; clear hb hbox hg) | ((with_reducible refine gate_dst (N := 3) rfl ?_); refine bx 3 #[.int .i64 a1_0, .int .i64 a1_1, .int .i64 a1_2] 40 ?_; intro gb307 hg w24 hbox hb; have BK307 := Aside0.mk (hbox); have GW307 := ge HB hg; have GE307 := ge HB hg; replace HB := bs HB hb; have NB306_307 := nl BK306 hg; have NB307_306 := nr BK306 hg; replace BK306 := bb BK306 hb; clear hb hbox hg) | ((with_reducible refine gate_dst (N := 4) rfl ?_); refine bx 4 #[.int .i64 0, .int .i64 0] 154 ?_; intro gb308 hg w25 hbox hb; have BK308 := Aside0.mk (hbox); have GW308 := ge HB hg; have GE308 := ge HB hg; replace HB := bs HB hb; have NB306_308 := nl BK306 hg; have NB308_306 := nr BK306 hg; replace BK306 := bb BK306 hb; have NB307_308 := nl BK307 hg; have NB308_307 := nr BK307 hg; replace BK307 := bb BK307 hb; clear hb hbox hg; have hnb26 := NB306_307.out; have hnc26 := NB307_306.out; have hnb27 := NB306_308.out; have hnc27 := NB308_306.out; have hcz28_0 := bc0 BK306; have hcz28_1 := bc1 BK306; have hfz28_0 := blk_frozen BK306.out 0; have hfz28_1 := blk_frozen BK306.out 1; have hnb29 := NB307_308.out; have hnc29 := NB308_307.out; have hcz30_0 := bc0 BK307; have hcz30_1 := bc1 BK307; have hcz30_2 := bc2 BK307; have hfz30_0 := blk_frozen BK307.out 0; have hfz30_1 := blk_frozen BK307.out 1; have hfz30_2 := blk_frozen BK307.out 2; have hcz31_0 := bc0 BK308; have hcz31_1 := bc1 BK308; have hfz31_0 := blk_frozen BK308.out 0; have hfz31_1 := blk_frozen BK308.out 1))
  refine bodyPost_ret (results_ct rfl _ _ gb308 154 #[.int .i64 (wrap64 (a0_0 + a1_0)), .int .i64 (wrap64 (a0_1 + a1_1))] (0, 0) _ rfl (by (with_reducible repeat (first | refine blk_drewN ?_ _ | refine blk_drew ?_ | refine blk_alloc ?_ _)); refine blk_put (cs := #[.int .i64 (wrap64 (a0_0 + a1_0)), .int .i64 0]) ?_ 1 _ rfl; (with_reducible repeat (first | refine blk_drewN ?_ _ | refine blk_drew ?_ | refine blk_alloc ?_ _)); refine blk_put (cs := #[.int .i64 0, .int .i64 0]) ?_ 0 _ rfl; exact bk BK308) Try.underlying154 rfl (by kernel_rfl)) rfl ?_
  exact ⟨by first | rfl | (simp [errW_none, errW_some] <;> rfl) | (simp [*, errW_none, errW_some] <;> rfl), bw HB⟩
 rw [if_pos c13] at H
 have c13b0 : decide ((wrap64 ((wrap64 (a0_0 + a1_0)) + a1_2)) ≤ (wrap64 (a0_1 + a1_1))) = true := decide_eq_true c13
 clear c13
 simp only [Option.some.injEq, Prod.mk.injEq] at H
 obtain ⟨rfl, rfl, rfl⟩ := H
 go_enter Try.func149, Try.ntmps149
 go_wp2_with (first | ((with_reducible refine gate_dst (N := 2) rfl ?_); refine bx 2 #[.int .i64 a0_0, .int .i64 a0_1] 154 ?_; intro gb306 hg w14 hbox hb; have BK306 := Aside0.mk (hbox); have GW306 := ge HB hg; have GE306 := ge HB hg; replace HB := bs HB hb; clear hb hbox hg) | ((with_reducible refine gate_dst (N := 3) rfl ?_); refine bx 3 #[.int .i64 a1_0, .int .i64 a1_1, .int .i64 a1_2] 40 ?_; intro gb307 hg w15 hbox hb; have BK307 := Aside0.mk (hbox); have GW307 := ge HB hg; have GE307 := ge HB hg; replace HB := bs HB hb; have NB306_307 := nl BK306 hg; have NB307_306 := nr BK306 hg; replace BK306 := bb BK306 hb; clear hb hbox hg) | ((with_reducible refine gate_dst (N := 4) rfl ?_); refine bx 4 #[.int .i64 0, .int .i64 0] 154 ?_; intro gb308 hg w16 hbox hb; have BK308 := Aside0.mk (hbox); have GW308 := ge HB hg; have GE308 := ge HB hg; replace HB := bs HB hb; have NB306_308 := nl BK306 hg; have NB308_306 := nr BK306 hg; replace BK306 := bb BK306 hb; have NB307_308 := nl BK307 hg; have NB308_307 := nr BK307 hg; replace BK307 := bb BK307 hb; clear hb hbox hg; have hnb17 := NB306_307.out; have hnc17 := NB307_306.out; have hnb18 := NB306_308.out; have hnc18 := NB308_306.out; have hcz19_0 := bc0 BK306; have hcz19_1 := bc1 BK306; have hfz19_0 := blk_frozen BK306.out 0; have hfz19_1 := blk_frozen BK306.out 1; have hnb20 := NB307_308.out; have hnc20 := NB308_307.out; have hcz21_0 := bc0 BK307; have hcz21_1 := bc1 BK307; have hcz21_2 := bc2 BK307; have hfz21_0 := blk_frozen BK307.out 0; have hfz21_1 := blk_frozen BK307.out 1; have hfz21_2 := blk_frozen BK307.out 2; have hcz22_0 := bc0 BK308; have hcz22_1 := bc1 BK308; have hfz22_0 := blk_frozen BK308.out 0; have hfz22_1 := blk_frozen BK308.out 1))
 refine bodyPost_ret (results_ct rfl _ _ gb308 154 #[.int .i64 (wrap64 (a0_0 + a1_0)), .int .i64 0] (0, 0) _ rfl (by (with_reducible repeat (first | refine blk_drewN ?_ _ | refine blk_drew ?_ | refine blk_alloc ?_ _)); refine blk_put (cs := #[.int .i64 (wrap64 (a0_0 + a1_0)), .int .i64 0]) ?_ 1 _ rfl; (with_reducible repeat (first | refine blk_drewN ?_ _ | refine blk_drew ?_ | refine blk_alloc ?_ _)); refine blk_put (cs := #[.int .i64 0, .int .i64 0]) ?_ 0 _ rfl; exact bk BK308) Try.underlying154 rfl (by kernel_rfl)) rfl ?_
 exact ⟨by first | rfl | (simp [errW_none, errW_some] <;> rfl) | (simp [*, errW_none, errW_some] <;> rfl), bw HB⟩

/-! ### spec_ScaleEvents: function 25 -/
mutual
def spec_ScaleEvents.j0 : Nat → Int → Bool → Int → Int → Int → Option (ByteArray × Bool)
 | 0, _, _, _, _, _ => none
 | k + 1, x1, x17, x310000, x310001, x310002 => if x17 = true then (some ((⟨#[]⟩ : ByteArray), false)) else (spec_ScaleEvents.l0 k x1 (⟨#[]⟩ : ByteArray) x310000 x310001 x310002 0 0)
def spec_ScaleEvents.l0 : Nat → Int → ByteArray → Int → Int → Int → Int → Int → Option (ByteArray × Bool)
 | 0, _, _, _, _, _, _, _ => none
 | k + 1, x1, x7, x310000, x310001, x310002, x313000, x313001 => if x1 > 0 then ((spec_ckPans_tick.f x313000 x313001 x310000 x310001 x310002).bind fun bt313 => (if x7.size + bt313.2.2.size ≤ 9223372036854775807 then (spec_ScaleEvents.l0 k (wrap64 (x1 - 1)) (x7 ++ bt313.2.2) x310000 x310001 x310002 bt313.1 bt313.2.1) else (none))) else (some (x7, true))
end
def spec_ScaleEvents.f (k : Nat) (a0_0 : Int) (a0_1 : Int) (a0_2 : Int) (a1 : Int) : Option (ByteArray × Bool) := (spec_ckScale.f a0_0 a0_1 a0_2).bind fun t310 => (if t310 = true then ((spec_l1In.f a1 0 200).bind fun t311 => (spec_ScaleEvents.j0 k a1 (!t311) a0_0 a0_1 a0_2)) else (spec_ScaleEvents.j0 k a1 true a0_0 a0_1 a0_2))
theorem spec_ScaleEvents.mono_l : ∀ k, (∀ y0 y1 y2 y3 y4, LeO (spec_ScaleEvents.j0 k y0 y1 y2 y3 y4) (spec_ScaleEvents.j0 (k + 1) y0 y1 y2 y3 y4)) ∧ (∀ y0 y1 y2 y3 y4 y5 y6, LeO (spec_ScaleEvents.l0 k y0 y1 y2 y3 y4 y5 y6) (spec_ScaleEvents.l0 (k + 1) y0 y1 y2 y3 y4 y5 y6))
 | 0 => ⟨fun _ _ _ _ _ r h => by simp [spec_ScaleEvents.j0] at h, fun _ _ _ _ _ _ _ r h => by simp [spec_ScaleEvents.l0] at h⟩
 | k + 1 => by
  obtain ⟨ih0, ih1⟩ := spec_ScaleEvents.mono_l k
  refine ⟨?_, ?_⟩
  ·intro y0 y1 y2 y3 y4
   unfold spec_ScaleEvents.j0
   repeat' first
   | (with_reducible exact ih0 _ _ _ _ _)
   | (with_reducible exact ih1 _ _ _ _ _ _ _)
   | (with_reducible exact LeO.refl _)
   | (with_reducible exact LeO.none _)
   | (with_reducible refine LeO.ite ?_ ?_)
   | (with_reducible refine LeO.bind ?_ (fun _ => ?_))
   | exact ih0 _ _ _ _ _
   | exact ih1 _ _ _ _ _ _ _
   | exact LeO.none _
   | refine LeO.ite ?_ ?_
   | refine LeO.bind ?_ (fun _ => ?_)
  ·intro y0 y1 y2 y3 y4 y5 y6
   unfold spec_ScaleEvents.l0
   repeat' first
   | (with_reducible exact ih0 _ _ _ _ _)
   | (with_reducible exact ih1 _ _ _ _ _ _ _)
   | (with_reducible exact LeO.refl _)
   | (with_reducible exact LeO.none _)
   | (with_reducible refine LeO.ite ?_ ?_)
   | (with_reducible refine LeO.bind ?_ (fun _ => ?_))
   | exact ih0 _ _ _ _ _
   | exact ih1 _ _ _ _ _ _ _
   | exact LeO.none _
   | refine LeO.ite ?_ ?_
   | refine LeO.bind ?_ (fun _ => ?_)
theorem spec_ScaleEvents.mono : ∀ a0 a1 a2 a3 k, LeO (spec_ScaleEvents.f k a0 a1 a2 a3) (spec_ScaleEvents.f (k + 1) a0 a1 a2 a3) := by
 intro a0 a1 a2 a3 k
 obtain ⟨ih0, ih1⟩ := spec_ScaleEvents.mono_l k
 unfold spec_ScaleEvents.f
 repeat' first
   | (with_reducible exact ih0 _ _ _ _ _)
   | (with_reducible exact ih1 _ _ _ _ _ _ _)
   | (with_reducible exact LeO.refl _)
   | (with_reducible exact LeO.none _)
   | (with_reducible refine LeO.ite ?_ ?_)
   | (with_reducible refine LeO.bind ?_ (fun _ => ?_))
   | exact ih0 _ _ _ _ _
   | exact ih1 _ _ _ _ _ _ _
   | exact LeO.none _
   | refine LeO.ite ?_ ?_
   | refine LeO.bind ?_ (fun _ => ?_)
set_option maxHeartbeats 8000000 in
set_option maxRecDepth 100000 in
theorem spec_ScaleEvents.calls (k : Nat) (a0_0 : Int) (a0_1 : Int) (a0_2 : Int) (a1 : Int) (r1 : ByteArray) (r2 : Bool) (w : World) (h : spec_ScaleEvents.f k a0_0 a0_1 a0_2 a1 = some (r1, r2)) :
  Calls Try.prog 25 #[.agg #[.int .i64 a0_0, .int .i64 a0_1, .int .i64 a0_2], .int .i64 a1] w fun e w' => e = .returned (.tuple #[.string r1, .bool r2]) ∧ Below w.heap.size w w' := by
 have hu40 := Try.underlying40
 have hu154 := Try.underlying154
 have HB := Aside0.mk (Below.refl w.heap.size w)
 have H : ((spec_ckScale.f a0_0 a0_1 a0_2).bind fun t310 => (if t310 = true then ((spec_l1In.f a1 0 200).bind fun t311 => (spec_ScaleEvents.j0 k a1 (!t311) a0_0 a0_1 a0_2)) else (spec_ScaleEvents.j0 k a1 true a0_0 a0_1 a0_2))) = some (r1, r2) := h
 clear h
 have HC3 := Aside0.mk H
 clear H
 go_enter Try.func25, Try.ntmps25
 go_upto_region 1 with (first | ((with_reducible refine gate_dst (N := 2) rfl ?_); refine bx 2 #[.int .i64 a0_0, .int .i64 a0_1, .int .i64 a0_2] 40 ?_; intro gb309 hg w4 hbox hb; have BK309 := Aside0.mk (hbox); have GW309 := ge HB hg; have GE309 := ge HB hg; replace HB := bs HB hb; clear hb hbox hg))
 (try simp only [Act.put, List.setIfInBounds_toArray, List.set_cons_zero, List.set_cons_succ])
 go_cut [17] (fun v17 wc => ∃ (kq : Nat) (x17_2 : Bool), v17 = .bool x17_2 ∧ Aside0 (spec_ScaleEvents.j0 kq a1 x17_2 a0_0 a0_1 a0_2 = some (r1, r2)) ∧ Aside0 (kq ≤ k) ∧ Aside0 (wc.heap[gb309]? = some (.cells #[.int .i64 a0_0, .int .i64 a0_1, .int .i64 a0_2] 40 (0, 0))) ∧ Aside0 (Below w.heap.size w wc))
 case first =>
  have H := HC3.out
  clear HC3
  replace H := Option.bind_eq_some_iff.mp H
  obtain ⟨t310, A50, H⟩ := H
  replace H : (if t310 = true then ((spec_l1In.f a1 0 200).bind fun t311 => (spec_ScaleEvents.j0 k a1 (!t311) a0_0 a0_1 a0_2)) else (spec_ScaleEvents.j0 k a1 true a0_0 a0_1 a0_2)) = some (r1, r2) := H
  have A5 := Aside0.mk A50
  clear A50
  by_cases c6 : t310 = true
  rotate_left
  ·replace c6 := Bool.eq_false_iff.mpr c6
   subst c6
   have H1 : (spec_ScaleEvents.j0 k a1 true a0_0 a0_1 a0_2) = some (r1, r2) := by rw [if_neg (show ¬ (false = true) by decide)] at H; exact H
   clear H
   have H := H1
   clear H1
   have H' := Aside0.mk H
   clear H
   have hcz10_0 := bc0 BK309
   have hcz10_1 := bc1 BK309
   have hcz10_2 := bc2 BK309
   have hfz10_0 := blk_frozen BK309.out 0
   have hfz10_1 := blk_frozen BK309.out 1
   have hfz10_2 := blk_frozen BK309.out 2
   go_wp2_with (first | ((with_reducible refine gate_callee (f := 148) rfl ?_); refine gl 11 Try.func148 #[.agg #[.int .i64 a0_0, .int .i64 a0_1, .int .i64 a0_2]] ?_; (with_reducible refine (spec_ckScale.calls a0_0 a0_1 a0_2 false _ A5.out).mono ?_); rintro e w11 ⟨rfl, hb⟩; refine ⟨_, rfl, ?_⟩; replace BK309 := bb BK309 hb; replace HB := bs HB hb; (try clear hb)))
   go_meet
   case rel => exact ⟨_, (true), (by first | rfl | (simp; done) | (simp [*]; done)), H', ⟨by first | omega | exact Nat.le_refl _⟩, ⟨bk BK309⟩, ⟨bw HB⟩⟩
  subst c6
  have H1 : ((spec_l1In.f a1 0 200).bind fun t311 => (spec_ScaleEvents.j0 k a1 (!t311) a0_0 a0_1 a0_2)) = some (r1, r2) := by rw [if_pos rfl] at H; exact H
  clear H
  have H := H1
  clear H1
  replace H := Option.bind_eq_some_iff.mp H
  obtain ⟨t311, A70, H⟩ := H
  replace H : (spec_ScaleEvents.j0 k a1 (!t311) a0_0 a0_1 a0_2) = some (r1, r2) := H
  have A7 := Aside0.mk A70
  clear A70
  have H' := Aside0.mk H
  clear H
  have hcz8_0 := bc0 BK309
  have hcz8_1 := bc1 BK309
  have hcz8_2 := bc2 BK309
  have hfz8_0 := blk_frozen BK309.out 0
  have hfz8_1 := blk_frozen BK309.out 1
  have hfz8_2 := blk_frozen BK309.out 2
  go_wp2_with (first | ((with_reducible refine gate_callee (f := 148) rfl ?_); refine gl 11 Try.func148 #[.agg #[.int .i64 a0_0, .int .i64 a0_1, .int .i64 a0_2]] ?_; (with_reducible refine (spec_ckScale.calls a0_0 a0_1 a0_2 true _ A5.out).mono ?_); rintro e w9 ⟨rfl, hb⟩; refine ⟨_, rfl, ?_⟩; replace BK309 := bb BK309 hb; replace HB := bs HB hb; (try clear hb)) | (go_at_call 143; (with_reducible refine (spec_l1In.calls a1 0 200 t311 _ A7.out).mono ?_); rintro e w' ⟨rfl, ⟨nd, rfl⟩⟩))
  go_meet
  case rel => exact ⟨_, (!t311), (by first | rfl | (simp; done) | (simp [*]; done)), H', ⟨by first | omega | exact Nat.le_refl _⟩, ⟨bk BK309⟩, ⟨bw HB⟩⟩
 case rest =>
  clear HC3
  try clear c1
  try clear c2
  try clear p2
  try clear c6
  try clear hcz10_0
  try clear hcz10_1
  try clear hcz10_2
  try clear hcz8_0
  try clear hcz8_1
  try clear hcz8_2
  try clear hfz10_0
  try clear hfz10_1
  try clear hfz10_2
  try clear hfz8_0
  try clear hfz8_1
  try clear hfz8_2
  obtain ⟨kq, x17_2, rfl, HA, HJ2, BK309, HB⟩ := hcut
  cases kq with
  | zero => exact absurd HA.out (by simp [spec_ScaleEvents.j0])
  | succ kj2 =>
   have H := HA.out
   clear HA
   simp only [spec_ScaleEvents.j0] at H
   by_cases c12 : x17_2 = true
   ·subst c12
    have H1 : (some ((⟨#[]⟩ : ByteArray), false)) = some (r1, r2) := by rw [if_pos rfl] at H; exact H
    clear H
    have H := H1
    clear H1
    simp only [Option.some.injEq, Prod.mk.injEq] at H
    obtain ⟨rfl, rfl⟩ := H
    go_wp2
    go_ret2
    exact ⟨by first | rfl | (simp [errW_none, errW_some] <;> rfl) | (simp [*, errW_none, errW_some] <;> rfl), bw HB⟩
   replace c12 := Bool.eq_false_iff.mpr c12
   subst c12
   have H1 : (spec_ScaleEvents.l0 kj2 a1 (⟨#[]⟩ : ByteArray) a0_0 a0_1 a0_2 0 0) = some (r1, r2) := by rw [if_neg (show ¬ (false = true) by decide)] at H; exact H
   clear H
   have H := H1
   clear H1
   have H' := Aside0.mk H
   clear H
   go_wp2_with (first | ((with_reducible refine gate_dst (N := 6) rfl ?_); refine bx 6 #[.int .i64 0, .int .i64 0] 154 ?_; intro gb312 hg w13 hbox hb; have BK312 := Aside0.mk (hbox); have GW312 := ge HB hg; have GE312 := ge HB hg; replace HB := bs HB hb; have NB309_312 := nl BK309 hg; have NB312_309 := nr BK309 hg; replace BK309 := bb BK309 hb; clear hb hbox hg; have hnb14 := NB312_309.out; have hnc14 := NB309_312.out; have hcz15_0 := bc0 BK312; have hcz15_1 := bc1 BK312; have hfz15_0 := blk_frozen BK312.out 0; have hfz15_1 := blk_frozen BK312.out 1))
   try simp only [Act.put, List.setIfInBounds_toArray, List.set_cons_zero, List.set_cons_succ]
   go_loopg [1, 7] kj2 (fun kq v1 v7 w' => ∃ (x1_2 : Int) (x7_2 : ByteArray) (x313000_2 : Int) (x313001_2 : Int), v1 = .int .i64 x1_2 ∧ v7 = .string x7_2 ∧ Aside0 (spec_ScaleEvents.l0 kq x1_2 x7_2 a0_0 a0_1 a0_2 x313000_2 x313001_2 = some (r1, r2)) ∧ Aside0 (kq ≤ kj2) ∧ Aside0 (w'.heap[gb309]? = some (.cells #[.int .i64 a0_0, .int .i64 a0_1, .int .i64 a0_2] 40 (0, 0))) ∧ Aside0 (w'.heap[gb312]? = some (.cells #[.int .i64 x313000_2, .int .i64 x313001_2] 154 (0, 0))) ∧ Aside0 (Below w.heap.size w w'))
   case atStart => exact ⟨(a1), ((⟨#[]⟩ : ByteArray)), (0), (0), (by first | rfl | (simp; done) | (simp [*]; done)), (by first | rfl | (simp; done) | (simp [*]; done)), H', ⟨Nat.le_refl _⟩, ⟨bk BK309⟩, ⟨by (with_reducible repeat (first | refine blk_drewN ?_ _ | refine blk_drew ?_ | refine blk_alloc ?_ _)); refine blk_put (cs := #[.int .i64 0, .int .i64 0]) ?_ 1 _ rfl; (with_reducible repeat (first | refine blk_drewN ?_ _ | refine blk_drew ?_ | refine blk_alloc ?_ _)); refine blk_put (cs := #[.int .i64 0, .int .i64 0]) ?_ 0 _ rfl; exact bk BK312⟩, ⟨bw HB⟩⟩
   case round =>
    clear H'
    try clear c1
    try clear c2
    try clear p2
    try clear c6
    try clear c12
    try clear c14
    try clear hcz10_0
    try clear hcz10_1
    try clear hcz10_2
    try clear hcz15_0
    try clear hcz15_1
    try clear hcz8_0
    try clear hcz8_1
    try clear hcz8_2
    try clear hfz10_0
    try clear hfz10_1
    try clear hfz10_2
    try clear hfz15_0
    try clear hfz15_1
    try clear hfz8_0
    try clear hfz8_1
    try clear hfz8_2
    try clear p2
    obtain ⟨x1_2, x7_2, x313000_2, x313001_2, rfl, rfl, HA, HK2, BK309, BK312, HB⟩ := hrel
    cases gk with
    | zero => exact absurd HA.out (by simp [spec_ScaleEvents.l0])
    | succ k2 =>
     have H := HA.out
     clear HA
     simp only [spec_ScaleEvents.l0] at H
     by_cases c16 : x1_2 > 0
     rotate_left
     ·rw [if_neg c16] at H
      have c16b0 : decide (0 < x1_2) = false := decide_eq_false c16
      clear c16
      simp only [Option.some.injEq, Prod.mk.injEq] at H
      obtain ⟨rfl, rfl⟩ := H
      go_wp2
      go_ret2
      exact ⟨by first | rfl | (simp [errW_none, errW_some] <;> rfl) | (simp [*, errW_none, errW_some] <;> rfl), bw HB⟩
     rw [if_pos c16] at H
     have c16b0 : decide (0 < x1_2) = true := decide_eq_true c16
     clear c16
     replace H := Option.bind_eq_some_iff.mp H
     obtain ⟨⟨t313, t314, t315⟩, A170, H⟩ := H
     replace H : (if x7_2.size + t315.size ≤ 9223372036854775807 then (spec_ScaleEvents.l0 k2 (wrap64 (x1_2 - 1)) (x7_2 ++ t315) a0_0 a0_1 a0_2 t313 t314) else (none)) = some (r1, r2) := H
     have A17 := Aside0.mk A170
     clear A170
     by_cases c18 : x7_2.size + t315.size ≤ 9223372036854775807
     rotate_left
     ·rw [if_neg c18] at H
      exact absurd H (by simp)
     rw [if_pos c18] at H
     have c18b0 := eq_true c18
     have c18b1 : decide (x7_2.size + t315.size ≤ 9223372036854775807) = true := decide_eq_true c18
     try have c18b2 : (9223372036854775807 < x7_2.size + t315.size) = False := eq_false (Nat.not_lt.2 c18)
     have H' := Aside0.mk H
     clear H
     have hnb19 := NB312_309.out
     have hnc19 := NB309_312.out
     have hcz20_0 := bc0 BK312
     have hcz20_1 := bc1 BK312
     have hfz20_0 := blk_frozen BK312.out 0
     have hfz20_1 := blk_frozen BK312.out 1
     have hcz21_0 := bc0 BK309
     have hcz21_1 := bc1 BK309
     have hcz21_2 := bc2 BK309
     have hfz21_0 := blk_frozen BK309.out 0
     have hfz21_1 := blk_frozen BK309.out 1
     have hfz21_2 := blk_frozen BK309.out 2
     go_wp2_with (first | ((with_reducible refine gate_callee (f := 149) rfl ?_); refine gl 26 Try.func149 #[.agg #[.int .i64 x313000_2, .int .i64 x313001_2], .agg #[.int .i64 a0_0, .int .i64 a0_1, .int .i64 a0_2]] ?_; (with_reducible refine (spec_ckPans_tick.calls x313000_2 x313001_2 a0_0 a0_1 a0_2 t313 t314 t315 _ A17.out).mono ?_); rintro e w22 ⟨rfl, hb⟩; refine ⟨_, rfl, ?_⟩; replace BK309 := bb BK309 hb; replace BK312 := bb BK312 hb; replace HB := bs HB hb; (try clear hb)) | ((with_reducible refine gate_dst (N := 8) rfl ?_); refine bx 8 #[.int .i64 0, .int .i64 0] 154 ?_; intro gb316 hg w23 hbox hb; have BK316 := Aside0.mk (hbox); have GW316 := ge HB hg; have GE316 := ge HB hg; replace HB := bs HB hb; have NB309_316 := nl BK309 hg; have NB316_309 := nr BK309 hg; replace BK309 := bb BK309 hb; have NB312_316 := nl BK312 hg; have NB316_312 := nr BK312 hg; replace BK312 := bb BK312 hb; clear hb hbox hg; have hnb24 := NB316_309.out; have hnc24 := NB309_316.out; have hnb25 := NB316_312.out; have hnc25 := NB312_316.out; have hcz26_0 := bc0 BK316; have hcz26_1 := bc1 BK316; have hfz26_0 := blk_frozen BK316.out 0; have hfz26_1 := blk_frozen BK316.out 1; have hcz27_0 := bc0 BK312; have hcz27_1 := bc1 BK312; have hfz27_0 := blk_frozen BK312.out 0; have hfz27_1 := blk_frozen BK312.out 1))
     go_roundg k2
     case measure => have := HJ2.out; have := HK2.out; omega
     case rel => exact ⟨(wrap64 (x1_2 - 1)), (x7_2 ++ t315), (t313), (t314), (by first | rfl | (simp; done) | (simp [*]; done)), (by first | rfl | (simp; done) | (simp [*]; done)), H', ⟨by have := HJ2.out; have := HK2.out; omega⟩, ⟨bk BK309⟩, ⟨by (with_reducible repeat (first | refine blk_drewN ?_ _ | refine blk_drew ?_ | refine blk_alloc ?_ _)); refine blk_put (cs := #[.int .i64 t313, .int .i64 x313001_2]) ?_ 1 _ rfl; (with_reducible repeat (first | refine blk_drewN ?_ _ | refine blk_drew ?_ | refine blk_alloc ?_ _)); refine blk_put (cs := #[.int .i64 x313000_2, .int .i64 x313001_2]) ?_ 0 _ rfl; exact bk BK312⟩, ⟨bw HB⟩⟩

/-! ### spec_DrawPeriodOfScale: function 26 -/
def spec_DrawPeriodOfScale.f (l0 : List Int) : Option (Int × Int × Int) := (spec_l1Cur_scale.f l0 0 0).bind fun bt319 => (some (bt319.1, bt319.2.1, bt319.2.2.1))
set_option maxHeartbeats 8000000 in
set_option maxRecDepth 100000 in
theorem spec_DrawPeriodOfScale.calls (A0 : Option Addr) (c0 : Nat) (l0 : List Int) (r1 : Int) (r2 : Int) (r3 : Int) (w : World) (hr0 : Kd.C (Kd.int .u8) w A0 l0.length l0) (hc0 : l0.length ≤ c0) (h : spec_DrawPeriodOfScale.f l0 = some (r1, r2, r3)) :
  Calls Try.prog 26 #[.slice A0 l0.length c0] w fun e w' => e = .returned (.agg #[.int .i64 r1, .int .i64 r2, .int .i64 r3]) ∧ Below w.heap.size w w' := by
 have hu40 := Try.underlying40
 have hu140 := Try.underlying140
 have HR0 := Aside0.mk hr0
 have HC0 := Aside0.mk hc0
 clear hr0 hc0
 have HB := Aside0.mk (Below.refl w.heap.size w)
 have H : ((spec_l1Cur_scale.f l0 0 0).bind fun bt319 => (some (bt319.1, bt319.2.1, bt319.2.2.1))) = some (r1, r2, r3) := h
 clear h
 replace H := Option.bind_eq_some_iff.mp H
 obtain ⟨⟨t319, t320, t321, t322, t323⟩, A20, H⟩ := H
 replace H : (some (t319, t320, t321)) = some (r1, r2, r3) := H
 have A2 := Aside0.mk A20
 clear A20
 simp only [Option.some.injEq, Prod.mk.injEq] at H
 obtain ⟨rfl, rfl, rfl⟩ := H
 go_enter Try.func26, Try.ntmps26
 go_wp2_with (first | ((with_reducible refine gate_dst (N := 2) rfl ?_); refine bx 2 #[.int .i64 0, .int .i64 0, .int .i64 0] 40 ?_; intro gb317 hg w3 hbox hb; have BK317 := Aside0.mk (hbox); have GW317 := ge HB hg; have GE317 := ge HB hg; replace HB := bs HB hb; clear hb hbox hg) | ((with_reducible refine gate_dst (N := 6) rfl ?_); refine bx 6 #[.slice A0 l0.length c0, .int .i64 0, .int .u64 0] 140 ?_; intro gb318 hg w4 hbox hb; have HI318 := Aside0.mk ((⟨_, _, hbox, (by rw [hg]; exact (below_size (bw HB)) : w.heap.size ≤ gb318), HR0.out⟩ : IsS140 w _ gb318 l0 0 0)); replace HB := bs HB hb; have NB317_318 := nl BK317 hg; have NB318_317 := nr BK317 hg; replace BK317 := bb BK317 hb; clear hb hbox hg) | ((with_reducible refine gate_callee (f := 144) rfl ?_); refine gl 8 Try.func144 #[.pointer (some ⟨gb318, 0, none⟩)] ?_; (with_reducible refine (spec_l1Cur_scale.calls gb318 l0 0 0 t319 t320 t321 t322 t323 w _ ?side1 ?side2 A2.out).mono ?_); (case side1 => repeat (first | (with_reducible first | exact HI318.out | apply IsS140.alloc | apply IsS140.drewN | apply IsS140.drew | apply IsS140.set_1 | apply IsS140.set_2 | refine IsS140.far ?_ NB318_317.out _) | exact HI318.out)); (case side2 => repeat (first | (with_reducible first | exact HB.out | apply below_alloc | apply pw_below_drewN | apply below_drew1 | refine below_set ?_ (IsS140.ge HI318.out) | refine below_set ?_ GE317.out) | exact HB.out)); rintro e w5 ⟨rfl, hi, hb, hk⟩; refine ⟨_, rfl, ?_⟩; replace BK317 := Aside0.mk (KeepBut.blk hk (g' := gb317) (o := .cells #[.int .i64 0, .int .i64 0, .int .i64 0] 40 (0, 0)) (bk BK317) NB317_318.out (by simp)); replace HB := Aside0.mk (hb); replace HI318 := Aside0.mk (hi); (try clear hb); (try clear hk); (try clear hi); have hnb6 := NB317_318.out; have hnc6 := NB318_317.out; have hcz7_0 := bc0 BK317; have hcz7_1 := bc1 BK317; have hcz7_2 := bc2 BK317; have hfz7_0 := blk_frozen BK317.out 0; have hfz7_1 := blk_frozen BK317.out 1; have hfz7_2 := blk_frozen BK317.out 2))
 refine bodyPost_ret (results_cell_row rfl _ _ gb317 40 #[.int .i64 t319, .int .i64 t320, .int .i64 t321] (0, 0) _ rfl (by (with_reducible repeat (first | refine blk_drewN ?_ _ | refine blk_drew ?_ | refine blk_alloc ?_ _)); refine blk_put (cs := #[.int .i64 t319, .int .i64 t320, .int .i64 0]) ?_ 2 _ rfl; (with_reducible repeat (first | refine blk_drewN ?_ _ | refine blk_drew ?_ | refine blk_alloc ?_ _)); refine blk_put (cs := #[.int .i64 t319, .int .i64 0, .int .i64 0]) ?_ 1 _ rfl; (with_reducible repeat (first | refine blk_drewN ?_ _ | refine blk_drew ?_ | refine blk_alloc ?_ _)); refine blk_put (cs := #[.int .i64 0, .int .i64 0, .int .i64 0]) ?_ 0 _ rfl; exact bk BK317) Try.underlying40 rfl (by kernel_rfl)) rfl ?_
 exact ⟨by first | rfl | (simp [errW_none, errW_some] <;> rfl) | (simp [*, errW_none, errW_some] <;> rfl), by repeat (first | (with_reducible first | exact HB.out | apply below_alloc | apply pw_below_drewN | apply below_drew1 | refine below_set ?_ (IsS140.ge HI318.out) | refine below_set ?_ GE317.out) | exact HB.out)⟩

/-! ### impl_PeriodOfScale: function 27 -/
def impl_PeriodOfScale.l0 : Nat → List ((Int × Int) × Int) → Int → Int → Int → Int → Int → Int → Option (Int × Int × Bool)
 | 0, _, _, _, _, _, _, _ => none
 | k + 1, m, t, a0_0, a0_1, a0_2, p0, p1 => if t ≤ 2000 then ((impl_Scale_tip.f a0_0 a0_1 a0_2 p0 p1).bind fun bt => (if (Lit.int .i64 bt.1).wf = true then (if (Lit.int .i64 bt.2.1).wf = true then (if (Gv.lk m (bt.1, bt.2.1)).isSome = true then some (t, (Gv.lk m (bt.1, bt.2.1)).getD 0, true) else impl_PeriodOfScale.l0 k (m ++ [((bt.1, bt.2.1), t)]) (wrap64 (t + 1)) a0_0 a0_1 a0_2 bt.1 bt.2.1) else none) else none)) else some (0, 0, false)
def impl_PeriodOfScale.f (k : Nat) (a0_0 : Int) (a0_1 : Int) (a0_2 : Int) : Option (Int × Int × Bool) := (impl_isScale.f a0_0 a0_1 a0_2).bind fun t155 => (if t155 = true then (impl_PeriodOfScale.l0 k [((0, 0), 0)] 1 a0_0 a0_1 a0_2 0 0) else (some (0, 0, false)))
theorem impl_PeriodOfScale.mono_l : ∀ k, (∀ y0 y1 y2 y3 y4 y5 y6, LeO (impl_PeriodOfScale.l0 k y0 y1 y2 y3 y4 y5 y6) (impl_PeriodOfScale.l0 (k + 1) y0 y1 y2 y3 y4 y5 y6))
 | 0 => fun _ _ _ _ _ _ _ r h => by simp [impl_PeriodOfScale.l0] at h
 | k + 1 => by
  have ih0 := impl_PeriodOfScale.mono_l k
  ·intro y0 y1 y2 y3 y4 y5 y6
   unfold impl_PeriodOfScale.l0
   repeat' first
   | (with_reducible exact ih0 _ _ _ _ _ _ _)
   | (with_reducible exact LeO.refl _)
   | (with_reducible exact LeO.none _)
   | (with_reducible refine LeO.ite ?_ ?_)
   | (with_reducible refine LeO.bind ?_ (fun _ => ?_))
theorem impl_PeriodOfScale.mono : ∀ a0 a1 a2 k, LeO (impl_PeriodOfScale.f k a0 a1 a2) (impl_PeriodOfScale.f (k + 1) a0 a1 a2) := by
 intro a0 a1 a2 k
 have ih0 := impl_PeriodOfScale.mono_l k
 unfold impl_PeriodOfScale.f
 repeat' first
   | (with_reducible exact ih0 _ _ _ _ _ _ _)
   | (with_reducible exact LeO.refl _)
   | (with_reducible exact LeO.none _)
   | (with_reducible refine LeO.ite ?_ ?_)
   | (with_reducible refine LeO.bind ?_ (fun _ => ?_))
set_option maxHeartbeats 8000000 in
set_option maxRecDepth 100000 in
theorem impl_PeriodOfScale.calls (k : Nat) (a0_0 : Int) (a0_1 : Int) (a0_2 : Int) (r1 : Int) (r2 : Int) (r3 : Bool) (w : World) (h : impl_PeriodOfScale.f k a0_0 a0_1 a0_2 = some (r1, r2, r3)) :
  Calls Try.prog 27 #[.agg #[.int .i64 a0_0, .int .i64 a0_1, .int .i64 a0_2]] w fun e w' => e = .returned (.tuple #[.int .i64 r1, .int .i64 r2, .bool r3]) ∧ Below w.heap.size w w' := by
 have hu40 := Try.underlying40
 have hu150 := Try.underlying150
 have HB := Aside0.mk (Below.refl w.heap.size w)
 unfold impl_PeriodOfScale.f at h
 replace h := Option.bind_eq_some_iff.mp h
 obtain ⟨t155, A50, H⟩ := h
 have A5 := Aside0.mk A50
 clear A50
 by_cases c3 : t155 = true
 rotate_left
 ·replace c3 := Bool.eq_false_iff.mpr c3
  subst c3
  have H1 : (some ((0 : Int), (0 : Int), false)) = some (r1, r2, r3) := by simpa using H
  clear H
  simp only [Option.some.injEq, Prod.mk.injEq] at H1
  obtain ⟨rfl, rfl, rfl⟩ := H1
  go_enter Try.func27, Try.ntmps27
  go_wp2_with (first | ((with_reducible refine gate_dst (N := 1) rfl ?_); refine bx 1 #[.int .i64 a0_0, .int .i64 a0_1, .int .i64 a0_2] 40 ?_; intro gb1 hg w4 hbox hb; have n0_ := bs HB hb; have n1_ := Aside0.mk (hbox); have n2_ := ge HB hg; have HB := n0_; have BK1 := n1_; have GE1 := n2_; clear n0_ n1_ n2_; clear hb hbox hg; have hcz5_0 := bc0 BK1; have hcz5_1 := bc1 BK1; have hcz5_2 := bc2 BK1; have hfz5_0 := blk_frozen BK1.out 0; have hfz5_1 := blk_frozen BK1.out 1; have hfz5_2 := blk_frozen BK1.out 2) | ((with_reducible refine gate_callee (f := 146) rfl ?_); refine gl 11 Try.func146 #[.agg #[.int .i64 a0_0, .int .i64 a0_1, .int .i64 a0_2]] ?_; (with_reducible refine (impl_isScale.calls a0_0 a0_1 a0_2 false _ A5.out).mono ?_); rintro e w9 ⟨rfl, hb⟩; refine ⟨_, rfl, ?_⟩; have n0_ := bb BK1 hb; have n1_ := bs HB hb; have BK1 := n0_; have HB := n1_; clear n0_ n1_; (try clear hb)))
  go_ret3
  exact ⟨by first | rfl | (simp [errW_none, errW_some] <;> rfl) | (simp [*, errW_none, errW_some] <;> rfl), (bw HB)⟩
 subst c3
 have H1 : (impl_PeriodOfScale.l0 k [((0, 0), 0)] 1 a0_0 a0_1 a0_2 0 0) = some (r1, r2, r3) := by simpa using H
 clear H
 have H' := Aside0.mk H1
 clear H1
 go_enter Try.func27, Try.ntmps27
 go_wp2_with (first | ((with_reducible refine gate_dst (N := 1) rfl ?_); refine bx 1 #[.int .i64 a0_0, .int .i64 a0_1, .int .i64 a0_2] 40 ?_; intro gb1 hg w4 hbox hb; have n0_ := bs HB hb; have n1_ := Aside0.mk (hbox); have n2_ := ge HB hg; have HB := n0_; have BK1 := n1_; have GE1 := n2_; clear n0_ n1_ n2_; clear hb hbox hg; have hcz5_0 := bc0 BK1; have hcz5_1 := bc1 BK1; have hcz5_2 := bc2 BK1; have hfz5_0 := blk_frozen BK1.out 0; have hfz5_1 := blk_frozen BK1.out 1; have hfz5_2 := blk_frozen BK1.out 2) | ((with_reducible refine gate_callee (f := 146) rfl ?_); refine gl 11 Try.func146 #[.agg #[.int .i64 a0_0, .int .i64 a0_1, .int .i64 a0_2]] ?_; (with_reducible refine (impl_isScale.calls a0_0 a0_1 a0_2 true _ A5.out).mono ?_); rintro e w9 ⟨rfl, hb⟩; refine ⟨_, rfl, ?_⟩; have n0_ := bb BK1 hb; have n1_ := bs HB hb; have BK1 := n0_; have HB := n1_; clear n0_ n1_; (try clear hb)) | ((with_reducible refine gate_dst (N := 5) rfl ?_); refine bx 5 #[.int .i64 0, .int .i64 0] 150 ?_; intro gb2 hg w15 hbox hb; have n0_ := bb BK1 hb; have n1_ := bs HB hb; have n2_ := Aside0.mk (hbox); have n3_ := ge HB hg; have n4_ := nl BK1 hg; have BK1 := n0_; have HB := n1_; have BK2 := n2_; have GE2 := n3_; have NB12 := n4_; clear n0_ n1_ n2_ n3_ n4_; clear hb hbox hg; have NB21 := Aside0.mk NB12.out.symm; have hnb16 := NB21.out; have hnc16 := NB12.out; have hcz17_0 := bc0 BK2; have hcz17_1 := bc1 BK2; have hfz17_0 := blk_frozen BK2.out 0; have hfz17_1 := blk_frozen BK2.out 1) | ((with_reducible refine gate_dst (N := 14) rfl ?_); refine Gv.map_event (ev := Gv.ev2) (k := 150) (e := 3) rfl (N := 14) rfl 157 rfl ?_; intro gb3 hg w16 hmap hb; have n0_ := Aside0.mk (blk_below (g := gb1) (o := .cells #[.int .i64 a0_0, .int .i64 a0_1, .int .i64 a0_2] 40 (0, 0)) (by (exact bk BK1)) hb); have n1_ := Aside0.mk (blk_below (g := gb2) (o := .cells #[.int .i64 0, .int .i64 0] 150 (0, 0)) (by ((with_reducible repeat (first | refine blk_drewN ?_ _ | refine blk_drew ?_ | refine blk_alloc ?_ _)); refine blk_put (cs := #[.int .i64 0, .int .i64 0]) ?_ 1 _ rfl; (with_reducible repeat (first | refine blk_drewN ?_ _ | refine blk_drew ?_ | refine blk_alloc ?_ _)); refine blk_put (cs := #[.int .i64 0, .int .i64 0]) ?_ 0 _ rfl; exact bk BK2)) hb); have n2_ := bs HB hb; have n3_ := Aside0.mk (hmap); have n4_ := ge HB hg; have BK1 := n0_; have BK2 := n1_; have HB0 := n2_; have MP := n3_; have GE3 := n4_; clear n0_ n1_ n2_ n3_ n4_; clear HB; have HB := HB0; clear HB0 hb hmap hg; have NB13 : NeC gb1 gb3 := ⟨Gv.MapIs.ne MP.out BK1.out⟩; have NB23 : NeC gb2 gb3 := ⟨Gv.MapIs.ne MP.out BK2.out⟩; have hcz18_0 := bc0 BK2; have hcz18_1 := bc1 BK2; have hfz18_0 := blk_frozen BK2.out 0; have hfz18_1 := blk_frozen BK2.out 1) | ((with_reducible refine Gv.gate_insert (t := 157) (x := .tmp 14) (y := .tmp 15) rfl ?_); refine Gv.wpList_store_is (ev := Gv.ev2) (k := 150) (e := 3) rfl (.tmp 14) (.tmp 15) (.const (.int .i64 0)) 157 (Or.inr rfl) Gv.keyed2 Try.underlying157 Try.underlying3 gb3 [] rfl ?sM (by decide) (0, 0) rfl _ (Gv.key2 0 0 (by decide) (by decide)).choose_spec (fun y => Gv.ev2_inj y _) 0 rfl (by decide) rfl ?_; (case sM => (with_reducible repeat (first | apply Gv.MapIs.drewN | apply Gv.MapIs.drew1)); exact MP.out); intro w17 hmap hgr; have n0_ := Aside0.mk (blk_grown (bk BK1) hgr (fun e => NB13.out (by injection e))); have n1_ := Aside0.mk (blk_grown (bk BK2) hgr (fun e => NB23.out (by injection e))); have n2_ := Aside0.mk (Gv.below_grown (bw HB) hgr GE3.out); have n3_ := Aside0.mk (hmap); have BK1 := n0_; have BK2 := n1_; have HB := n2_; have MP := n3_; clear n0_ n1_ n2_ n3_; clear hgr hmap; have hcz19_0 := bc0 BK2; have hcz19_1 := bc1 BK2; have hfz19_0 := blk_frozen BK2.out 0; have hfz19_1 := blk_frozen BK2.out 1))
 try simp only [Act.put, List.setIfInBounds_toArray, List.set_cons_zero, List.set_cons_succ]
 go_loopg [7] k (fun kq v7 wI => ∃ (t : Int) (m : List ((Int × Int) × Int)) (p0 p1 : Int), v7 = .int .i64 t ∧ Aside0 (impl_PeriodOfScale.l0 kq m t a0_0 a0_1 a0_2 p0 p1 = some (r1, r2, r3)) ∧ Aside0 (kq ≤ k) ∧ Aside0 (1 ≤ t) ∧ Aside0 ((m.length : Int) = t) ∧ Aside0 (wI.heap[gb1]? = some (.cells #[.int .i64 a0_0, .int .i64 a0_1, .int .i64 a0_2] 40 (0, 0))) ∧ Aside0 (wI.heap[gb2]? = some (.cells #[.int .i64 p0, .int .i64 p1] 150 (0, 0))) ∧ Aside0 (Gv.MapIs Gv.ev2 150 3 wI gb3 m) ∧ Aside0 (Below w.heap.size w wI))
 case atStart => exact ⟨1, [((0, 0), 0)], 0, 0, rfl, H', ⟨Nat.le_refl _⟩, ⟨by omega⟩, ⟨rfl⟩, ⟨(bk BK1)⟩, ⟨(bk BK2)⟩, ⟨by (with_reducible repeat (first | apply Gv.MapIs.drewN | apply Gv.MapIs.drew1)); exact MP.out⟩, ⟨(bw HB)⟩⟩
 case round =>
  clear H'
  try clear c3
  (try clear hcz5_0); (try clear hcz5_1); (try clear hcz5_2); (try clear hfz5_0); (try clear hfz5_1); (try clear hfz5_2)
  (try clear hcz17_0); (try clear hcz17_1); (try clear hfz17_0); (try clear hfz17_1); (try clear hcz18_0); (try clear hcz18_1); (try clear hfz18_0); (try clear hfz18_1); (try clear hcz19_0); (try clear hcz19_1); (try clear hfz19_0); (try clear hfz19_1)
  obtain ⟨t, m, p0, p1, rfl, HA, HK1, T1, LEN, BK1, BK2, MP, HB⟩ := hrel
  cases gk with
  | zero => exact absurd HA.out (by simp [impl_PeriodOfScale.l0])
  | succ k1 =>
   have H := HA.out
   clear HA
   simp only [impl_PeriodOfScale.l0] at H
   by_cases c4 : t ≤ 2000
   rotate_left
   ·rw [if_neg c4] at H
    have c4b0 : decide (t ≤ 2000) = false := decide_eq_false c4
    clear c4
    simp only [Option.some.injEq, Prod.mk.injEq] at H
    obtain ⟨rfl, rfl, rfl⟩ := H
    go_wp2
    go_ret3
    exact ⟨by first | rfl | (simp [errW_none, errW_some] <;> rfl) | (simp [*, errW_none, errW_some] <;> rfl), (bw HB)⟩
   rw [if_pos c4] at H
   have c4b0 : decide (t ≤ 2000) = true := decide_eq_true c4
   have LT := Aside0.mk c4
   have WT : Aside0 ((Lit.int .i64 t).wf = true) := ⟨Gv.wf_small t (by have := T1.out; omega) c4⟩
   clear c4
   replace H := Option.bind_eq_some_iff.mp H
   obtain ⟨⟨t1, t2, t3⟩, A190, H⟩ := H
   have A19 := Aside0.mk A190
   clear A190
   by_cases cw1 : (Lit.int .i64 t1).wf = true
   case neg => rw [if_neg cw1] at H; cases H
   by_cases cw2 : (Lit.int .i64 t2).wf = true
   case neg => rw [if_pos cw1, if_neg cw2] at H; cases H
   rw [if_pos cw1, if_pos cw2] at H
   have W1 := Aside0.mk cw1
   have W2 := Aside0.mk cw2
   clear cw1 cw2
   have hnb21 := NB12.out
   have hnc21 := NB21.out
   have hcz22_0 := bc0 BK1
   have hcz22_1 := bc1 BK1
   have hcz22_2 := bc2 BK1
   have hfz22_0 := blk_frozen BK1.out 0
   have hfz22_1 := blk_frozen BK1.out 1
   have hfz22_2 := blk_frozen BK1.out 2
   have hcz23_0 := bc0 BK2
   have hcz23_1 := bc1 BK2
   have hfz23_0 := blk_frozen BK2.out 0
   have hfz23_1 := blk_frozen BK2.out 1
   by_cases c5 : (Gv.lk m (t1, t2)).isSome = true
   ·rw [if_pos c5] at H
    have LKb := Aside0.mk c5
    simp only [Option.some.injEq, Prod.mk.injEq] at H
    obtain ⟨rfl, rfl, rfl⟩ := H
    clear c5
    go_wp2_with (first | ((with_reducible refine gate_callee (f := 147) rfl ?_); refine gl 24 Try.func147 #[.agg #[.int .i64 a0_0, .int .i64 a0_1, .int .i64 a0_2], .agg #[.int .i64 p0, .int .i64 p1]] ?_; (with_reducible refine (impl_Scale_tip.calls a0_0 a0_1 a0_2 p0 p1 t1 t2 t3 _ A19.out).mono ?_); rintro e w24 ⟨rfl, hb⟩; refine ⟨_, rfl, ?_⟩; have n0_ := bb BK1 hb; have n1_ := bb BK2 hb; have n2_ := Aside0.mk ((by (with_reducible repeat (first | apply Gv.MapIs.drewN | apply Gv.MapIs.drew1)); exact MP.out : Gv.MapIs Gv.ev2 150 3 _ gb3 m).below hb); have n3_ := bs HB hb; have BK1 := n0_; have BK2 := n1_; have MP := n2_; have HB := n3_; clear n0_ n1_ n2_ n3_; (try clear hb); have hcz24_0 := bc0 BK2; have hcz24_1 := bc1 BK2; have hfz24_0 := blk_frozen BK2.out 0; have hfz24_1 := blk_frozen BK2.out 1) | ((with_reducible refine gate_dst (N := 30) rfl ?_); refine Gv.wpList_lookup_is (ev := Gv.ev2) (k := 150) (e := 3) rfl (.tmp 28) (.tmp 29) 157 rfl Gv.keyed2 Try.underlying157 Try.underlying3 Gv.zeroInt gb3 m rfl ?sM (t1, t2) rfl _ (Gv.key2 t1 t2 W1.out W2.out).choose_spec ?_; (case sM => exact (by ((with_reducible repeat (first | apply Gv.MapIs.drewN | apply Gv.MapIs.drew1)); refine Gv.MapIs.set ?_ _ NB23.out _; (with_reducible repeat (first | apply Gv.MapIs.drewN | apply Gv.MapIs.drew1)); refine Gv.MapIs.set ?_ _ NB23.out _; (with_reducible repeat (first | apply Gv.MapIs.drewN | apply Gv.MapIs.drew1)); exact MP.out))); try rw [LKb.out]; try rw [LKv.out]))
    go_ret3
    exact ⟨by first | rfl | (simp [errW_none, errW_some] <;> rfl) | (simp [*, errW_none, errW_some] <;> rfl), (bw HB)⟩
   rw [if_neg c5] at H
   replace c5 := Bool.eq_false_iff.mpr c5
   have LKb := Aside0.mk c5
   have LKn : Aside0 (Gv.lk m (t1, t2) = none) := ⟨by cases hl : Gv.lk m (t1, t2) with
    | none => rfl
    | some v => rw [hl] at c5; cases c5⟩
   clear c5
   have H' := Aside0.mk H
   clear H
   go_wp2_with (first | ((with_reducible refine gate_callee (f := 147) rfl ?_); refine gl 24 Try.func147 #[.agg #[.int .i64 a0_0, .int .i64 a0_1, .int .i64 a0_2], .agg #[.int .i64 p0, .int .i64 p1]] ?_; (with_reducible refine (impl_Scale_tip.calls a0_0 a0_1 a0_2 p0 p1 t1 t2 t3 _ A19.out).mono ?_); rintro e w24 ⟨rfl, hb⟩; refine ⟨_, rfl, ?_⟩; have n0_ := bb BK1 hb; have n1_ := bb BK2 hb; have n2_ := Aside0.mk ((by (with_reducible repeat (first | apply Gv.MapIs.drewN | apply Gv.MapIs.drew1)); exact MP.out : Gv.MapIs Gv.ev2 150 3 _ gb3 m).below hb); have n3_ := bs HB hb; have BK1 := n0_; have BK2 := n1_; have MP := n2_; have HB := n3_; clear n0_ n1_ n2_ n3_; (try clear hb); have hcz24_0 := bc0 BK2; have hcz24_1 := bc1 BK2; have hfz24_0 := blk_frozen BK2.out 0; have hfz24_1 := blk_frozen BK2.out 1) | ((with_reducible refine gate_dst (N := 30) rfl ?_); refine Gv.wpList_lookup_is (ev := Gv.ev2) (k := 150) (e := 3) rfl (.tmp 28) (.tmp 29) 157 rfl Gv.keyed2 Try.underlying157 Try.underlying3 Gv.zeroInt gb3 m rfl ?sM (t1, t2) rfl _ (Gv.key2 t1 t2 W1.out W2.out).choose_spec ?_; (case sM => exact (by ((with_reducible repeat (first | apply Gv.MapIs.drewN | apply Gv.MapIs.drew1)); refine Gv.MapIs.set ?_ _ NB23.out _; (with_reducible repeat (first | apply Gv.MapIs.drewN | apply Gv.MapIs.drew1)); refine Gv.MapIs.set ?_ _ NB23.out _; (with_reducible repeat (first | apply Gv.MapIs.drewN | apply Gv.MapIs.drew1)); exact MP.out))); try rw [LKb.out]; try rw [LKv.out]) | ((with_reducible refine Gv.gate_update (t := 157) (x := .tmp 36) (y := .tmp 37) rfl ?_); refine Gv.wpList_store_is (ev := Gv.ev2) (k := 150) (e := 3) rfl (.tmp 36) (.tmp 37) (.tmp 38) 157 (Or.inl rfl) Gv.keyed2 Try.underlying157 Try.underlying3 gb3 m rfl ?sM (by have := LEN.out; have := LT.out; unfold maxLen; omega) (t1, t2) rfl _ (Gv.key2 t1 t2 W1.out W2.out).choose_spec (fun y => Gv.ev2_inj y _) t rfl WT.out LKn.out ?_; (case sM => exact (by ((with_reducible repeat (first | apply Gv.MapIs.drewN | apply Gv.MapIs.drew1)); refine Gv.MapIs.set ?_ _ NB23.out _; (with_reducible repeat (first | apply Gv.MapIs.drewN | apply Gv.MapIs.drew1)); refine Gv.MapIs.set ?_ _ NB23.out _; (with_reducible repeat (first | apply Gv.MapIs.drewN | apply Gv.MapIs.drew1)); exact MP.out))); intro w37 hmap hgr; have n0_ := Aside0.mk (blk_grown (g := gb1) (o := .cells #[.int .i64 a0_0, .int .i64 a0_1, .int .i64 a0_2] 40 (0, 0)) (by (exact bk BK1)) hgr (fun e => NB13.out (by injection e))); have n1_ := Aside0.mk (blk_grown (g := gb2) (o := .cells #[.int .i64 t1, .int .i64 t2] 150 (0, 0)) (by ((with_reducible repeat (first | refine blk_drewN ?_ _ | refine blk_drew ?_ | refine blk_alloc ?_ _)); refine blk_put (cs := #[.int .i64 t1, .int .i64 p1]) ?_ 1 _ rfl; (with_reducible repeat (first | refine blk_drewN ?_ _ | refine blk_drew ?_ | refine blk_alloc ?_ _)); refine blk_put (cs := #[.int .i64 p0, .int .i64 p1]) ?_ 0 _ rfl; exact bk BK2)) hgr (fun e => NB23.out (by injection e))); have n2_ := Aside0.mk (Gv.below_grown (bw HB) hgr GE3.out); have n3_ := Aside0.mk (hmap); have BK1 := n0_; have BK2 := n1_; have HB := n2_; have MP := n3_; clear n0_ n1_ n2_ n3_; clear hgr hmap))
   go_roundg k1
   case measure => have := HK1.out; omega
   case rel => exact ⟨_, _, _, _, rfl, H', ⟨by have := HK1.out; omega⟩, ⟨by rw [Gv.wrap_small t (by have := T1.out; omega) LT.out]; have := T1.out; omega⟩, ⟨by rw [Gv.wrap_small t (by have := T1.out; omega) LT.out, List.length_append, List.length_singleton]; have := LEN.out; omega⟩, ⟨(bk BK1)⟩, ⟨(bk BK2)⟩, ⟨by (with_reducible repeat (first | apply Gv.MapIs.drewN | apply Gv.MapIs.drew1)); exact MP.out⟩, ⟨(bw HB)⟩⟩

/-! ### spec_ckSeen: function 150 -/
def spec_ckSeen.l0 : Nat → List (S154) → Int → Int → Int → Int → Option (Int)
 | 0, _, _, _, _, _ => none
 | k + 1, x7, x8, x9, x325000, x325001 => if x9 < x8 then (if 0 ≤ x9 then (if x9 < (x7.length : Int) then (if (((rd_T154 x7 x9).f0) == x325000 && (((rd_T154 x7 x9).f1) == x325001)) = true then (some x9) else (spec_ckSeen.l0 k x7 x8 (wrap64 (x9 + 1)) x325000 x325001)) else (none)) else (none)) else (some (-1))
def spec_ckSeen.f (k : Nat) (l0 : List (S154)) (a1_0 : Int) (a1_1 : Int) : Option (Int) := spec_ckSeen.l0 k l0 (l0.length : Int) 0 a1_0 a1_1
theorem spec_ckSeen.mono_l : ∀ k, (∀ y0 y1 y2 y3 y4, LeO (spec_ckSeen.l0 k y0 y1 y2 y3 y4) (spec_ckSeen.l0 (k + 1) y0 y1 y2 y3 y4))
 | 0 => fun _ _ _ _ _ r h => by simp [spec_ckSeen.l0] at h
 | k + 1 => by
  have ih0 := spec_ckSeen.mono_l k
  ·intro y0 y1 y2 y3 y4
   unfold spec_ckSeen.l0
   repeat' first
   | (with_reducible exact ih0 _ _ _ _ _)
   | (with_reducible exact LeO.refl _)
   | (with_reducible exact LeO.none _)
   | (with_reducible refine LeO.ite ?_ ?_)
   | (with_reducible refine LeO.bind ?_ (fun _ => ?_))
   | exact ih0 _ _ _ _ _
   | exact LeO.none _
   | refine LeO.ite ?_ ?_
   | refine LeO.bind ?_ (fun _ => ?_)
theorem spec_ckSeen.mono : ∀ a0 a1 a2 k, LeO (spec_ckSeen.f k a0 a1 a2) (spec_ckSeen.f (k + 1) a0 a1 a2) := by
 intro a0 a1 a2 k
 have ih0 := spec_ckSeen.mono_l k
 unfold spec_ckSeen.f
 repeat' first
   | (with_reducible exact ih0 _ _ _ _ _)
   | (with_reducible exact LeO.refl _)
   | (with_reducible exact LeO.none _)
   | (with_reducible refine LeO.ite ?_ ?_)
   | (with_reducible refine LeO.bind ?_ (fun _ => ?_))
   | exact ih0 _ _ _ _ _
   | exact LeO.none _
   | refine LeO.ite ?_ ?_
   | refine LeO.bind ?_ (fun _ => ?_)
set_option maxHeartbeats 8000000 in
set_option maxRecDepth 100000 in
theorem spec_ckSeen.calls (k : Nat) (A0 : Option Addr) (c0 : Nat) (l0 : List (S154)) (a1_0 : Int) (a1_1 : Int) (r : Int) (w : World) (hr0 : Kd.C k154 w A0 l0.length l0) (hc0 : l0.length ≤ c0) (h : spec_ckSeen.f k l0 a1_0 a1_1 = some r) :
  Calls Try.prog 150 #[.slice A0 l0.length c0, .agg #[.int .i64 a1_0, .int .i64 a1_1]] w fun e w' => e = .returned (.int .i64 r) ∧ Below w.heap.size w w' := by
 have hu154 := Try.underlying154
 have HR0 := Aside0.mk hr0
 have HC0 := Aside0.mk hc0
 clear hr0 hc0
 have HB := Aside0.mk (Below.refl w.heap.size w)
 have H : (spec_ckSeen.l0 k l0 (l0.length : Int) 0 a1_0 a1_1) = some r := h
 clear h
 have H' := Aside0.mk H
 clear H
 go_enter Try.func150, Try.ntmps150
 go_wp2_with (first | ((with_reducible refine gate_dst (N := 3) rfl ?_); refine bx 3 #[.int .i64 a1_0, .int .i64 a1_1] 154 ?_; intro gb324 hg w3 hbox hb; have BK324 := Aside0.mk (hbox); have GW324 := ge HB hg; have GE324 := ge HB hg; replace HB := bs HB hb; clear hb hbox hg))
 try simp only [Act.put, List.setIfInBounds_toArray, List.set_cons_zero, List.set_cons_succ]
 go_loopg [9] k (fun kq v9 w' => ∃ (x9_1 : Int), v9 = .int .i64 x9_1 ∧ Aside0 (spec_ckSeen.l0 kq l0 (l0.length : Int) x9_1 a1_0 a1_1 = some r) ∧ Aside0 (kq ≤ k) ∧ Aside0 (w'.heap[gb324]? = some (.cells #[.int .i64 a1_0, .int .i64 a1_1] 154 (0, 0))) ∧ Aside0 (Below w.heap.size w w'))
 case atStart => exact ⟨(0), (by first | rfl | (simp; done) | (simp [*]; done)), H', ⟨Nat.le_refl _⟩, ⟨bk BK324⟩, ⟨bw HB⟩⟩
 case round =>
  clear H'
  try clear c1
  try clear p2
  obtain ⟨x9_1, rfl, HA, HK1, BK324, HB⟩ := hrel
  cases gk with
  | zero => exact absurd HA.out (by simp [spec_ckSeen.l0])
  | succ k1 =>
   have H := HA.out
   clear HA
   simp only [spec_ckSeen.l0] at H
   by_cases c4 : x9_1 < (l0.length : Int)
   rotate_left
   ·rw [if_neg c4] at H
    have c4b0 : decide (x9_1 < (l0.length : Int)) = false := decide_eq_false c4
    clear c4
    obtain rfl := Option.some.inj H
    go_wp2
    go_ret
    exact ⟨by first | rfl | (simp [errW_none, errW_some] <;> rfl) | (simp [*, errW_none, errW_some] <;> rfl), bw HB⟩
   rw [if_pos c4] at H
   have c4b0 : decide (x9_1 < (l0.length : Int)) = true := decide_eq_true c4
   clear c4
   by_cases c5 : 0 ≤ x9_1
   rotate_left
   ·rw [if_neg c5] at H
    exact absurd H (by simp)
   rw [if_pos c5] at H
   have c5b0 : decide (0 ≤ x9_1) = true := decide_eq_true c5
   clear c5
   by_cases c6 : x9_1 < (l0.length : Int)
   rotate_left
   ·rw [if_neg c6] at H
    exact absurd H (by simp)
   rw [if_pos c6] at H
   have c6b0 : decide (x9_1 < (l0.length : Int)) = true := decide_eq_true c6
   clear c6
   by_cases c7 : (((rd_T154 l0 x9_1).f0) == a1_0 && (((rd_T154 l0 x9_1).f1) == a1_1)) = true
   ·rw [if_pos c7] at H
    have c7b0 : (((rd_T154 l0 x9_1).f0) == a1_0 && (((rd_T154 l0 x9_1).f1) == a1_1)) = true := c7
    (try (have c7b1 : decide (((rd_T154 l0 x9_1).f0) = a1_0 && (((rd_T154 l0 x9_1).f1) == a1_1)) = true := by simpa using c7))
    (try (have c7b2 : (((rd_T154 l0 x9_1).f0) == a1_0 && (((rd_T154 l0 x9_1).f1) == a1_1)) = true := by simpa using c7))
    clear c7
    obtain rfl := Option.some.inj H
    have p325 : 0 ≤ (x9_1 : Int) := of_decide_eq_true (by first | (with_reducible assumption) | assumption)
    have q325 : x9_1 < (l0.length : Int) := of_decide_eq_true (by first | (with_reducible assumption) | assumption)
    obtain ⟨ad325, e325, hx325_0, hx325_1⟩ := at_T154 HR0.out x9_1 p325 q325
    cases e325
    replace hx325_0 := (HB.out.cell (World.block_lt_of_cell? w _ hx325_0)).trans hx325_0
    replace hx325_1 := (HB.out.cell (World.block_lt_of_cell? w _ hx325_1)).trans hx325_1
    replace p325 := eq_true p325
    replace q325 := eq_true q325
    go_wp2_with (first | ((with_reducible refine gate_dst (N := 6) rfl ?_); refine bx 6 #[.int .i64 0, .int .i64 0] 154 ?_; intro gb326 hg w8 hbox hb; have BK326 := Aside0.mk (hbox); have GW326 := ge HB hg; have GE326 := ge HB hg; replace HB := bs HB hb; have NB324_326 := nl BK324 hg; have NB326_324 := nr BK324 hg; replace BK324 := bb BK324 hb; clear hb hbox hg; have hnb9 := NB326_324.out; have hnc9 := NB324_326.out; have hcz10_0 := bc0 BK326; have hcz10_1 := bc1 BK326; have hfz10_0 := blk_frozen BK326.out 0; have hfz10_1 := blk_frozen BK326.out 1; have hcz11_0 := bc0 BK324; have hcz11_1 := bc1 BK324; have hfz11_0 := blk_frozen BK324.out 0; have hfz11_1 := blk_frozen BK324.out 1))
    go_ret
    exact ⟨by first | rfl | (simp [errW_none, errW_some] <;> rfl) | (simp [*, errW_none, errW_some] <;> rfl), bw HB⟩
   rw [if_neg c7] at H
   have c7b0 : (((rd_T154 l0 x9_1).f0) == a1_0 && (((rd_T154 l0 x9_1).f1) == a1_1)) = false := by simpa using c7
   (try (have c7b1 : decide (((rd_T154 l0 x9_1).f0) = a1_0 && (((rd_T154 l0 x9_1).f1) == a1_1)) = false := by simpa using c7))
   (try (have c7b2 : (((rd_T154 l0 x9_1).f0) == a1_0 && (((rd_T154 l0 x9_1).f1) == a1_1)) = false := by simpa using c7))
   (try (have c7b3 : ¬ (((rd_T154 l0 x9_1).f0) = a1_0 && (((rd_T154 l0 x9_1).f1) == a1_1)) := by simpa using c7))
   clear c7
   have H' := Aside0.mk H
   clear H
   have p325 : 0 ≤ (x9_1 : Int) := of_decide_eq_true (by first | (with_reducible assumption) | assumption)
   have q325 : x9_1 < (l0.length : Int) := of_decide_eq_true (by first | (with_reducible assumption) | assumption)
   obtain ⟨ad325, e325, hx325_0, hx325_1⟩ := at_T154 HR0.out x9_1 p325 q325
   cases e325
   replace hx325_0 := (HB.out.cell (World.block_lt_of_cell? w _ hx325_0)).trans hx325_0
   replace hx325_1 := (HB.out.cell (World.block_lt_of_cell? w _ hx325_1)).trans hx325_1
   replace p325 := eq_true p325
   replace q325 := eq_true q325
   go_wp2_with (first | ((with_reducible refine gate_dst (N := 6) rfl ?_); refine bx 6 #[.int .i64 0, .int .i64 0] 154 ?_; intro gb326 hg w12 hbox hb; have BK326 := Aside0.mk (hbox); have GW326 := ge HB hg; have GE326 := ge HB hg; replace HB := bs HB hb; have NB324_326 := nl BK324 hg; have NB326_324 := nr BK324 hg; replace BK324 := bb BK324 hb; clear hb hbox hg; have hnb13 := NB326_324.out; have hnc13 := NB324_326.out; have hcz14_0 := bc0 BK326; have hcz14_1 := bc1 BK326; have hfz14_0 := blk_frozen BK326.out 0; have hfz14_1 := blk_frozen BK326.out 1; have hcz15_0 := bc0 BK324; have hcz15_1 := bc1 BK324; have hfz15_0 := blk_frozen BK324.out 0; have hfz15_1 := blk_frozen BK324.out 1))
   go_roundg k1
   case measure => have := HK1.out; omega
   case rel => exact ⟨(wrap64 (x9_1 + 1)), (by first | rfl | (simp; done) | (simp [*]; done)), H', ⟨by have := HK1.out; omega⟩, ⟨bk BK324⟩, ⟨bw HB⟩⟩

/-! ### spec_PeriodOfScale: function 28 -/
def spec_PeriodOfScale.l0 : Nat → List (S154) → Int → Int → Int → Int → Int → Int → Option (Int × Int × Bool)
 | 0, _, _, _, _, _, _, _ => none
 | k + 1, x5, x7, x328000, x328001, x328002, x333000, x333001 => if x7 ≤ 2000 then ((spec_ckPans_tick.f x333000 x333001 x328000 x328001 x328002).bind fun bt333 => ((spec_ckSeen.f k x5 bt333.1 bt333.2.1).bind fun t336 => (if t336 ≥ 0 then (some (x7, t336, true)) else (if x5.length < 8796093022208 then (spec_PeriodOfScale.l0 k (x5 ++ [(⟨bt333.1, bt333.2.1⟩ : S154)]) (wrap64 (x7 + 1)) x328000 x328001 x328002 bt333.1 bt333.2.1) else (none))))) else (some (0, 0, false))
def spec_PeriodOfScale.f (k : Nat) (a0_0 : Int) (a0_1 : Int) (a0_2 : Int) : Option (Int × Int × Bool) := (spec_ckScale.f a0_0 a0_1 a0_2).bind fun t328 => (if t328 = true then (spec_PeriodOfScale.l0 k (([(⟨0, 0⟩ : S154)] : List (S154))) 1 a0_0 a0_1 a0_2 0 0) else (some (0, 0, false)))
theorem spec_PeriodOfScale.mono_l : ∀ k, (∀ y0 y1 y2 y3 y4 y5 y6, LeO (spec_PeriodOfScale.l0 k y0 y1 y2 y3 y4 y5 y6) (spec_PeriodOfScale.l0 (k + 1) y0 y1 y2 y3 y4 y5 y6))
 | 0 => fun _ _ _ _ _ _ _ r h => by simp [spec_PeriodOfScale.l0] at h
 | k + 1 => by
  have ih0 := spec_PeriodOfScale.mono_l k
  ·intro y0 y1 y2 y3 y4 y5 y6
   unfold spec_PeriodOfScale.l0
   repeat' first
   | (with_reducible exact ih0 _ _ _ _ _ _ _)
   | (with_reducible exact spec_ckSeen.mono _ _ _ _)
   | (with_reducible exact LeO.refl _)
   | (with_reducible exact LeO.none _)
   | (with_reducible refine LeO.ite ?_ ?_)
   | (with_reducible refine LeO.bind ?_ (fun _ => ?_))
   | exact ih0 _ _ _ _ _ _ _
   | exact spec_ckSeen.mono _ _ _ _
   | exact LeO.none _
   | refine LeO.ite ?_ ?_
   | refine LeO.bind ?_ (fun _ => ?_)
theorem spec_PeriodOfScale.mono : ∀ a0 a1 a2 k, LeO (spec_PeriodOfScale.f k a0 a1 a2) (spec_PeriodOfScale.f (k + 1) a0 a1 a2) := by
 intro a0 a1 a2 k
 have ih0 := spec_PeriodOfScale.mono_l k
 unfold spec_PeriodOfScale.f
 repeat' first
   | (with_reducible exact ih0 _ _ _ _ _ _ _)
   | (with_reducible exact spec_ckSeen.mono _ _ _ _)
   | (with_reducible exact LeO.refl _)
   | (with_reducible exact LeO.none _)
   | (with_reducible refine LeO.ite ?_ ?_)
   | (with_reducible refine LeO.bind ?_ (fun _ => ?_))
   | exact ih0 _ _ _ _ _ _ _
   | exact spec_ckSeen.mono _ _ _ _
   | exact LeO.none _
   | refine LeO.ite ?_ ?_
   | refine LeO.bind ?_ (fun _ => ?_)
set_option maxHeartbeats 8000000 in
set_option maxRecDepth 100000 in
theorem spec_PeriodOfScale.calls (k : Nat) (a0_0 : Int) (a0_1 : Int) (a0_2 : Int) (r1 : Int) (r2 : Int) (r3 : Bool) (w : World) (h : spec_PeriodOfScale.f k a0_0 a0_1 a0_2 = some (r1, r2, r3)) :
  Calls Try.prog 28 #[.agg #[.int .i64 a0_0, .int .i64 a0_1, .int .i64 a0_2]] w fun e w' => e = .returned (.tuple #[.int .i64 r1, .int .i64 r2, .bool r3]) ∧ Below w.heap.size w w' := by
 have hu40 := Try.underlying40
 have hu154 := Try.underlying154
 have HB := Aside0.mk (Below.refl w.heap.size w)
 have H : ((spec_ckScale.f a0_0 a0_1 a0_2).bind fun t328 => (if t328 = true then (spec_PeriodOfScale.l0 k (([(⟨0, 0⟩ : S154)] : List (S154))) 1 a0_0 a0_1 a0_2 0 0) else (some (0, 0, false)))) = some (r1, r2, r3) := h
 clear h
 replace H := Option.bind_eq_some_iff.mp H
 obtain ⟨t328, A20, H⟩ := H
 replace H : (if t328 = true then (spec_PeriodOfScale.l0 k (([(⟨0, 0⟩ : S154)] : List (S154))) 1 a0_0 a0_1 a0_2 0 0) else (some (0, 0, false))) = some (r1, r2, r3) := H
 have A2 := Aside0.mk A20
 clear A20
 by_cases c3 : t328 = true
 rotate_left
 ·replace c3 := Bool.eq_false_iff.mpr c3
  subst c3
  have H1 : (some (0, 0, false)) = some (r1, r2, r3) := by rw [if_neg (show ¬ (false = true) by decide)] at H; exact H
  clear H
  have H := H1
  clear H1
  simp only [Option.some.injEq, Prod.mk.injEq] at H
  obtain ⟨rfl, rfl, rfl⟩ := H
  go_enter Try.func28, Try.ntmps28
  go_wp2_with (first | ((with_reducible refine gate_dst (N := 1) rfl ?_); refine bx 1 #[.int .i64 a0_0, .int .i64 a0_1, .int .i64 a0_2] 40 ?_; intro gb327 hg w33 hbox hb; have BK327 := Aside0.mk (hbox); have GW327 := ge HB hg; have GE327 := ge HB hg; replace HB := bs HB hb; clear hb hbox hg; have hcz34_0 := bc0 BK327; have hcz34_1 := bc1 BK327; have hcz34_2 := bc2 BK327; have hfz34_0 := blk_frozen BK327.out 0; have hfz34_1 := blk_frozen BK327.out 1; have hfz34_2 := blk_frozen BK327.out 2) | ((with_reducible refine gate_callee (f := 148) rfl ?_); refine gl 10 Try.func148 #[.agg #[.int .i64 a0_0, .int .i64 a0_1, .int .i64 a0_2]] ?_; (with_reducible refine (spec_ckScale.calls a0_0 a0_1 a0_2 false _ A2.out).mono ?_); rintro e w35 ⟨rfl, hb⟩; refine ⟨_, rfl, ?_⟩; replace BK327 := bb BK327 hb; replace HB := bs HB hb; (try clear hb)))
  go_ret3
  exact ⟨by first | rfl | (simp [errW_none, errW_some] <;> rfl) | (simp [*, errW_none, errW_some] <;> rfl), bw HB⟩
 subst c3
 have H1 : (spec_PeriodOfScale.l0 k (([(⟨0, 0⟩ : S154)] : List (S154))) 1 a0_0 a0_1 a0_2 0 0) = some (r1, r2, r3) := by rw [if_pos rfl] at H; exact H
 clear H
 have H := H1
 clear H1
 obtain ⟨y329, hy329⟩ : ∃ y_ : List (S154), y_ = (([(⟨0, 0⟩ : S154)] : List (S154))) := ⟨_, rfl⟩
 replace H : (spec_PeriodOfScale.l0 k y329 1 a0_0 a0_1 a0_2 0 0) = some (r1, r2, r3) := by first | (rw [hy329]; with_reducible exact H) | (have H2_ := (Option.bind_some _ _).symm.trans H; rw [hy329]; with_reducible exact H2_) | (have H2_ := (Option.bind_some _ _).symm.trans H; with_reducible exact H2_) | with_reducible exact H | (rw [hy329]; exact H) | exact H
 have Ny329 := Aside0.mk hy329
 clear hy329
 have H' := Aside0.mk H
 clear H
 go_enter Try.func28, Try.ntmps28
 go_wp2_with (first | ((with_reducible refine gate_dst (N := 1) rfl ?_); refine bx 1 #[.int .i64 a0_0, .int .i64 a0_1, .int .i64 a0_2] 40 ?_; intro gb327 hg w4 hbox hb; have BK327 := Aside0.mk (hbox); have GW327 := ge HB hg; have GE327 := ge HB hg; replace HB := bs HB hb; clear hb hbox hg; have hcz5_0 := bc0 BK327; have hcz5_1 := bc1 BK327; have hcz5_2 := bc2 BK327; have hfz5_0 := blk_frozen BK327.out 0; have hfz5_1 := blk_frozen BK327.out 1; have hfz5_2 := blk_frozen BK327.out 2) | ((with_reducible refine gate_callee (f := 148) rfl ?_); refine gl 10 Try.func148 #[.agg #[.int .i64 a0_0, .int .i64 a0_1, .int .i64 a0_2]] ?_; (with_reducible refine (spec_ckScale.calls a0_0 a0_1 a0_2 true _ A2.out).mono ?_); rintro e w6 ⟨rfl, hb⟩; refine ⟨_, rfl, ?_⟩; replace BK327 := bb BK327 hb; replace HB := bs HB hb; (try clear hb)) | ((with_reducible refine gate_dst (N := 13) rfl ?_); refine Kd.R_lit k154 _ 154 ?hg (N := 13) ?hd (xs := ([(⟨0, 0⟩ : S154)] : List (S154))) (inner := [.int .i64 0, .int .i64 0]) (ok := fun _ => True) (okp := fun _ => True) ?hr ?hp (fun _ hk => hk) trivial (Below.refl _ _) (Nat.le_refl _) (by simp) ?_; (case hd => rfl); (case hg => rfl); (case hr => first | (go_simp; done) | (go_simp; rfl)); (case hp => exact (Reps.c2 (show Kd.M k154 _ _ _ (⟨0, 0⟩ : S154) [.int .i64 0, .int .i64 0] from (k154_mkM _ _ _ (⟨0, 0⟩ : S154) )) (Reps.none _ _))); intro v330 w7 ho8 hb hg_ hnew_; clear hg_ hnew_; (first | rw [← Ny329.out] at ho8 | (simp only [Int.reduceToNat] at ho8; rw [← Ny329.out] at ho8)); have HO331 := lo ho8 HB; replace BK327 := bb BK327 hb; replace HB := bs HB hb; clear hb ho8) | ((with_reducible refine gate_dst (N := 6) rfl ?_); refine bx 6 #[.int .i64 0, .int .i64 0] 154 ?_; intro gb332 hg w9 hbox hb; replace HO331 := Aside0.mk (Kd.R_below (Kd.R_elderB (rk HO331) gb332 (Nat.le_of_eq hg.symm)) hb); have BK332 := Aside0.mk (hbox); have GW332 := ge HB hg; have GE332 := ge HB hg; replace HB := bs HB hb; have NB327_332 := nl BK327 hg; have NB332_327 := nr BK327 hg; replace BK327 := bb BK327 hb; clear hb hbox hg; have hnb10 := NB332_327.out; have hnc10 := NB327_332.out; have hcz11_0 := bc0 BK332; have hcz11_1 := bc1 BK332; have hfz11_0 := blk_frozen BK332.out 0; have hfz11_1 := blk_frozen BK332.out 1))
 try simp only [Act.put, List.setIfInBounds_toArray, List.set_cons_zero, List.set_cons_succ]
 go_loopg [5, 7] k (fun kq v5 v7 w' => ∃ (x5_1 : List (S154)) (x7_1 : Int) (x333000_1 : Int) (x333001_1 : Int), v7 = .int .i64 x7_1 ∧ Aside0 (spec_PeriodOfScale.l0 kq x5_1 x7_1 a0_0 a0_1 a0_2 x333000_1 x333001_1 = some (r1, r2, r3)) ∧ Aside0 (kq ≤ k) ∧ Aside0 (Kd.R k154 154 w' w.heap.size (fun k_ => k_ ≠ gb332) v5 x5_1) ∧ Aside0 (w'.heap[gb327]? = some (.cells #[.int .i64 a0_0, .int .i64 a0_1, .int .i64 a0_2] 40 (0, 0))) ∧ Aside0 (w'.heap[gb332]? = some (.cells #[.int .i64 x333000_1, .int .i64 x333001_1] 154 (0, 0))) ∧ Aside0 (Below w.heap.size w w'))
 case atStart => exact ⟨(y329), (1), (0), (0), (by first | rfl | (simp; done) | (simp [*]; done)), H', ⟨Nat.le_refl _⟩, ⟨by (with_reducible repeat (first | apply Kd.R_alloc | apply Kd.R_drewN | apply Kd.R_drew)); exact Kd.R_mono (Kd.R_far (p := ⟨gb332, 1, none⟩) (Kd.R_far (p := ⟨gb332, 0, none⟩) (Kd.R_mono HO331.out (fun k_ hk => (⟨hk, hk.2⟩ : _ ∧ k_ ≠ gb332))) (fun _ hk => hk.2) (.int .i64 0)) (fun _ hk => hk.2) (.int .i64 0)) (fun _ hk => hk.1.2)⟩, ⟨bk BK327⟩, ⟨by (with_reducible repeat (first | refine blk_drewN ?_ _ | refine blk_drew ?_ | refine blk_alloc ?_ _)); refine blk_put (cs := #[.int .i64 0, .int .i64 0]) ?_ 1 _ rfl; (with_reducible repeat (first | refine blk_drewN ?_ _ | refine blk_drew ?_ | refine blk_alloc ?_ _)); refine blk_put (cs := #[.int .i64 0, .int .i64 0]) ?_ 0 _ rfl; exact bk BK332⟩, ⟨bw HB⟩⟩
 case round =>
  clear H'
  try clear c1
  try clear c2
  try clear p2
  try clear c3
  try clear c10
  try clear hcz11_0
  try clear hcz11_1
  try clear hcz5_0
  try clear hcz5_1
  try clear hcz5_2
  try clear hfz11_0
  try clear hfz11_1
  try clear hfz5_0
  try clear hfz5_1
  try clear hfz5_2
  obtain ⟨x5_1, x7_1, x333000_1, x333001_1, rfl, HA, HK1, HO_5, BK327, BK332, HB⟩ := hrel
  cases gk with
  | zero => exact absurd HA.out (by simp [spec_PeriodOfScale.l0])
  | succ k1 =>
   have H := HA.out
   clear HA
   simp only [spec_PeriodOfScale.l0] at H
   by_cases c12 : x7_1 ≤ 2000
   rotate_left
   ·rw [if_neg c12] at H
    have c12b0 : decide (x7_1 ≤ 2000) = false := decide_eq_false c12
    clear c12
    simp only [Option.some.injEq, Prod.mk.injEq] at H
    obtain ⟨rfl, rfl, rfl⟩ := H
    go_wp2
    go_ret3
    exact ⟨by first | rfl | (simp [errW_none, errW_some] <;> rfl) | (simp [*, errW_none, errW_some] <;> rfl), bw HB⟩
   rw [if_pos c12] at H
   have c12b0 : decide (x7_1 ≤ 2000) = true := decide_eq_true c12
   clear c12
   replace H := Option.bind_eq_some_iff.mp H
   obtain ⟨⟨t333, t334, t335⟩, A130, H⟩ := H
   replace H : ((spec_ckSeen.f k1 x5_1 t333 t334).bind fun t336 => (if t336 ≥ 0 then (some (x7_1, t336, true)) else (if x5_1.length < 8796093022208 then (spec_PeriodOfScale.l0 k1 (x5_1 ++ [(⟨t333, t334⟩ : S154)]) (wrap64 (x7_1 + 1)) a0_0 a0_1 a0_2 t333 t334) else (none)))) = some (r1, r2, r3) := H
   have A13 := Aside0.mk A130
   clear A130
   replace H := Option.bind_eq_some_iff.mp H
   obtain ⟨t336, A140, H⟩ := H
   replace H : (if t336 ≥ 0 then (some (x7_1, t336, true)) else (if x5_1.length < 8796093022208 then (spec_PeriodOfScale.l0 k1 (x5_1 ++ [(⟨t333, t334⟩ : S154)]) (wrap64 (x7_1 + 1)) a0_0 a0_1 a0_2 t333 t334) else (none))) = some (r1, r2, r3) := H
   have A14 := Aside0.mk A140
   clear A140
   have H' := Aside0.mk H
   clear H
   have hnb24 := NB332_327.out
   have hnc24 := NB327_332.out
   have hcz25_0 := bc0 BK332
   have hcz25_1 := bc1 BK332
   have hfz25_0 := blk_frozen BK332.out 0
   have hfz25_1 := blk_frozen BK332.out 1
   have hcz26_0 := bc0 BK327
   have hcz26_1 := bc1 BK327
   have hcz26_2 := bc2 BK327
   have hfz26_0 := blk_frozen BK327.out 0
   have hfz26_1 := blk_frozen BK327.out 1
   have hfz26_2 := blk_frozen BK327.out 2
   have H := H'.out
   clear H'
   by_cases c15 : t336 ≥ 0
   ·rw [if_pos c15] at H
    have c15b0 : decide (0 ≤ t336) = true := decide_eq_true c15
    (try simp only [c15b0, Bool.not_true, Bool.not_false])
    clear c15
    simp only [Option.some.injEq, Prod.mk.injEq] at H
    obtain ⟨rfl, rfl, rfl⟩ := H
    go_wp2_with (first | ((with_reducible refine gate_callee (f := 149) rfl ?_); refine gl 22 Try.func149 #[.agg #[.int .i64 x333000_1, .int .i64 x333001_1], .agg #[.int .i64 a0_0, .int .i64 a0_1, .int .i64 a0_2]] ?_; (with_reducible refine (spec_ckPans_tick.calls x333000_1 x333001_1 a0_0 a0_1 a0_2 t333 t334 t335 _ A13.out).mono ?_); rintro e w19 ⟨rfl, hb⟩; refine ⟨_, rfl, ?_⟩; replace HO_5 := rb HO_5 hb; replace BK327 := bb BK327 hb; replace BK332 := bb BK332 hb; replace HB := bs HB hb; (try clear hb); have hcz20_0 := bc0 BK332; have hcz20_1 := bc1 BK332; have hfz20_0 := blk_frozen BK332.out 0; have hfz20_1 := blk_frozen BK332.out 1; obtain ⟨Ao21, co21, eo21⟩ := Kd.R_slice HO_5.out; subst eo21) | ((with_reducible refine gate_callee (f := 150) rfl ?_); refine gl 27 Try.func150 #[.slice Ao21 x5_1.length co21, .agg #[.int .i64 t333, .int .i64 t334]] ?_; (with_reducible refine (spec_ckSeen.calls k1 _ _ x5_1 t333 t334 t336 _ ?side1 ?side2 A14.out).mono ?_); (case side1 => refine (Kd.R_reads' (e := 154) (base := w.heap.size) (ok := fun k_ => k_ ≠ gb332) (n := x5_1.length) (c := co21) ?_).2.2; exact (by (with_reducible repeat (first | apply Kd.R_alloc | apply Kd.R_drewN | apply Kd.R_drew)); exact (Kd.R_mono (Kd.R_far (p := ⟨gb332, 1, none⟩) (Kd.R_far (p := ⟨gb332, 0, none⟩) (Kd.R_mono HO_5.out (fun k_ hk => (⟨hk, hk⟩ : _ ∧ k_ ≠ gb332))) (fun _ hk => hk.2) (.int .i64 t333)) (fun _ hk => hk.2) (.int .i64 t334)) (fun _ h_ => h_.1)))); (case side2 => exact (Kd.R_reads' HO_5.out).2.1); rintro e w22 ⟨rfl, hb⟩; refine ⟨_, rfl, ?_⟩; replace HO_5 := Aside0.mk (Kd.R_below (by (with_reducible repeat (first | apply Kd.R_alloc | apply Kd.R_drewN | apply Kd.R_drew)); exact (Kd.R_mono (Kd.R_far (p := ⟨gb332, 1, none⟩) (Kd.R_far (p := ⟨gb332, 0, none⟩) (Kd.R_mono HO_5.out (fun k_ hk => (⟨hk, hk⟩ : _ ∧ k_ ≠ gb332))) (fun _ hk => hk.2) (.int .i64 t333)) (fun _ hk => hk.2) (.int .i64 t334)) (fun _ h_ => h_.1))) hb); replace BK327 := bb BK327 hb; replace BK332 := Aside0.mk (blk_below (g := gb332) (o := .cells #[.int .i64 t333, .int .i64 t334] 154 (0, 0)) (by (with_reducible repeat (first | refine blk_drewN ?_ _ | refine blk_drew ?_ | refine blk_alloc ?_ _)); refine blk_put (cs := #[.int .i64 t333, .int .i64 x333001_1]) ?_ 1 _ rfl; (with_reducible repeat (first | refine blk_drewN ?_ _ | refine blk_drew ?_ | refine blk_alloc ?_ _)); refine blk_put (cs := #[.int .i64 x333000_1, .int .i64 x333001_1]) ?_ 0 _ rfl; exact bk BK332) hb); replace HB := bs HB hb; (try clear hb)))
    go_ret3
    exact ⟨by first | rfl | (simp [errW_none, errW_some] <;> rfl) | (simp [*, errW_none, errW_some] <;> rfl), bw HB⟩
   rw [if_neg c15] at H
   have c15b0 : decide (0 ≤ t336) = false := decide_eq_false c15
   (try simp only [c15b0, Bool.not_true, Bool.not_false])
   clear c15
   by_cases c23 : x5_1.length < 8796093022208
   rotate_left
   ·rw [if_neg c23] at H
    exact absurd H (by simp)
   rw [if_pos c23] at H
   have LMc23 := Aside0.mk c23
   clear c23
   obtain ⟨y337, hy337⟩ : ∃ y_ : List (S154), y_ = (x5_1 ++ [(⟨t333, t334⟩ : S154)]) := ⟨_, rfl⟩
   replace H : (spec_PeriodOfScale.l0 k1 y337 (wrap64 (x7_1 + 1)) a0_0 a0_1 a0_2 t333 t334) = some (r1, r2, r3) := by first | (rw [hy337]; with_reducible exact H) | (have H2_ := (Option.bind_some _ _).symm.trans H; rw [hy337]; with_reducible exact H2_) | (have H2_ := (Option.bind_some _ _).symm.trans H; with_reducible exact H2_) | with_reducible exact H | (rw [hy337]; exact H) | exact H
   have Ny337 := Aside0.mk hy337
   clear hy337
   have H' := Aside0.mk H
   clear H
   go_wp2_with (first | ((with_reducible refine gate_callee (f := 149) rfl ?_); refine gl 22 Try.func149 #[.agg #[.int .i64 x333000_1, .int .i64 x333001_1], .agg #[.int .i64 a0_0, .int .i64 a0_1, .int .i64 a0_2]] ?_; (with_reducible refine (spec_ckPans_tick.calls x333000_1 x333001_1 a0_0 a0_1 a0_2 t333 t334 t335 _ A13.out).mono ?_); rintro e w27 ⟨rfl, hb⟩; refine ⟨_, rfl, ?_⟩; replace HO_5 := rb HO_5 hb; replace BK327 := bb BK327 hb; replace BK332 := bb BK332 hb; replace HB := bs HB hb; (try clear hb); have hcz28_0 := bc0 BK332; have hcz28_1 := bc1 BK332; have hfz28_0 := blk_frozen BK332.out 0; have hfz28_1 := blk_frozen BK332.out 1; obtain ⟨Ao29, co29, eo29⟩ := Kd.R_slice HO_5.out; subst eo29) | ((with_reducible refine gate_callee (f := 150) rfl ?_); refine gl 27 Try.func150 #[.slice Ao29 x5_1.length co29, .agg #[.int .i64 t333, .int .i64 t334]] ?_; (with_reducible refine (spec_ckSeen.calls k1 _ _ x5_1 t333 t334 t336 _ ?side1 ?side2 A14.out).mono ?_); (case side1 => refine (Kd.R_reads' (e := 154) (base := w.heap.size) (ok := fun k_ => k_ ≠ gb332) (n := x5_1.length) (c := co29) ?_).2.2; exact (by (with_reducible repeat (first | apply Kd.R_alloc | apply Kd.R_drewN | apply Kd.R_drew)); exact (Kd.R_mono (Kd.R_far (p := ⟨gb332, 1, none⟩) (Kd.R_far (p := ⟨gb332, 0, none⟩) (Kd.R_mono HO_5.out (fun k_ hk => (⟨hk, hk⟩ : _ ∧ k_ ≠ gb332))) (fun _ hk => hk.2) (.int .i64 t333)) (fun _ hk => hk.2) (.int .i64 t334)) (fun _ h_ => h_.1)))); (case side2 => exact (Kd.R_reads' HO_5.out).2.1); rintro e w30 ⟨rfl, hb⟩; refine ⟨_, rfl, ?_⟩; replace HO_5 := Aside0.mk (Kd.R_below (by (with_reducible repeat (first | apply Kd.R_alloc | apply Kd.R_drewN | apply Kd.R_drew)); exact (Kd.R_mono (Kd.R_far (p := ⟨gb332, 1, none⟩) (Kd.R_far (p := ⟨gb332, 0, none⟩) (Kd.R_mono HO_5.out (fun k_ hk => (⟨hk, hk⟩ : _ ∧ k_ ≠ gb332))) (fun _ hk => hk.2) (.int .i64 t333)) (fun _ hk => hk.2) (.int .i64 t334)) (fun _ h_ => h_.1))) hb); replace BK327 := bb BK327 hb; replace BK332 := Aside0.mk (blk_below (g := gb332) (o := .cells #[.int .i64 t333, .int .i64 t334] 154 (0, 0)) (by (with_reducible repeat (first | refine blk_drewN ?_ _ | refine blk_drew ?_ | refine blk_alloc ?_ _)); refine blk_put (cs := #[.int .i64 t333, .int .i64 x333001_1]) ?_ 1 _ rfl; (with_reducible repeat (first | refine blk_drewN ?_ _ | refine blk_drew ?_ | refine blk_alloc ?_ _)); refine blk_put (cs := #[.int .i64 x333000_1, .int .i64 x333001_1]) ?_ 0 _ rfl; exact bk BK332) hb); replace HB := bs HB hb; (try clear hb); have hcz31_0 := bc0 BK332; have hcz31_1 := bc1 BK332; have hfz31_0 := blk_frozen BK332.out 0; have hfz31_1 := blk_frozen BK332.out 1) | ((with_reducible refine gate_builtin (b := .append) (xs := #[.tmp 32, .tmp 34]) rfl ?_); at_builtin; refine Kd.R_append k154 (w0 := w) w.heap.size rfl (.tmp 32) (.tmp 34) 158 154 (.agg #[(.int .i64 0), (.int .i64 0)]) 16 rfl Try.underlying158 info154 rfl (by decide) (by omega) (.slice Ao29 x5_1.length co29) x5_1 (⟨t333, t334⟩ : S154) [.int .i64 t333, .int .i64 t334] (fun k_ => k_ ≠ gb332) (fun _ => False) rfl rfl ?aP (fun _ hk => hk.elim) ?aF ?aO ?aB ?aS ?aL ?_; (case aP => exact k154_mkM _ _ _ (⟨t333, t334⟩ : S154)); (case aB => exact (bw HB)); (case aF => exact (fun k_ hk => Kd.freshB (g := gb332) (o := .cells #[.int .i64 t333, .int .i64 t334] 154 (0, 0)) (bk BK332) k_ hk)); (case aO => exact (rk HO_5)); (case aS => exact (below_size (bw HB))); (case aL => have := LMc23.out; omega); intro v338 w32 ho hb hg hat; rw [← Ny337.out] at ho; have n0_ := Aside0.mk (blk_grown (g := gb327) (o := .cells #[.int .i64 a0_0, .int .i64 a0_1, .int .i64 a0_2] 40 (0, 0)) (bk BK327) hg (Kd.R_ne HO_5.out BK327.out (by decide))); have n1_ := Aside0.mk (blk_grown (g := gb332) (o := .cells #[.int .i64 t333, .int .i64 t334] 154 (0, 0)) (bk BK332) hg (Kd.R_away HO_5.out (fun _ hk => hk))); have n2_ := Aside0.mk (hb); have n3_ := Aside0.mk (ho); clear BK327; clear BK332; clear HB; clear HO_5; have BK327 := n0_; have BK332 := n1_; have HB := n2_; have HO339 := n3_; clear n0_ n1_ n2_ n3_; clear ho hb hg hat))
   go_roundg k1
   case measure => have := HK1.out; omega
   case rel => exact ⟨(y337), (wrap64 (x7_1 + 1)), (t333), (t334), (by first | rfl | (simp; done) | (simp [*]; done)), H', ⟨by have := HK1.out; omega⟩, ⟨rk HO339⟩, ⟨bk BK327⟩, ⟨bk BK332⟩, ⟨bw HB⟩⟩

/-! ### laws_eSame: function 29 -/
def laws_eSame.l0 : Nat → List Int → List Int → Int → Int → Option (Bool)
 | 0, _, _, _, _ => none
 | k + 1, x0, x1, x12, x13 => if x13 < x12 then (if 0 ≤ x13 then (if x13 < (x0.length : Int) then (if x13 < (x1.length : Int) then (if (rd x0 x13) = (rd x1 x13) then (laws_eSame.l0 k x0 x1 x12 (wrap64 (x13 + 1))) else (some false)) else (none)) else (none)) else (none)) else (some true)
def laws_eSame.f (k : Nat) (l0 : List Int) (l1 : List Int) : Option (Bool) := if (l0.length : Int) = (l1.length : Int) then (laws_eSame.l0 k l0 l1 (l0.length : Int) 0) else (some false)
theorem laws_eSame.mono_l : ∀ k, (∀ y0 y1 y2 y3, LeO (laws_eSame.l0 k y0 y1 y2 y3) (laws_eSame.l0 (k + 1) y0 y1 y2 y3))
 | 0 => fun _ _ _ _ r h => by simp [laws_eSame.l0] at h
 | k + 1 => by
  have ih0 := laws_eSame.mono_l k
  ·intro y0 y1 y2 y3
   unfold laws_eSame.l0
   repeat' first
   | (with_reducible exact ih0 _ _ _ _)
   | (with_reducible exact LeO.refl _)
   | (with_reducible exact LeO.none _)
   | (with_reducible refine LeO.ite ?_ ?_)
   | (with_reducible refine LeO.bind ?_ (fun _ => ?_))
   | exact ih0 _ _ _ _
   | exact LeO.none _
   | refine LeO.ite ?_ ?_
   | refine LeO.bind ?_ (fun _ => ?_)
theorem laws_eSame.mono : ∀ a0 a1 k, LeO (laws_eSame.f k a0 a1) (laws_eSame.f (k + 1) a0 a1) := by
 intro a0 a1 k
 have ih0 := laws_eSame.mono_l k
 unfold laws_eSame.f
 repeat' first
   | (with_reducible exact ih0 _ _ _ _)
   | (with_reducible exact LeO.refl _)
   | (with_reducible exact LeO.none _)
   | (with_reducible refine LeO.ite ?_ ?_)
   | (with_reducible refine LeO.bind ?_ (fun _ => ?_))
   | exact ih0 _ _ _ _
   | exact LeO.none _
   | refine LeO.ite ?_ ?_
   | refine LeO.bind ?_ (fun _ => ?_)
set_option maxHeartbeats 8000000 in
set_option maxRecDepth 100000 in
theorem laws_eSame.calls (k : Nat) (A0 : Option Addr) (c0 : Nat) (l0 : List Int) (A1 : Option Addr) (c1 : Nat) (l1 : List Int) (r : Bool) (w : World) (hr0 : Kd.C (Kd.int .i64) w A0 l0.length l0) (hc0 : l0.length ≤ c0) (hr1 : Kd.C (Kd.int .i64) w A1 l1.length l1) (hc1 : l1.length ≤ c1) (h : laws_eSame.f k l0 l1 = some r) :
  Calls Try.prog 29 #[.slice A0 l0.length c0, .slice A1 l1.length c1] w fun e w' => e = .returned (.bool r) ∧ Drawn0 w w' := by
 have HR0 := Aside0.mk hr0
 have HC0 := Aside0.mk hc0
 clear hr0 hc0
 have HR1 := Aside0.mk hr1
 have HC1 := Aside0.mk hc1
 clear hr1 hc1
 have H : (if (l0.length : Int) = (l1.length : Int) then (laws_eSame.l0 k l0 l1 (l0.length : Int) 0) else (some false)) = some r := h
 clear h
 by_cases c3 : (l0.length : Int) = (l1.length : Int)
 rotate_left
 ·rw [if_neg c3] at H
  have c3b0 : ((l0.length : Int) == (l1.length : Int)) = false := beq_eq_false_iff_ne.mpr c3
  have c3b1 : ((l0.length : Int) != (l1.length : Int)) = true := bne_iff_ne.mpr c3
  have c3b2 : (l0.length == l1.length) = false := by first | simpa using c3 | (simp at c3 ⊢; omega)
  obtain rfl := Option.some.inj H
  go_enter Try.func29, Try.ntmps29
  go_wp2
  repeat (go_quiet (fail); try go_wp2)
  go_ret
  exact ⟨by first | rfl | (simp; done) | (simp [*]; done), by repeat (first | exact Drawn0.refl _ | apply Drawn0.step)⟩
 rw [if_pos c3] at H
 have c3b0 : ((l0.length : Int) == (l1.length : Int)) = true := beq_iff_eq.mpr c3
 have c3b1 : ((l0.length : Int) != (l1.length : Int)) = false := bne_eq_false_iff_eq.mpr c3
 have c3b2 : (l0.length == l1.length) = true := by first | simpa using c3 | (simp at c3 ⊢; omega)
 clear c3
 have H' := Aside0.mk H
 clear H
 go_enter Try.func29, Try.ntmps29
 go_wp2
 repeat (go_quiet (fail); try go_wp2)
 try simp only [Act.put, List.setIfInBounds_toArray, List.set_cons_zero, List.set_cons_succ]
 go_loopg [13] k (fun kq v13 w' => ∃ (x13_1 : Int), v13 = .int .i64 x13_1 ∧ Aside0 (laws_eSame.l0 kq l0 l1 (l0.length : Int) x13_1 = some r) ∧ Aside0 (kq ≤ k) ∧ Drawn0 w w')
 case atStart => exact ⟨(0), (by first | rfl | (simp; done) | (simp [*]; done)), H', ⟨Nat.le_refl _⟩, by repeat (first | exact Drawn0.refl _ | apply Drawn0.step)⟩
 case round =>
  clear H'
  try clear c1
  try clear c2
  try clear p2
  try clear c3
  try clear c3b0
  try clear c3b1
  try clear c3b2
  obtain ⟨x13_1, rfl, HA, HK1, ⟨m1, rfl⟩⟩ := hrel
  cases gk with
  | zero => exact absurd HA.out (by simp [laws_eSame.l0])
  | succ k1 =>
   have H := HA.out
   clear HA
   simp only [laws_eSame.l0] at H
   by_cases c4 : x13_1 < (l0.length : Int)
   rotate_left
   ·rw [if_neg c4] at H
    have c4b0 : decide (x13_1 < (l0.length : Int)) = false := decide_eq_false c4
    clear c4
    obtain rfl := Option.some.inj H
    go_wp2
    repeat (go_quiet (fail); try go_wp2)
    go_ret
    exact ⟨by first | rfl | (simp; done) | (simp [*]; done), by repeat (first | exact Drawn0.refl _ | apply Drawn0.step)⟩
   rw [if_pos c4] at H
   have c4b0 : decide (x13_1 < (l0.length : Int)) = true := decide_eq_true c4
   clear c4
   by_cases c5 : 0 ≤ x13_1
   rotate_left
   ·rw [if_neg c5] at H
    exact absurd H (by simp)
   rw [if_pos c5] at H
   have c5b0 : decide (0 ≤ x13_1) = true := decide_eq_true c5
   clear c5
   by_cases c6 : x13_1 < (l0.length : Int)
   rotate_left
   ·rw [if_neg c6] at H
    exact absurd H (by simp)
   rw [if_pos c6] at H
   have c6b0 : decide (x13_1 < (l0.length : Int)) = true := decide_eq_true c6
   clear c6
   by_cases c7 : x13_1 < (l1.length : Int)
   rotate_left
   ·rw [if_neg c7] at H
    exact absurd H (by simp)
   rw [if_pos c7] at H
   have c7b0 : decide (x13_1 < (l1.length : Int)) = true := decide_eq_true c7
   clear c7
   by_cases c8 : (rd l0 x13_1) = (rd l1 x13_1)
   rotate_left
   ·rw [if_neg c8] at H
    have c8b0 : ((rd l0 x13_1) == (rd l1 x13_1)) = false := beq_eq_false_iff_ne.mpr c8
    have c8b1 : ((rd l0 x13_1) != (rd l1 x13_1)) = true := bne_iff_ne.mpr c8
    obtain rfl := Option.some.inj H
    have p340 : 0 ≤ (x13_1 : Int) := of_decide_eq_true (by first | (with_reducible assumption) | assumption)
    have q340 : x13_1 < (l0.length : Int) := of_decide_eq_true (by first | (with_reducible assumption) | assumption)
    obtain ⟨ad340, e340, hx340_0⟩ := Kd.at_int HR0.out x13_1 p340 q340
    cases e340
    replace p340 := eq_true p340
    replace q340 := eq_true q340
    have p341 : 0 ≤ (x13_1 : Int) := of_decide_eq_true (by first | (with_reducible assumption) | assumption)
    have q341 : x13_1 < (l1.length : Int) := of_decide_eq_true (by first | (with_reducible assumption) | assumption)
    obtain ⟨ad341, e341, hx341_0⟩ := Kd.at_int HR1.out x13_1 p341 q341
    cases e341
    replace p341 := eq_true p341
    replace q341 := eq_true q341
    go_wp2
    repeat (go_quiet (fail); try go_wp2)
    go_ret
    exact ⟨by first | rfl | (simp; done) | (simp [*]; done), by repeat (first | exact Drawn0.refl _ | apply Drawn0.step)⟩
   rw [if_pos c8] at H
   have c8b0 : ((rd l0 x13_1) == (rd l1 x13_1)) = true := beq_iff_eq.mpr c8
   have c8b1 : ((rd l0 x13_1) != (rd l1 x13_1)) = false := bne_eq_false_iff_eq.mpr c8
   clear c8
   have H' := Aside0.mk H
   clear H
   have p340 : 0 ≤ (x13_1 : Int) := of_decide_eq_true (by first | (with_reducible assumption) | assumption)
   have q340 : x13_1 < (l0.length : Int) := of_decide_eq_true (by first | (with_reducible assumption) | assumption)
   obtain ⟨ad340, e340, hx340_0⟩ := Kd.at_int HR0.out x13_1 p340 q340
   cases e340
   replace p340 := eq_true p340
   replace q340 := eq_true q340
   have p341 : 0 ≤ (x13_1 : Int) := of_decide_eq_true (by first | (with_reducible assumption) | assumption)
   have q341 : x13_1 < (l1.length : Int) := of_decide_eq_true (by first | (with_reducible assumption) | assumption)
   obtain ⟨ad341, e341, hx341_0⟩ := Kd.at_int HR1.out x13_1 p341 q341
   cases e341
   replace p341 := eq_true p341
   replace q341 := eq_true q341
   go_wp2
   repeat (go_quiet (fail); try go_wp2)
   go_roundg k1
   case measure => have := HK1.out; omega
   case rel => exact ⟨(wrap64 (x13_1 + 1)), (by first | rfl | (simp; done) | (simp [*]; done)), H', ⟨by have := HK1.out; omega⟩, by repeat (first | exact Drawn0.refl _ | apply Drawn0.step)⟩

end Go.Proofs.Ytmlkdkeocbhajaa.G
