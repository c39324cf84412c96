-- Functions of the program as plain functions, and that the calls come to them. Written by a program (ownprint.py); nothing here is trusted: Lean checks it.
import Derived.Test.YtmlkdkeocbhajaaTx0
import Derived.Test.YtmlkdkeocbhajaaTx2
namespace Go.Proofs.Ytmlkdkeocbhajaa.T
open Go.RowKit Go.Proofs.YtmlkdkeocbhajaaW.PrintWords Go.Proofs.YtmlkdkeocbhajaaW.PrintLast Go.Proofs.YtmlkdkeocbhajaaW.PrintMore Go.Proofs.Ytmlkdkeocbhajaa.Sq
attribute [local go_sem] max2_int min2_int max_two min_two max_three min_three max_four min_four   -- for this text's walks alone
set_option linter.unusedVariables false
set_option linter.unusedSimpArgs false

/-! ### spec_TimesToThin: function 75 -/
mutual
def spec_TimesToThin.j0 : Nat → Int → Int → Bool → Int → Int → Option (Int × Bool)
 | 0, _, _, _, _, _ => none
 | k + 1, x0, x1, x19, x242000, x242001 => if x19 = true then (some (0, false)) else (spec_TimesToThin.l0 k x0 x1 0 x242000 x242001)
def spec_TimesToThin.l0 : Nat → Int → Int → Int → Int → Int → Option (Int × Bool)
 | 0, _, _, _, _, _ => none
 | k + 1, x0, x1, x8, x242000, x242001 => if x8 ≤ 50 then ((spec_saThin.f k x0 x1 x8).bind fun bt244 => (if bt244.2.2 = true then (if (wrap64 (bt244.1 * x242001)) ≤ (wrap64 (x242000 * bt244.2.1)) then (some (x8, true)) else (spec_TimesToThin.l0 k x0 x1 (wrap64 (x8 + 1)) x242000 x242001)) else (some (0, false)))) else (some (0, false))
end
def spec_TimesToThin.f (k : Nat) (a0 : Int) (a1 : Int) (a2_0 : Int) (a2_1 : Int) : Option (Int × Bool) := (spec_saThins.f a0 a1).bind fun t242 => (if t242 = true then ((spec_saGood.f k a2_0 a2_1).bind fun t243 => (spec_TimesToThin.j0 k a0 a1 (!t243) a2_0 a2_1)) else (spec_TimesToThin.j0 k a0 a1 true a2_0 a2_1))
theorem spec_TimesToThin.mono_l : ∀ k, (∀ y0 y1 y2 y3 y4, LeO (spec_TimesToThin.j0 k y0 y1 y2 y3 y4) (spec_TimesToThin.j0 (k + 1) y0 y1 y2 y3 y4)) ∧ (∀ y0 y1 y2 y3 y4, LeO (spec_TimesToThin.l0 k y0 y1 y2 y3 y4) (spec_TimesToThin.l0 (k + 1) y0 y1 y2 y3 y4))
 | 0 => ⟨fun _ _ _ _ _ r h => by simp [spec_TimesToThin.j0] at h, fun _ _ _ _ _ r h => by simp [spec_TimesToThin.l0] at h⟩
 | k + 1 => by
  obtain ⟨ih0, ih1⟩ := spec_TimesToThin.mono_l k
  refine ⟨?_, ?_⟩
  ·intro y0 y1 y2 y3 y4
   unfold spec_TimesToThin.j0
   repeat' first
   | (with_reducible exact ih0 _ _ _ _ _)
   | (with_reducible exact ih1 _ _ _ _ _)
   | (with_reducible exact spec_saGood.mono _ _ _)
   | (with_reducible exact spec_saThin.mono _ _ _ _)
   | (with_reducible exact LeO.refl _)
   | (with_reducible exact LeO.none _)
   | (with_reducible refine LeO.ite ?_ ?_)
   | (with_reducible refine LeO.bind ?_ (fun _ => ?_))
   | exact ih0 _ _ _ _ _
   | exact ih1 _ _ _ _ _
   | exact spec_saGood.mono _ _ _
   | exact spec_saThin.mono _ _ _ _
   | exact LeO.none _
   | refine LeO.ite ?_ ?_
   | refine LeO.bind ?_ (fun _ => ?_)
  ·intro y0 y1 y2 y3 y4
   unfold spec_TimesToThin.l0
   repeat' first
   | (with_reducible exact ih0 _ _ _ _ _)
   | (with_reducible exact ih1 _ _ _ _ _)
   | (with_reducible exact spec_saGood.mono _ _ _)
   | (with_reducible exact spec_saThin.mono _ _ _ _)
   | (with_reducible exact LeO.refl _)
   | (with_reducible exact LeO.none _)
   | (with_reducible refine LeO.ite ?_ ?_)
   | (with_reducible refine LeO.bind ?_ (fun _ => ?_))
   | exact ih0 _ _ _ _ _
   | exact ih1 _ _ _ _ _
   | exact spec_saGood.mono _ _ _
   | exact spec_saThin.mono _ _ _ _
   | exact LeO.none _
   | refine LeO.ite ?_ ?_
   | refine LeO.bind ?_ (fun _ => ?_)
theorem spec_TimesToThin.mono : ∀ a0 a1 a2 a3 k, LeO (spec_TimesToThin.f k a0 a1 a2 a3) (spec_TimesToThin.f (k + 1) a0 a1 a2 a3) := by
 intro a0 a1 a2 a3 k
 obtain ⟨ih0, ih1⟩ := spec_TimesToThin.mono_l k
 unfold spec_TimesToThin.f
 repeat' first
   | (with_reducible exact ih0 _ _ _ _ _)
   | (with_reducible exact ih1 _ _ _ _ _)
   | (with_reducible exact spec_saGood.mono _ _ _)
   | (with_reducible exact spec_saThin.mono _ _ _ _)
   | (with_reducible exact LeO.refl _)
   | (with_reducible exact LeO.none _)
   | (with_reducible refine LeO.ite ?_ ?_)
   | (with_reducible refine LeO.bind ?_ (fun _ => ?_))
   | exact ih0 _ _ _ _ _
   | exact ih1 _ _ _ _ _
   | exact spec_saGood.mono _ _ _
   | exact spec_saThin.mono _ _ _ _
   | exact LeO.none _
   | refine LeO.ite ?_ ?_
   | refine LeO.bind ?_ (fun _ => ?_)
set_option maxHeartbeats 8000000 in
set_option maxRecDepth 100000 in
theorem spec_TimesToThin.calls (k : Nat) (a0 : Int) (a1 : Int) (a2_0 : Int) (a2_1 : Int) (r1 : Int) (r2 : Bool) (w : World) (h : spec_TimesToThin.f k a0 a1 a2_0 a2_1 = some (r1, r2)) :
  Calls Try.prog 75 #[.int .i64 a0, .int .i64 a1, .agg #[.int .i64 a2_0, .int .i64 a2_1]] w fun e w' => e = .returned (.tuple #[.int .i64 r1, .bool r2]) ∧ Below w.heap.size w w' := by
 have hu78 := Try.underlying78
 have HB := Aside0.mk (Below.refl w.heap.size w)
 have H : ((spec_saThins.f a0 a1).bind fun t242 => (if t242 = true then ((spec_saGood.f k a2_0 a2_1).bind fun t243 => (spec_TimesToThin.j0 k a0 a1 (!t243) a2_0 a2_1)) else (spec_TimesToThin.j0 k a0 a1 true a2_0 a2_1))) = some (r1, r2) := h
 clear h
 have HC4 := Aside0.mk H
 clear H
 go_enter Try.func75, Try.ntmps75
 go_upto_region 1 with (first | ((with_reducible refine gate_dst (N := 5) rfl ?_); refine bx 5 #[.int .i64 a2_0, .int .i64 a2_1] 78 ?_; intro gb241 hg w5 hbox hb; have BK241 := Aside0.mk (hbox); have GW241 := ge HB hg; have GE241 := ge HB hg; replace HB := bs HB hb; clear hb hbox hg))
 (try simp only [Act.put, List.setIfInBounds_toArray, List.set_cons_zero, List.set_cons_succ])
 go_cut [19] (fun v19 wc => ∃ (kq : Nat) (x19_3 : Bool), v19 = .bool x19_3 ∧ Aside0 (spec_TimesToThin.j0 kq a0 a1 x19_3 a2_0 a2_1 = some (r1, r2)) ∧ Aside0 (kq ≤ k) ∧ Aside0 (wc.heap[gb241]? = some (.cells #[.int .i64 a2_0, .int .i64 a2_1] 78 (0, 0))) ∧ Aside0 (Below w.heap.size w wc))
 case first =>
  have H := HC4.out
  clear HC4
  replace H := Option.bind_eq_some_iff.mp H
  obtain ⟨t242, A60, H⟩ := H
  replace H : (if t242 = true then ((spec_saGood.f k a2_0 a2_1).bind fun t243 => (spec_TimesToThin.j0 k a0 a1 (!t243) a2_0 a2_1)) else (spec_TimesToThin.j0 k a0 a1 true a2_0 a2_1)) = some (r1, r2) := H
  have A6 := Aside0.mk A60
  clear A60
  by_cases c7 : t242 = true
  rotate_left
  ·replace c7 := Bool.eq_false_iff.mpr c7
   subst c7
   have H1 : (spec_TimesToThin.j0 k a0 a1 true a2_0 a2_1) = some (r1, r2) := by rw [if_neg (show ¬ (false = true) by decide)] at H; exact H
   clear H
   have H := H1
   clear H1
   have H' := Aside0.mk H
   clear H
   go_wp2_with (first | ((with_reducible refine gate_callee (f := 177) rfl ?_); refine gl 13 Try.func177 #[.int .i64 a0, .int .i64 a1] ?_; (with_reducible refine (spec_saThins.calls a0 a1 false _ A6.out).mono ?_); rintro e w' ⟨rfl, ⟨nd, rfl⟩⟩; refine ⟨_, rfl, ?_⟩))
   go_meet
   case rel => exact ⟨_, (true), (by first | rfl | (simp; done) | (simp [*]; done)), H', ⟨by first | omega | exact Nat.le_refl _⟩, ⟨bk BK241⟩, ⟨bw HB⟩⟩
  subst c7
  have H1 : ((spec_saGood.f k a2_0 a2_1).bind fun t243 => (spec_TimesToThin.j0 k a0 a1 (!t243) a2_0 a2_1)) = some (r1, r2) := by rw [if_pos rfl] at H; exact H
  clear H
  have H := H1
  clear H1
  replace H := Option.bind_eq_some_iff.mp H
  obtain ⟨t243, A80, H⟩ := H
  replace H : (spec_TimesToThin.j0 k a0 a1 (!t243) a2_0 a2_1) = some (r1, r2) := H
  have A8 := Aside0.mk A80
  clear A80
  have H' := Aside0.mk H
  clear H
  go_wp2_with (first | ((with_reducible refine gate_callee (f := 177) rfl ?_); refine gl 13 Try.func177 #[.int .i64 a0, .int .i64 a1] ?_; (with_reducible refine (spec_saThins.calls a0 a1 true _ A6.out).mono ?_); rintro e w' ⟨rfl, ⟨nd, rfl⟩⟩; refine ⟨_, rfl, ?_⟩; have hcz9_0 := bc0 BK241; have hcz9_1 := bc1 BK241; have hfz9_0 := blk_frozen BK241.out 0; have hfz9_1 := blk_frozen BK241.out 1) | (go_at_call 183; (with_reducible refine (spec_saGood.calls k a2_0 a2_1 t243 _ A8.out).mono ?_); rintro e w10 ⟨rfl, hb⟩; replace BK241 := bb BK241 hb; replace HB := bs HB hb; (try clear hb)))
  go_meet
  case rel => exact ⟨_, (!t243), (by first | rfl | (simp; done) | (simp [*]; done)), H', ⟨by first | omega | exact Nat.le_refl _⟩, ⟨bk BK241⟩, ⟨bw HB⟩⟩
 case rest =>
  clear HC4
  try clear c1
  try clear p2
  try clear c7
  try clear hcz9_0
  try clear hcz9_1
  try clear hfz9_0
  try clear hfz9_1
  obtain ⟨kq, x19_3, rfl, HA, HJ3, BK241, HB⟩ := hcut
  cases kq with
  | zero => exact absurd HA.out (by simp [spec_TimesToThin.j0])
  | succ kj3 =>
   have H := HA.out
   clear HA
   simp only [spec_TimesToThin.j0] at H
   by_cases c11 : x19_3 = true
   ·subst c11
    have H1 : (some (0, false)) = some (r1, r2) := by rw [if_pos rfl] at H; exact H
    clear H
    have H := H1
    clear H1
    simp only [Option.some.injEq, Prod.mk.injEq] at H
    obtain ⟨rfl, rfl⟩ := H
    go_wp2
    go_ret2
    exact ⟨by first | rfl | (simp [errW_none, errW_some] <;> rfl) | (simp [*, errW_none, errW_some] <;> rfl), bw HB⟩
   replace c11 := Bool.eq_false_iff.mpr c11
   subst c11
   have H1 : (spec_TimesToThin.l0 kj3 a0 a1 0 a2_0 a2_1) = some (r1, r2) := by rw [if_neg (show ¬ (false = true) by decide)] at H; exact H
   clear H
   have H := H1
   clear H1
   have H' := Aside0.mk H
   clear H
   go_wp2
   try simp only [Act.put, List.setIfInBounds_toArray, List.set_cons_zero, List.set_cons_succ]
   go_loopg [8] kj3 (fun kq v8 w' => ∃ (x8_2 : Int), v8 = .int .i64 x8_2 ∧ Aside0 (spec_TimesToThin.l0 kq a0 a1 x8_2 a2_0 a2_1 = some (r1, r2)) ∧ Aside0 (kq ≤ kj3) ∧ Aside0 (w'.heap[gb241]? = some (.cells #[.int .i64 a2_0, .int .i64 a2_1] 78 (0, 0))) ∧ Aside0 (Below w.heap.size w w'))
   case atStart => exact ⟨(0), (by first | rfl | (simp; done) | (simp [*]; done)), H', ⟨Nat.le_refl _⟩, ⟨bk BK241⟩, ⟨bw HB⟩⟩
   case round =>
    clear H'
    try clear c1
    try clear p2
    try clear c7
    try clear c11
    try clear hcz9_0
    try clear hcz9_1
    try clear hfz9_0
    try clear hfz9_1
    try clear p2
    obtain ⟨x8_2, rfl, HA, HK2, BK241, HB⟩ := hrel
    cases gk with
    | zero => exact absurd HA.out (by simp [spec_TimesToThin.l0])
    | succ k2 =>
     have H := HA.out
     clear HA
     simp only [spec_TimesToThin.l0] at H
     by_cases c12 : x8_2 ≤ 50
     rotate_left
     ·rw [if_neg c12] at H
      have c12b0 : decide (x8_2 ≤ 50) = false := decide_eq_false c12
      clear c12
      simp only [Option.some.injEq, Prod.mk.injEq] at H
      obtain ⟨rfl, rfl⟩ := H
      go_wp2
      go_ret2
      exact ⟨by first | rfl | (simp [errW_none, errW_some] <;> rfl) | (simp [*, errW_none, errW_some] <;> rfl), bw HB⟩
     rw [if_pos c12] at H
     have c12b0 : decide (x8_2 ≤ 50) = true := decide_eq_true c12
     clear c12
     replace H := Option.bind_eq_some_iff.mp H
     obtain ⟨⟨t244, t245, t246⟩, A130, H⟩ := H
     replace H : (if t246 = true then (if (wrap64 (t244 * a2_1)) ≤ (wrap64 (a2_0 * t245)) then (some (x8_2, true)) else (spec_TimesToThin.l0 k2 a0 a1 (wrap64 (x8_2 + 1)) a2_0 a2_1)) else (some (0, false))) = some (r1, r2) := H
     have A13 := Aside0.mk A130
     clear A130
     by_cases c14 : t246 = true
     rotate_left
     ·replace c14 := Bool.eq_false_iff.mpr c14
      subst c14
      have H1 : (some (0, false)) = some (r1, r2) := by rw [if_neg (show ¬ (false = true) by decide)] at H; exact H
      clear H
      have H := H1
      clear H1
      simp only [Option.some.injEq, Prod.mk.injEq] at H
      obtain ⟨rfl, rfl⟩ := H
      go_wp2_with (first | ((with_reducible refine gate_callee (f := 178) rfl ?_); refine gl 28 Try.func178 #[.int .i64 a0, .int .i64 a1, .int .i64 x8_2] ?_; (with_reducible refine (spec_saThin.calls k2 a0 a1 x8_2 t244 t245 false _ A13.out).mono ?_); rintro e w26 ⟨rfl, hb⟩; refine ⟨_, rfl, ?_⟩; replace BK241 := bb BK241 hb; replace HB := bs HB hb; (try clear hb)) | ((with_reducible refine gate_dst (N := 9) rfl ?_); refine bx 9 #[.int .i64 0, .int .i64 0] 78 ?_; intro gb247 hg w27 hbox hb; have BK247 := Aside0.mk (hbox); have GW247 := ge HB hg; have GE247 := ge HB hg; replace HB := bs HB hb; have NB241_247 := nl BK241 hg; have NB247_241 := nr BK241 hg; replace BK241 := bb BK241 hb; clear hb hbox hg; have hnb28 := NB247_241.out; have hnc28 := NB241_247.out; have hcz29_0 := bc0 BK247; have hcz29_1 := bc1 BK247; have hfz29_0 := blk_frozen BK247.out 0; have hfz29_1 := blk_frozen BK247.out 1))
      go_ret2
      exact ⟨by first | rfl | (simp [errW_none, errW_some] <;> rfl) | (simp [*, errW_none, errW_some] <;> rfl), bw HB⟩
     subst c14
     have H1 : (if (wrap64 (t244 * a2_1)) ≤ (wrap64 (a2_0 * t245)) then (some (x8_2, true)) else (spec_TimesToThin.l0 k2 a0 a1 (wrap64 (x8_2 + 1)) a2_0 a2_1)) = some (r1, r2) := by rw [if_pos rfl] at H; exact H
     clear H
     have H := H1
     clear H1
     by_cases c15 : (wrap64 (t244 * a2_1)) ≤ (wrap64 (a2_0 * t245))
     ·rw [if_pos c15] at H
      have c15b0 : decide ((wrap64 (t244 * a2_1)) ≤ (wrap64 (a2_0 * t245))) = true := decide_eq_true c15
      clear c15
      simp only [Option.some.injEq, Prod.mk.injEq] at H
      obtain ⟨rfl, rfl⟩ := H
      go_wp2_with (first | ((with_reducible refine gate_callee (f := 178) rfl ?_); refine gl 28 Try.func178 #[.int .i64 a0, .int .i64 a1, .int .i64 x8_2] ?_; (with_reducible refine (spec_saThin.calls k2 a0 a1 x8_2 t244 t245 true _ A13.out).mono ?_); rintro e w16 ⟨rfl, hb⟩; refine ⟨_, rfl, ?_⟩; replace BK241 := bb BK241 hb; replace HB := bs HB hb; (try clear hb)) | ((with_reducible refine gate_dst (N := 9) rfl ?_); refine bx 9 #[.int .i64 0, .int .i64 0] 78 ?_; intro gb247 hg w17 hbox hb; have BK247 := Aside0.mk (hbox); have GW247 := ge HB hg; have GE247 := ge HB hg; replace HB := bs HB hb; have NB241_247 := nl BK241 hg; have NB247_241 := nr BK241 hg; replace BK241 := bb BK241 hb; clear hb hbox hg; have hnb18 := NB247_241.out; have hnc18 := NB241_247.out; have hcz19_0 := bc0 BK247; have hcz19_1 := bc1 BK247; have hfz19_0 := blk_frozen BK247.out 0; have hfz19_1 := blk_frozen BK247.out 1; have hcz20_0 := bc0 BK241; have hcz20_1 := bc1 BK241; have hfz20_0 := blk_frozen BK241.out 0; have hfz20_1 := blk_frozen BK241.out 1))
      go_ret2
      exact ⟨by first | rfl | (simp [errW_none, errW_some] <;> rfl) | (simp [*, errW_none, errW_some] <;> rfl), bw HB⟩
     rw [if_neg c15] at H
     have c15b0 : decide ((wrap64 (t244 * a2_1)) ≤ (wrap64 (a2_0 * t245))) = false := decide_eq_false c15
     clear c15
     have H' := Aside0.mk H
     clear H
     go_wp2_with (first | ((with_reducible refine gate_callee (f := 178) rfl ?_); refine gl 28 Try.func178 #[.int .i64 a0, .int .i64 a1, .int .i64 x8_2] ?_; (with_reducible refine (spec_saThin.calls k2 a0 a1 x8_2 t244 t245 true _ A13.out).mono ?_); rintro e w21 ⟨rfl, hb⟩; refine ⟨_, rfl, ?_⟩; replace BK241 := bb BK241 hb; replace HB := bs HB hb; (try clear hb)) | ((with_reducible refine gate_dst (N := 9) rfl ?_); refine bx 9 #[.int .i64 0, .int .i64 0] 78 ?_; intro gb247 hg w22 hbox hb; have BK247 := Aside0.mk (hbox); have GW247 := ge HB hg; have GE247 := ge HB hg; replace HB := bs HB hb; have NB241_247 := nl BK241 hg; have NB247_241 := nr BK241 hg; replace BK241 := bb BK241 hb; clear hb hbox hg; have hnb23 := NB247_241.out; have hnc23 := NB241_247.out; have hcz24_0 := bc0 BK247; have hcz24_1 := bc1 BK247; have hfz24_0 := blk_frozen BK247.out 0; have hfz24_1 := blk_frozen BK247.out 1; have hcz25_0 := bc0 BK241; have hcz25_1 := bc1 BK241; have hfz25_0 := blk_frozen BK241.out 0; have hfz25_1 := blk_frozen BK241.out 1))
     go_roundg k2
     case measure => have := HJ3.out; have := HK2.out; omega
     case rel => exact ⟨(wrap64 (x8_2 + 1)), (by first | rfl | (simp; done) | (simp [*]; done)), H', ⟨by have := HJ3.out; have := HK2.out; omega⟩, ⟨bk BK241⟩, ⟨bw HB⟩⟩

/-! ### spec_DrawBlendAmounts: function 76 -/
def spec_DrawBlendAmounts.j0 : Nat → Bool → List Int → Int → Int → Int → Int → Int → Int → Option (Int × Int × Int × Int × Int × Int)
 | 0, _, _, _, _, _, _, _, _ => none
 | k + 1, x30, x252000, x252001, x252002, x261000, x261001, x262000, x262001 => if x30 = true then ((spec_l1Cur_ratio.f k x252000 x252001 x252002).bind fun bt267 => (some (x261000, x261001, x262000, x262001, bt267.1, bt267.2.1))) else ((spec_l1Cur_pick.f x252000 x252001 x252002 4).bind fun bt271 => ((spec_l1Cur_pick.f x252000 bt271.2.1 bt271.2.2 4).bind fun bt274 => ((spec_saRatio.f k (wrap64 ((wrap64 ((wrap64 (bt271.1 * x261000)) * x262001)) + (wrap64 ((wrap64 ((wrap64 (1 + bt274.1)) * x262000)) * x261001)))) (wrap64 ((wrap64 ((wrap64 (bt271.1 + (wrap64 (1 + bt274.1)))) * x261001)) * x262001))).bind fun bt277 => (if bt277.2.2 = true then (some (x261000, x261001, x262000, x262001, bt277.1, bt277.2.1)) else (some (x261000, x261001, x262000, x262001, x261000, x261001))))))
def spec_DrawBlendAmounts.f (k : Nat) (l0 : List Int) : Option (Int × Int × Int × Int × Int × Int) := (spec_l1Cur_ratio.f k l0 0 0).bind fun bt252 => ((spec_l1Cur_ratio.f k l0 bt252.2.2.1 bt252.2.2.2).bind fun bt256 => ((spec_l1Cur_one.f l0 bt256.2.2.1 bt256.2.2.2 3).bind fun bt262 => (if bt262.1 = true then (spec_DrawBlendAmounts.j0 k true l0 bt262.2.1 bt262.2.2 bt252.1 bt252.2.1 bt256.1 bt256.2.1) else ((spec_saGood.f k bt252.1 bt252.2.1).bind fun t265 => (if t265 = true then ((spec_saGood.f k bt256.1 bt256.2.1).bind fun t266 => (spec_DrawBlendAmounts.j0 k (!t266) l0 bt262.2.1 bt262.2.2 bt252.1 bt252.2.1 bt256.1 bt256.2.1)) else (spec_DrawBlendAmounts.j0 k true l0 bt262.2.1 bt262.2.2 bt252.1 bt252.2.1 bt256.1 bt256.2.1))))))
theorem spec_DrawBlendAmounts.mono_l : ∀ k, (∀ y0 y1 y2 y3 y4 y5 y6 y7, LeO (spec_DrawBlendAmounts.j0 k y0 y1 y2 y3 y4 y5 y6 y7) (spec_DrawBlendAmounts.j0 (k + 1) y0 y1 y2 y3 y4 y5 y6 y7))
 | 0 => fun _ _ _ _ _ _ _ _ r h => by simp [spec_DrawBlendAmounts.j0] at h
 | k + 1 => by
  have ih0 := spec_DrawBlendAmounts.mono_l k
  ·intro y0 y1 y2 y3 y4 y5 y6 y7
   unfold spec_DrawBlendAmounts.j0
   repeat' first
   | (with_reducible exact ih0 _ _ _ _ _ _ _ _)
   | (with_reducible exact spec_l1Cur_ratio.mono _ _ _ _)
   | (with_reducible exact spec_saGood.mono _ _ _)
   | (with_reducible exact spec_saRatio.mono _ _ _)
   | (with_reducible exact LeO.refl _)
   | (with_reducible exact LeO.none _)
   | (with_reducible refine LeO.ite ?_ ?_)
   | (with_reducible refine LeO.bind ?_ (fun _ => ?_))
   | exact ih0 _ _ _ _ _ _ _ _
   | exact spec_l1Cur_ratio.mono _ _ _ _
   | exact spec_saGood.mono _ _ _
   | exact spec_saRatio.mono _ _ _
   | exact LeO.none _
   | refine LeO.ite ?_ ?_
   | refine LeO.bind ?_ (fun _ => ?_)
theorem spec_DrawBlendAmounts.mono : ∀ a0 k, LeO (spec_DrawBlendAmounts.f k a0) (spec_DrawBlendAmounts.f (k + 1) a0) := by
 intro a0 k
 have ih0 := spec_DrawBlendAmounts.mono_l k
 unfold spec_DrawBlendAmounts.f
 repeat' first
   | (with_reducible exact ih0 _ _ _ _ _ _ _ _)
   | (with_reducible exact spec_l1Cur_ratio.mono _ _ _ _)
   | (with_reducible exact spec_saGood.mono _ _ _)
   | (with_reducible exact spec_saRatio.mono _ _ _)
   | (with_reducible exact LeO.refl _)
   | (with_reducible exact LeO.none _)
   | (with_reducible refine LeO.ite ?_ ?_)
   | (with_reducible refine LeO.bind ?_ (fun _ => ?_))
   | exact ih0 _ _ _ _ _ _ _ _
   | exact spec_l1Cur_ratio.mono _ _ _ _
   | exact spec_saGood.mono _ _ _
   | exact spec_saRatio.mono _ _ _
   | exact LeO.none _
   | refine LeO.ite ?_ ?_
   | refine LeO.bind ?_ (fun _ => ?_)
set_option maxHeartbeats 8000000 in
set_option maxRecDepth 100000 in
theorem spec_DrawBlendAmounts.calls (k : Nat) (A0 : Option Addr) (c0 : Nat) (l0 : List Int) (r1 : Int) (r2 : Int) (r3 : Int) (r4 : Int) (r5 : Int) (r6 : Int) (w : World) (hr0 : Kd.C (Kd.int .u8) w A0 l0.length l0) (hc0 : l0.length ≤ c0) (h : spec_DrawBlendAmounts.f k l0 = some (r1, r2, r3, r4, r5, r6)) :
  Calls Try.prog 76 #[.slice A0 l0.length c0] w fun e w' => e = .returned (.tuple #[.agg #[.int .i64 r1, .int .i64 r2], .agg #[.int .i64 r3, .int .i64 r4], .agg #[.int .i64 r5, .int .i64 r6]]) ∧ Below w.heap.size w w' := by
 have hu78 := Try.underlying78
 have hu140 := Try.underlying140
 have HR0 := Aside0.mk hr0
 have HC0 := Aside0.mk hc0
 clear hr0 hc0
 have HB := Aside0.mk (Below.refl w.heap.size w)
 have H : ((spec_l1Cur_ratio.f k l0 0 0).bind fun bt252 => ((spec_l1Cur_ratio.f k l0 bt252.2.2.1 bt252.2.2.2).bind fun bt256 => ((spec_l1Cur_one.f l0 bt256.2.2.1 bt256.2.2.2 3).bind fun bt262 => (if bt262.1 = true then (spec_DrawBlendAmounts.j0 k true l0 bt262.2.1 bt262.2.2 bt252.1 bt252.2.1 bt256.1 bt256.2.1) else ((spec_saGood.f k bt252.1 bt252.2.1).bind fun t265 => (if t265 = true then ((spec_saGood.f k bt256.1 bt256.2.1).bind fun t266 => (spec_DrawBlendAmounts.j0 k (!t266) l0 bt262.2.1 bt262.2.2 bt252.1 bt252.2.1 bt256.1 bt256.2.1)) else (spec_DrawBlendAmounts.j0 k true l0 bt262.2.1 bt262.2.2 bt252.1 bt252.2.1 bt256.1 bt256.2.1))))))) = some (r1, r2, r3, r4, r5, r6) := h
 clear h
 replace H := Option.bind_eq_some_iff.mp H
 obtain ⟨⟨t252, t253, t254, t255⟩, A20, H⟩ := H
 replace H : ((spec_l1Cur_ratio.f k l0 t254 t255).bind fun bt256 => ((spec_l1Cur_one.f l0 bt256.2.2.1 bt256.2.2.2 3).bind fun bt262 => (if bt262.1 = true then (spec_DrawBlendAmounts.j0 k true l0 bt262.2.1 bt262.2.2 t252 t253 bt256.1 bt256.2.1) else ((spec_saGood.f k t252 t253).bind fun t265 => (if t265 = true then ((spec_saGood.f k bt256.1 bt256.2.1).bind fun t266 => (spec_DrawBlendAmounts.j0 k (!t266) l0 bt262.2.1 bt262.2.2 t252 t253 bt256.1 bt256.2.1)) else (spec_DrawBlendAmounts.j0 k true l0 bt262.2.1 bt262.2.2 t252 t253 bt256.1 bt256.2.1)))))) = some (r1, r2, r3, r4, r5, r6) := H
 have A2 := Aside0.mk A20
 clear A20
 replace H := Option.bind_eq_some_iff.mp H
 obtain ⟨⟨t256, t257, t258, t259⟩, A30, H⟩ := H
 replace H : ((spec_l1Cur_one.f l0 t258 t259 3).bind fun bt262 => (if bt262.1 = true then (spec_DrawBlendAmounts.j0 k true l0 bt262.2.1 bt262.2.2 t252 t253 t256 t257) else ((spec_saGood.f k t252 t253).bind fun t265 => (if t265 = true then ((spec_saGood.f k t256 t257).bind fun t266 => (spec_DrawBlendAmounts.j0 k (!t266) l0 bt262.2.1 bt262.2.2 t252 t253 t256 t257)) else (spec_DrawBlendAmounts.j0 k true l0 bt262.2.1 bt262.2.2 t252 t253 t256 t257))))) = some (r1, r2, r3, r4, r5, r6) := H
 have A3 := Aside0.mk A30
 clear A30
 have HC4 := Aside0.mk H
 clear H
 go_enter Try.func76, Try.ntmps76
 go_upto_region 3 with (first | ((with_reducible refine gate_dst (N := 2) rfl ?_); refine bx 2 #[.int .i64 0, .int .i64 0] 78 ?_; intro gb248 hg w5 hbox hb; have BK248 := Aside0.mk (hbox); have GW248 := ge HB hg; have GE248 := ge HB hg; replace HB := bs HB hb; clear hb hbox hg) | ((with_reducible refine gate_dst (N := 3) rfl ?_); refine bx 3 #[.int .i64 0, .int .i64 0] 78 ?_; intro gb249 hg w6 hbox hb; have BK249 := Aside0.mk (hbox); have GW249 := ge HB hg; have GE249 := ge HB hg; replace HB := bs HB hb; have NB248_249 := nl BK248 hg; have NB249_248 := nr BK248 hg; replace BK248 := bb BK248 hb; clear hb hbox hg) | ((with_reducible refine gate_dst (N := 4) rfl ?_); refine bx 4 #[.int .i64 0, .int .i64 0] 78 ?_; intro gb250 hg w7 hbox hb; have BK250 := Aside0.mk (hbox); have GW250 := ge HB hg; have GE250 := ge HB hg; replace HB := bs HB hb; have NB248_250 := nl BK248 hg; have NB250_248 := nr BK248 hg; replace BK248 := bb BK248 hb; have NB249_250 := nl BK249 hg; have NB250_249 := nr BK249 hg; replace BK249 := bb BK249 hb; clear hb hbox hg) | ((with_reducible refine gate_dst (N := 14) rfl ?_); refine bx 14 #[.slice A0 l0.length c0, .int .i64 0, .int .u64 0] 140 ?_; intro gb251 hg w8 hbox hb; have HI251 := Aside0.mk ((⟨_, _, hbox, (by rw [hg]; exact (below_size (bw HB)) : w.heap.size ≤ gb251), HR0.out⟩ : IsS140 w _ gb251 l0 0 0)); replace HB := bs HB hb; have NB248_251 := nl BK248 hg; have NB251_248 := nr BK248 hg; replace BK248 := bb BK248 hb; have NB249_251 := nl BK249 hg; have NB251_249 := nr BK249 hg; replace BK249 := bb BK249 hb; have NB250_251 := nl BK250 hg; have NB251_250 := nr BK250 hg; replace BK250 := bb BK250 hb; clear hb hbox hg) | ((with_reducible refine gate_callee (f := 180) rfl ?_); refine gl 16 Try.func180 #[.pointer (some ⟨gb251, 0, none⟩)] ?_; (with_reducible refine (spec_l1Cur_ratio.calls k gb251 l0 0 0 t252 t253 t254 t255 w _ ?side1 ?side2 A2.out).mono ?_); (case side1 => repeat (first | (with_reducible first | exact HI251.out | apply IsS140.alloc | apply IsS140.drewN | apply IsS140.drew | apply IsS140.set_1 | apply IsS140.set_2 | refine IsS140.far ?_ NB251_248.out _ | refine IsS140.far ?_ NB251_249.out _ | refine IsS140.far ?_ NB251_250.out _) | exact HI251.out)); (case side2 => repeat (first | (with_reducible first | exact HB.out | apply below_alloc | apply pw_below_drewN | apply below_drew1 | refine below_set ?_ (IsS140.ge HI251.out) | refine below_set ?_ GE248.out | refine below_set ?_ GE249.out | refine below_set ?_ GE250.out) | exact HB.out)); rintro e w9 ⟨rfl, hi, hb, hk⟩; refine ⟨_, rfl, ?_⟩; replace BK248 := Aside0.mk (KeepBut.blk hk (g' := gb248) (o := .cells #[.int .i64 0, .int .i64 0] 78 (0, 0)) (bk BK248) NB248_251.out (by simp)); replace BK249 := Aside0.mk (KeepBut.blk hk (g' := gb249) (o := .cells #[.int .i64 0, .int .i64 0] 78 (0, 0)) (bk BK249) NB249_251.out (by simp)); replace BK250 := Aside0.mk (KeepBut.blk hk (g' := gb250) (o := .cells #[.int .i64 0, .int .i64 0] 78 (0, 0)) (bk BK250) NB250_251.out (by simp)); replace HB := Aside0.mk (hb); replace HI251 := Aside0.mk (hi); (try clear hb); (try clear hk); (try clear hi)) | ((with_reducible refine gate_callee (f := 180) rfl ?_); refine gl 18 Try.func180 #[.pointer (some ⟨gb251, 0, none⟩)] ?_; (with_reducible refine (spec_l1Cur_ratio.calls k gb251 l0 t254 t255 t256 t257 t258 t259 w _ ?side1 ?side2 A3.out).mono ?_); (case side1 => repeat (first | (with_reducible first | exact HI251.out | apply IsS140.alloc | apply IsS140.drewN | apply IsS140.drew | apply IsS140.set_1 | apply IsS140.set_2 | refine IsS140.far ?_ NB251_248.out _ | refine IsS140.far ?_ NB251_249.out _ | refine IsS140.far ?_ NB251_250.out _) | exact HI251.out)); (case side2 => repeat (first | (with_reducible first | exact HB.out | apply below_alloc | apply pw_below_drewN | apply below_drew1 | refine below_set ?_ (IsS140.ge HI251.out) | refine below_set ?_ GE248.out | refine below_set ?_ GE249.out | refine below_set ?_ GE250.out) | exact HB.out)); rintro e w10 ⟨rfl, hi, hb, hk⟩; refine ⟨_, rfl, ?_⟩; replace BK248 := Aside0.mk (KeepBut.blk hk (g' := gb248) (o := .cells #[.int .i64 0, .int .i64 0] 78 (0, 0)) (bk BK248) NB248_251.out (by simp)); replace BK249 := Aside0.mk (KeepBut.blk hk (g' := gb249) (o := .cells #[.int .i64 0, .int .i64 0] 78 (0, 0)) (bk BK249) NB249_251.out (by simp)); replace BK250 := Aside0.mk (KeepBut.blk hk (g' := gb250) (o := .cells #[.int .i64 0, .int .i64 0] 78 (0, 0)) (bk BK250) NB250_251.out (by simp)); replace HB := Aside0.mk (hb); replace HI251 := Aside0.mk (hi); (try clear hb); (try clear hk); (try clear hi)) | ((with_reducible refine gate_dst (N := 6) rfl ?_); refine bx 6 #[.int .i64 0, .int .i64 0] 78 ?_; intro gb260 hg w11 hbox hb; have BK260 := Aside0.mk (hbox); have GW260 := Aside0.mk ((by rw [hg]; exact (below_size (by repeat (first | (with_reducible first | exact HB.out | apply below_alloc | apply pw_below_drewN | apply below_drew1 | refine below_set ?_ (IsS140.ge HI251.out) | refine below_set ?_ GE248.out | refine below_set ?_ GE249.out | refine below_set ?_ GE250.out) | exact HB.out))) : w.heap.size ≤ gb260)); have GE260 := Aside0.mk ((by rw [hg]; exact (below_size (by repeat (first | (with_reducible first | exact HB.out | apply below_alloc | apply pw_below_drewN | apply below_drew1 | refine below_set ?_ (IsS140.ge HI251.out) | refine below_set ?_ GE248.out | refine below_set ?_ GE249.out | refine below_set ?_ GE250.out) | exact HB.out))) : w.heap.size ≤ gb260)); replace HB := Aside0.mk (below_step (by repeat (first | (with_reducible first | exact HB.out | apply below_alloc | apply pw_below_drewN | apply below_drew1 | refine below_set ?_ (IsS140.ge HI251.out) | refine below_set ?_ GE248.out | refine below_set ?_ GE249.out | refine below_set ?_ GE250.out) | exact HB.out)) hb); have NB248_260 := nl BK248 hg; have NB260_248 := nr BK248 hg; replace BK248 := bb BK248 hb; have NB249_260 := nl BK249 hg; have NB260_249 := nr BK249 hg; replace BK249 := bb BK249 hb; have NB250_260 := nl BK250 hg; have NB260_250 := nr BK250 hg; replace BK250 := bb BK250 hb; have NB251_260 := Aside0.mk ((by rw [hg]; exact Nat.ne_of_lt (IsS140.lt (show IsS140 w _ gb251 l0 t258 t259 from by repeat (first | (with_reducible first | exact HI251.out | apply IsS140.alloc | apply IsS140.drewN | apply IsS140.drew | apply IsS140.set_1 | apply IsS140.set_2 | refine IsS140.far ?_ NB251_248.out _ | refine IsS140.far ?_ NB251_249.out _ | refine IsS140.far ?_ NB251_250.out _) | exact HI251.out))) : gb251 ≠ gb260)); have NB260_251 := Aside0.mk ((by rw [hg]; exact Nat.ne_of_gt (IsS140.lt (show IsS140 w _ gb251 l0 t258 t259 from by repeat (first | (with_reducible first | exact HI251.out | apply IsS140.alloc | apply IsS140.drewN | apply IsS140.drew | apply IsS140.set_1 | apply IsS140.set_2 | refine IsS140.far ?_ NB251_248.out _ | refine IsS140.far ?_ NB251_249.out _ | refine IsS140.far ?_ NB251_250.out _) | exact HI251.out))) : gb260 ≠ gb251)); replace HI251 := Aside0.mk (IsS140.below (by repeat (first | (with_reducible first | exact HI251.out | apply IsS140.alloc | apply IsS140.drewN | apply IsS140.drew | apply IsS140.set_1 | apply IsS140.set_2 | refine IsS140.far ?_ NB251_248.out _ | refine IsS140.far ?_ NB251_249.out _ | refine IsS140.far ?_ NB251_250.out _) | exact HI251.out)) hb); clear hb hbox hg) | ((with_reducible refine gate_dst (N := 7) rfl ?_); refine bx 7 #[.int .i64 0, .int .i64 0] 78 ?_; intro gb261 hg w12 hbox hb; have BK261 := Aside0.mk (hbox); have GW261 := Aside0.mk ((by rw [hg]; exact (below_size (by repeat (first | (with_reducible first | exact HB.out | apply below_alloc | apply pw_below_drewN | apply below_drew1 | refine below_set ?_ (IsS140.ge HI251.out) | refine below_set ?_ GE248.out | refine below_set ?_ GE249.out | refine below_set ?_ GE250.out | refine below_set ?_ GE260.out) | exact HB.out))) : w.heap.size ≤ gb261)); have GE261 := Aside0.mk ((by rw [hg]; exact (below_size (by repeat (first | (with_reducible first | exact HB.out | apply below_alloc | apply pw_below_drewN | apply below_drew1 | refine below_set ?_ (IsS140.ge HI251.out) | refine below_set ?_ GE248.out | refine below_set ?_ GE249.out | refine below_set ?_ GE250.out | refine below_set ?_ GE260.out) | exact HB.out))) : w.heap.size ≤ gb261)); replace HB := Aside0.mk (below_step (by repeat (first | (with_reducible first | exact HB.out | apply below_alloc | apply pw_below_drewN | apply below_drew1 | refine below_set ?_ (IsS140.ge HI251.out) | refine below_set ?_ GE248.out | refine below_set ?_ GE249.out | refine below_set ?_ GE250.out | refine below_set ?_ GE260.out) | exact HB.out)) hb); have NB248_261 := nl BK248 hg; have NB261_248 := nr BK248 hg; replace BK248 := bb BK248 hb; have NB249_261 := nl BK249 hg; have NB261_249 := nr BK249 hg; replace BK249 := bb BK249 hb; have NB250_261 := nl BK250 hg; have NB261_250 := nr BK250 hg; replace BK250 := bb BK250 hb; have NB260_261 := nl BK260 hg; have NB261_260 := nr BK260 hg; replace BK260 := bb BK260 hb; have NB251_261 := Aside0.mk ((by rw [hg]; exact Nat.ne_of_lt (IsS140.lt (show IsS140 w _ gb251 l0 t258 t259 from by repeat (first | (with_reducible first | exact HI251.out | apply IsS140.alloc | apply IsS140.drewN | apply IsS140.drew | apply IsS140.set_1 | apply IsS140.set_2 | refine IsS140.far ?_ NB251_248.out _ | refine IsS140.far ?_ NB251_249.out _ | refine IsS140.far ?_ NB251_250.out _ | refine IsS140.far ?_ NB251_260.out _) | exact HI251.out))) : gb251 ≠ gb261)); have NB261_251 := Aside0.mk ((by rw [hg]; exact Nat.ne_of_gt (IsS140.lt (show IsS140 w _ gb251 l0 t258 t259 from by repeat (first | (with_reducible first | exact HI251.out | apply IsS140.alloc | apply IsS140.drewN | apply IsS140.drew | apply IsS140.set_1 | apply IsS140.set_2 | refine IsS140.far ?_ NB251_248.out _ | refine IsS140.far ?_ NB251_249.out _ | refine IsS140.far ?_ NB251_250.out _ | refine IsS140.far ?_ NB251_260.out _) | exact HI251.out))) : gb261 ≠ gb251)); replace HI251 := Aside0.mk (IsS140.below (by repeat (first | (with_reducible first | exact HI251.out | apply IsS140.alloc | apply IsS140.drewN | apply IsS140.drew | apply IsS140.set_1 | apply IsS140.set_2 | refine IsS140.far ?_ NB251_248.out _ | refine IsS140.far ?_ NB251_249.out _ | refine IsS140.far ?_ NB251_250.out _ | refine IsS140.far ?_ NB251_260.out _) | exact HI251.out)) hb); clear hb hbox hg; have hnb13 := NB260_248.out; have hnc13 := NB248_260.out; have hnb14 := NB260_249.out; have hnc14 := NB249_260.out; have hnb15 := NB260_250.out; have hnc15 := NB250_260.out; have hnb16 := NB260_261.out; have hnc16 := NB261_260.out; have hnb17 := NB260_251.out; have hnc17 := NB251_260.out; have hcz18_0 := bc0 BK260; have hcz18_1 := bc1 BK260; have hfz18_0 := blk_frozen BK260.out 0; have hfz18_1 := blk_frozen BK260.out 1; have hnb19 := NB261_248.out; have hnc19 := NB248_261.out; have hnb20 := NB261_249.out; have hnc20 := NB249_261.out; have hnb21 := NB261_250.out; have hnc21 := NB250_261.out; have hnb22 := NB261_251.out; have hnc22 := NB251_261.out; have hcz23_0 := bc0 BK261; have hcz23_1 := bc1 BK261; have hfz23_0 := blk_frozen BK261.out 0; have hfz23_1 := blk_frozen BK261.out 1))
 (try simp only [Act.put, List.setIfInBounds_toArray, List.set_cons_zero, List.set_cons_succ])
 go_cut [30] (fun v30 wc => ∃ (kq : Nat) (x30_3 : Bool) (x252001_3 : Int) (x252002_3 : Int), v30 = .bool x30_3 ∧ Aside0 (spec_DrawBlendAmounts.j0 kq x30_3 l0 x252001_3 x252002_3 t252 t253 t256 t257 = some (r1, r2, r3, r4, r5, r6)) ∧ Aside0 (kq ≤ k) ∧ Aside0 (wc.heap[gb248]? = some (.cells #[.int .i64 0, .int .i64 0] 78 (0, 0))) ∧ Aside0 (wc.heap[gb249]? = some (.cells #[.int .i64 0, .int .i64 0] 78 (0, 0))) ∧ Aside0 (wc.heap[gb250]? = some (.cells #[.int .i64 0, .int .i64 0] 78 (0, 0))) ∧ Aside0 (wc.heap[gb260]? = some (.cells #[.int .i64 t252, .int .i64 t253] 78 (0, 0))) ∧ Aside0 (wc.heap[gb261]? = some (.cells #[.int .i64 t256, .int .i64 t257] 78 (0, 0))) ∧ Aside0 (IsS140 w wc gb251 l0 x252001_3 x252002_3) ∧ Aside0 (Below w.heap.size w wc))
 case first =>
  have H := HC4.out
  clear HC4
  replace H := Option.bind_eq_some_iff.mp H
  obtain ⟨⟨t262, t263, t264⟩, A240, H⟩ := H
  replace H : (if t262 = true then (spec_DrawBlendAmounts.j0 k true l0 t263 t264 t252 t253 t256 t257) else ((spec_saGood.f k t252 t253).bind fun t265 => (if t265 = true then ((spec_saGood.f k t256 t257).bind fun t266 => (spec_DrawBlendAmounts.j0 k (!t266) l0 t263 t264 t252 t253 t256 t257)) else (spec_DrawBlendAmounts.j0 k true l0 t263 t264 t252 t253 t256 t257)))) = some (r1, r2, r3, r4, r5, r6) := H
  have A24 := Aside0.mk A240
  clear A240
  by_cases c25 : t262 = true
  ·subst c25
   have H1 : (spec_DrawBlendAmounts.j0 k true l0 t263 t264 t252 t253 t256 t257) = some (r1, r2, r3, r4, r5, r6) := by rw [if_pos rfl] at H; exact H
   clear H
   have H := H1
   clear H1
   have H' := Aside0.mk H
   clear H
   go_wp2_with (first | ((with_reducible refine gate_callee (f := 172) rfl ?_); refine gl 20 Try.func172 #[.pointer (some ⟨gb251, 0, none⟩), .int .i64 3] ?_; (with_reducible refine (spec_l1Cur_one.calls gb251 l0 t258 t259 3 true t263 t264 w _ ?side1 ?side2 A24.out).mono ?_); (case side1 => repeat (first | (with_reducible first | exact HI251.out | apply IsS140.alloc | apply IsS140.drewN | apply IsS140.drew | apply IsS140.set_1 | apply IsS140.set_2 | refine IsS140.far ?_ NB251_248.out _ | refine IsS140.far ?_ NB251_249.out _ | refine IsS140.far ?_ NB251_250.out _ | refine IsS140.far ?_ NB251_260.out _ | refine IsS140.far ?_ NB251_261.out _) | exact HI251.out)); (case side2 => repeat (first | (with_reducible first | exact HB.out | apply below_alloc | apply pw_below_drewN | apply below_drew1 | refine below_set ?_ (IsS140.ge HI251.out) | refine below_set ?_ GE248.out | refine below_set ?_ GE249.out | refine below_set ?_ GE250.out | refine below_set ?_ GE260.out | refine below_set ?_ GE261.out) | exact HB.out)); rintro e w26 ⟨rfl, hi, hb, hk⟩; refine ⟨_, rfl, ?_⟩; replace BK248 := Aside0.mk (KeepBut.blk hk (g' := gb248) (o := .cells #[.int .i64 0, .int .i64 0] 78 (0, 0)) (bk BK248) NB248_251.out (by simp)); replace BK249 := Aside0.mk (KeepBut.blk hk (g' := gb249) (o := .cells #[.int .i64 0, .int .i64 0] 78 (0, 0)) (bk BK249) NB249_251.out (by simp)); replace BK250 := Aside0.mk (KeepBut.blk hk (g' := gb250) (o := .cells #[.int .i64 0, .int .i64 0] 78 (0, 0)) (bk BK250) NB250_251.out (by simp)); replace BK260 := Aside0.mk (KeepBut.blk hk (g' := gb260) (o := .cells #[.int .i64 t252, .int .i64 t253] 78 (0, 0)) (by (with_reducible repeat (first | refine blk_drewN ?_ _ | refine blk_drew ?_ | refine blk_alloc ?_ _)); refine blk_far ?_ NB260_261.out _; (with_reducible repeat (first | refine blk_drewN ?_ _ | refine blk_drew ?_ | refine blk_alloc ?_ _)); refine blk_far ?_ NB260_261.out _; (with_reducible repeat (first | refine blk_drewN ?_ _ | refine blk_drew ?_ | refine blk_alloc ?_ _)); refine blk_put (cs := #[.int .i64 t252, .int .i64 0]) ?_ 1 _ rfl; (with_reducible repeat (first | refine blk_drewN ?_ _ | refine blk_drew ?_ | refine blk_alloc ?_ _)); refine blk_put (cs := #[.int .i64 0, .int .i64 0]) ?_ 0 _ rfl; exact bk BK260) NB260_251.out (by simp)); replace BK261 := Aside0.mk (KeepBut.blk hk (g' := gb261) (o := .cells #[.int .i64 t256, .int .i64 t257] 78 (0, 0)) (by (with_reducible repeat (first | refine blk_drewN ?_ _ | refine blk_drew ?_ | refine blk_alloc ?_ _)); refine blk_put (cs := #[.int .i64 t256, .int .i64 0]) ?_ 1 _ rfl; (with_reducible repeat (first | refine blk_drewN ?_ _ | refine blk_drew ?_ | refine blk_alloc ?_ _)); refine blk_put (cs := #[.int .i64 0, .int .i64 0]) ?_ 0 _ rfl; exact bk BK261) NB261_251.out (by simp)); replace HB := Aside0.mk (hb); replace HI251 := Aside0.mk (hi); (try clear hb); (try clear hk); (try clear hi)))
   go_meet
   case rel => exact ⟨_, (true), (t263), (t264), (by first | rfl | (simp; done) | (simp [*]; done)), H', ⟨by first | omega | exact Nat.le_refl _⟩, ⟨bk BK248⟩, ⟨bk BK249⟩, ⟨bk BK250⟩, ⟨bk BK260⟩, ⟨bk BK261⟩, ⟨by repeat (first | (with_reducible first | exact HI251.out | apply IsS140.alloc | apply IsS140.drewN | apply IsS140.drew | apply IsS140.set_1 | apply IsS140.set_2 | refine IsS140.far ?_ NB251_248.out _ | refine IsS140.far ?_ NB251_249.out _ | refine IsS140.far ?_ NB251_250.out _ | refine IsS140.far ?_ NB251_260.out _ | refine IsS140.far ?_ NB251_261.out _) | exact HI251.out)⟩, ⟨by repeat (first | (with_reducible first | exact HB.out | apply below_alloc | apply pw_below_drewN | apply below_drew1 | refine below_set ?_ (IsS140.ge HI251.out) | refine below_set ?_ GE248.out | refine below_set ?_ GE249.out | refine below_set ?_ GE250.out | refine below_set ?_ GE260.out | refine below_set ?_ GE261.out) | exact HB.out)⟩⟩
  replace c25 := Bool.eq_false_iff.mpr c25
  subst c25
  have H1 : ((spec_saGood.f k t252 t253).bind fun t265 => (if t265 = true then ((spec_saGood.f k t256 t257).bind fun t266 => (spec_DrawBlendAmounts.j0 k (!t266) l0 t263 t264 t252 t253 t256 t257)) else (spec_DrawBlendAmounts.j0 k true l0 t263 t264 t252 t253 t256 t257))) = some (r1, r2, r3, r4, r5, r6) := by rw [if_neg (show ¬ (false = true) by decide)] at H; exact H
  clear H
  have H := H1
  clear H1
  replace H := Option.bind_eq_some_iff.mp H
  obtain ⟨t265, A270, H⟩ := H
  replace H : (if t265 = true then ((spec_saGood.f k t256 t257).bind fun t266 => (spec_DrawBlendAmounts.j0 k (!t266) l0 t263 t264 t252 t253 t256 t257)) else (spec_DrawBlendAmounts.j0 k true l0 t263 t264 t252 t253 t256 t257)) = some (r1, r2, r3, r4, r5, r6) := H
  have A27 := Aside0.mk A270
  clear A270
  by_cases c28 : t265 = true
  rotate_left
  ·replace c28 := Bool.eq_false_iff.mpr c28
   subst c28
   have H1 : (spec_DrawBlendAmounts.j0 k true l0 t263 t264 t252 t253 t256 t257) = some (r1, r2, r3, r4, r5, r6) := by rw [if_neg (show ¬ (false = true) by decide)] at H; exact H
   clear H
   have H := H1
   clear H1
   have H' := Aside0.mk H
   clear H
   go_wp2_with (first | ((with_reducible refine gate_callee (f := 172) rfl ?_); refine gl 20 Try.func172 #[.pointer (some ⟨gb251, 0, none⟩), .int .i64 3] ?_; (with_reducible refine (spec_l1Cur_one.calls gb251 l0 t258 t259 3 false t263 t264 w _ ?side1 ?side2 A24.out).mono ?_); (case side1 => repeat (first | (with_reducible first | exact HI251.out | apply IsS140.alloc | apply IsS140.drewN | apply IsS140.drew | apply IsS140.set_1 | apply IsS140.set_2 | refine IsS140.far ?_ NB251_248.out _ | refine IsS140.far ?_ NB251_249.out _ | refine IsS140.far ?_ NB251_250.out _ | refine IsS140.far ?_ NB251_260.out _ | refine IsS140.far ?_ NB251_261.out _) | exact HI251.out)); (case side2 => repeat (first | (with_reducible first | exact HB.out | apply below_alloc | apply pw_below_drewN | apply below_drew1 | refine below_set ?_ (IsS140.ge HI251.out) | refine below_set ?_ GE248.out | refine below_set ?_ GE249.out | refine below_set ?_ GE250.out | refine below_set ?_ GE260.out | refine below_set ?_ GE261.out) | exact HB.out)); rintro e w44 ⟨rfl, hi, hb, hk⟩; refine ⟨_, rfl, ?_⟩; replace BK248 := Aside0.mk (KeepBut.blk hk (g' := gb248) (o := .cells #[.int .i64 0, .int .i64 0] 78 (0, 0)) (bk BK248) NB248_251.out (by simp)); replace BK249 := Aside0.mk (KeepBut.blk hk (g' := gb249) (o := .cells #[.int .i64 0, .int .i64 0] 78 (0, 0)) (bk BK249) NB249_251.out (by simp)); replace BK250 := Aside0.mk (KeepBut.blk hk (g' := gb250) (o := .cells #[.int .i64 0, .int .i64 0] 78 (0, 0)) (bk BK250) NB250_251.out (by simp)); replace BK260 := Aside0.mk (KeepBut.blk hk (g' := gb260) (o := .cells #[.int .i64 t252, .int .i64 t253] 78 (0, 0)) (by (with_reducible repeat (first | refine blk_drewN ?_ _ | refine blk_drew ?_ | refine blk_alloc ?_ _)); refine blk_far ?_ NB260_261.out _; (with_reducible repeat (first | refine blk_drewN ?_ _ | refine blk_drew ?_ | refine blk_alloc ?_ _)); refine blk_far ?_ NB260_261.out _; (with_reducible repeat (first | refine blk_drewN ?_ _ | refine blk_drew ?_ | refine blk_alloc ?_ _)); refine blk_put (cs := #[.int .i64 t252, .int .i64 0]) ?_ 1 _ rfl; (with_reducible repeat (first | refine blk_drewN ?_ _ | refine blk_drew ?_ | refine blk_alloc ?_ _)); refine blk_put (cs := #[.int .i64 0, .int .i64 0]) ?_ 0 _ rfl; exact bk BK260) NB260_251.out (by simp)); replace BK261 := Aside0.mk (KeepBut.blk hk (g' := gb261) (o := .cells #[.int .i64 t256, .int .i64 t257] 78 (0, 0)) (by (with_reducible repeat (first | refine blk_drewN ?_ _ | refine blk_drew ?_ | refine blk_alloc ?_ _)); refine blk_put (cs := #[.int .i64 t256, .int .i64 0]) ?_ 1 _ rfl; (with_reducible repeat (first | refine blk_drewN ?_ _ | refine blk_drew ?_ | refine blk_alloc ?_ _)); refine blk_put (cs := #[.int .i64 0, .int .i64 0]) ?_ 0 _ rfl; exact bk BK261) NB261_251.out (by simp)); replace HB := Aside0.mk (hb); replace HI251 := Aside0.mk (hi); (try clear hb); (try clear hk); (try clear hi); have hnb45 := NB260_248.out; have hnc45 := NB248_260.out; have hnb46 := NB260_249.out; have hnc46 := NB249_260.out; have hnb47 := NB260_250.out; have hnc47 := NB250_260.out; have hnb48 := NB260_261.out; have hnc48 := NB261_260.out; have hnb49 := NB260_251.out; have hnc49 := NB251_260.out; have hcz50_0 := bc0 BK260; have hcz50_1 := bc1 BK260; have hfz50_0 := blk_frozen BK260.out 0; have hfz50_1 := blk_frozen BK260.out 1) | (go_at_call 183; (with_reducible refine (spec_saGood.calls k t252 t253 false _ A27.out).mono ?_); rintro e w51 ⟨rfl, hb⟩; replace BK248 := bb BK248 hb; replace BK249 := bb BK249 hb; replace BK250 := bb BK250 hb; replace BK260 := bb BK260 hb; replace BK261 := bb BK261 hb; replace HB := Aside0.mk (below_step (by repeat (first | (with_reducible first | exact HB.out | apply below_alloc | apply pw_below_drewN | apply below_drew1 | refine below_set ?_ (IsS140.ge HI251.out) | refine below_set ?_ GE248.out | refine below_set ?_ GE249.out | refine below_set ?_ GE250.out | refine below_set ?_ GE260.out | refine below_set ?_ GE261.out) | exact HB.out)) hb); replace HI251 := Aside0.mk (IsS140.below (by repeat (first | (with_reducible first | exact HI251.out | apply IsS140.alloc | apply IsS140.drewN | apply IsS140.drew | apply IsS140.set_1 | apply IsS140.set_2 | refine IsS140.far ?_ NB251_248.out _ | refine IsS140.far ?_ NB251_249.out _ | refine IsS140.far ?_ NB251_250.out _ | refine IsS140.far ?_ NB251_260.out _ | refine IsS140.far ?_ NB251_261.out _) | exact HI251.out)) hb); (try clear hb)))
   go_meet
   case rel => exact ⟨_, (true), (t263), (t264), (by first | rfl | (simp; done) | (simp [*]; done)), H', ⟨by first | omega | exact Nat.le_refl _⟩, ⟨bk BK248⟩, ⟨bk BK249⟩, ⟨bk BK250⟩, ⟨bk BK260⟩, ⟨bk BK261⟩, ⟨by repeat (first | (with_reducible first | exact HI251.out | apply IsS140.alloc | apply IsS140.drewN | apply IsS140.drew | apply IsS140.set_1 | apply IsS140.set_2 | refine IsS140.far ?_ NB251_248.out _ | refine IsS140.far ?_ NB251_249.out _ | refine IsS140.far ?_ NB251_250.out _ | refine IsS140.far ?_ NB251_260.out _ | refine IsS140.far ?_ NB251_261.out _) | exact HI251.out)⟩, ⟨by repeat (first | (with_reducible first | exact HB.out | apply below_alloc | apply pw_below_drewN | apply below_drew1 | refine below_set ?_ (IsS140.ge HI251.out) | refine below_set ?_ GE248.out | refine below_set ?_ GE249.out | refine below_set ?_ GE250.out | refine below_set ?_ GE260.out | refine below_set ?_ GE261.out) | exact HB.out)⟩⟩
  subst c28
  have H1 : ((spec_saGood.f k t256 t257).bind fun t266 => (spec_DrawBlendAmounts.j0 k (!t266) l0 t263 t264 t252 t253 t256 t257)) = some (r1, r2, r3, r4, r5, r6) := by rw [if_pos rfl] at H; exact H
  clear H
  have H := H1
  clear H1
  replace H := Option.bind_eq_some_iff.mp H
  obtain ⟨t266, A290, H⟩ := H
  replace H : (spec_DrawBlendAmounts.j0 k (!t266) l0 t263 t264 t252 t253 t256 t257) = some (r1, r2, r3, r4, r5, r6) := H
  have A29 := Aside0.mk A290
  clear A290
  have H' := Aside0.mk H
  clear H
  go_wp2_with (first | ((with_reducible refine gate_callee (f := 172) rfl ?_); refine gl 20 Try.func172 #[.pointer (some ⟨gb251, 0, none⟩), .int .i64 3] ?_; (with_reducible refine (spec_l1Cur_one.calls gb251 l0 t258 t259 3 false t263 t264 w _ ?side1 ?side2 A24.out).mono ?_); (case side1 => repeat (first | (with_reducible first | exact HI251.out | apply IsS140.alloc | apply IsS140.drewN | apply IsS140.drew | apply IsS140.set_1 | apply IsS140.set_2 | refine IsS140.far ?_ NB251_248.out _ | refine IsS140.far ?_ NB251_249.out _ | refine IsS140.far ?_ NB251_250.out _ | refine IsS140.far ?_ NB251_260.out _ | refine IsS140.far ?_ NB251_261.out _) | exact HI251.out)); (case side2 => repeat (first | (with_reducible first | exact HB.out | apply below_alloc | apply pw_below_drewN | apply below_drew1 | refine below_set ?_ (IsS140.ge HI251.out) | refine below_set ?_ GE248.out | refine below_set ?_ GE249.out | refine below_set ?_ GE250.out | refine below_set ?_ GE260.out | refine below_set ?_ GE261.out) | exact HB.out)); rintro e w30 ⟨rfl, hi, hb, hk⟩; refine ⟨_, rfl, ?_⟩; replace BK248 := Aside0.mk (KeepBut.blk hk (g' := gb248) (o := .cells #[.int .i64 0, .int .i64 0] 78 (0, 0)) (bk BK248) NB248_251.out (by simp)); replace BK249 := Aside0.mk (KeepBut.blk hk (g' := gb249) (o := .cells #[.int .i64 0, .int .i64 0] 78 (0, 0)) (bk BK249) NB249_251.out (by simp)); replace BK250 := Aside0.mk (KeepBut.blk hk (g' := gb250) (o := .cells #[.int .i64 0, .int .i64 0] 78 (0, 0)) (bk BK250) NB250_251.out (by simp)); replace BK260 := Aside0.mk (KeepBut.blk hk (g' := gb260) (o := .cells #[.int .i64 t252, .int .i64 t253] 78 (0, 0)) (by (with_reducible repeat (first | refine blk_drewN ?_ _ | refine blk_drew ?_ | refine blk_alloc ?_ _)); refine blk_far ?_ NB260_261.out _; (with_reducible repeat (first | refine blk_drewN ?_ _ | refine blk_drew ?_ | refine blk_alloc ?_ _)); refine blk_far ?_ NB260_261.out _; (with_reducible repeat (first | refine blk_drewN ?_ _ | refine blk_drew ?_ | refine blk_alloc ?_ _)); refine blk_put (cs := #[.int .i64 t252, .int .i64 0]) ?_ 1 _ rfl; (with_reducible repeat (first | refine blk_drewN ?_ _ | refine blk_drew ?_ | refine blk_alloc ?_ _)); refine blk_put (cs := #[.int .i64 0, .int .i64 0]) ?_ 0 _ rfl; exact bk BK260) NB260_251.out (by simp)); replace BK261 := Aside0.mk (KeepBut.blk hk (g' := gb261) (o := .cells #[.int .i64 t256, .int .i64 t257] 78 (0, 0)) (by (with_reducible repeat (first | refine blk_drewN ?_ _ | refine blk_drew ?_ | refine blk_alloc ?_ _)); refine blk_put (cs := #[.int .i64 t256, .int .i64 0]) ?_ 1 _ rfl; (with_reducible repeat (first | refine blk_drewN ?_ _ | refine blk_drew ?_ | refine blk_alloc ?_ _)); refine blk_put (cs := #[.int .i64 0, .int .i64 0]) ?_ 0 _ rfl; exact bk BK261) NB261_251.out (by simp)); replace HB := Aside0.mk (hb); replace HI251 := Aside0.mk (hi); (try clear hb); (try clear hk); (try clear hi); have hnb31 := NB260_248.out; have hnc31 := NB248_260.out; have hnb32 := NB260_249.out; have hnc32 := NB249_260.out; have hnb33 := NB260_250.out; have hnc33 := NB250_260.out; have hnb34 := NB260_261.out; have hnc34 := NB261_260.out; have hnb35 := NB260_251.out; have hnc35 := NB251_260.out; have hcz36_0 := bc0 BK260; have hcz36_1 := bc1 BK260; have hfz36_0 := blk_frozen BK260.out 0; have hfz36_1 := blk_frozen BK260.out 1) | (go_at_call 183; (with_reducible refine (spec_saGood.calls k t252 t253 true _ A27.out).mono ?_); rintro e w37 ⟨rfl, hb⟩; replace BK248 := bb BK248 hb; replace BK249 := bb BK249 hb; replace BK250 := bb BK250 hb; replace BK260 := bb BK260 hb; replace BK261 := bb BK261 hb; replace HB := Aside0.mk (below_step (by repeat (first | (with_reducible first | exact HB.out | apply below_alloc | apply pw_below_drewN | apply below_drew1 | refine below_set ?_ (IsS140.ge HI251.out) | refine below_set ?_ GE248.out | refine below_set ?_ GE249.out | refine below_set ?_ GE250.out | refine below_set ?_ GE260.out | refine below_set ?_ GE261.out) | exact HB.out)) hb); replace HI251 := Aside0.mk (IsS140.below (by repeat (first | (with_reducible first | exact HI251.out | apply IsS140.alloc | apply IsS140.drewN | apply IsS140.drew | apply IsS140.set_1 | apply IsS140.set_2 | refine IsS140.far ?_ NB251_248.out _ | refine IsS140.far ?_ NB251_249.out _ | refine IsS140.far ?_ NB251_250.out _ | refine IsS140.far ?_ NB251_260.out _ | refine IsS140.far ?_ NB251_261.out _) | exact HI251.out)) hb); (try clear hb); have hnb38 := NB261_248.out; have hnc38 := NB248_261.out; have hnb39 := NB261_249.out; have hnc39 := NB249_261.out; have hnb40 := NB261_250.out; have hnc40 := NB250_261.out; have hnb41 := NB261_251.out; have hnc41 := NB251_261.out; have hcz42_0 := bc0 BK261; have hcz42_1 := bc1 BK261; have hfz42_0 := blk_frozen BK261.out 0; have hfz42_1 := blk_frozen BK261.out 1) | (go_at_call 183; (with_reducible refine (spec_saGood.calls k t256 t257 t266 _ A29.out).mono ?_); rintro e w43 ⟨rfl, hb⟩; replace BK248 := bb BK248 hb; replace BK249 := bb BK249 hb; replace BK250 := bb BK250 hb; replace BK260 := bb BK260 hb; replace BK261 := bb BK261 hb; replace HB := Aside0.mk (below_step (by repeat (first | (with_reducible first | exact HB.out | apply below_alloc | apply pw_below_drewN | apply below_drew1 | refine below_set ?_ (IsS140.ge HI251.out) | refine below_set ?_ GE248.out | refine below_set ?_ GE249.out | refine below_set ?_ GE250.out | refine below_set ?_ GE260.out | refine below_set ?_ GE261.out) | exact HB.out)) hb); replace HI251 := Aside0.mk (IsS140.below (by repeat (first | (with_reducible first | exact HI251.out | apply IsS140.alloc | apply IsS140.drewN | apply IsS140.drew | apply IsS140.set_1 | apply IsS140.set_2 | refine IsS140.far ?_ NB251_248.out _ | refine IsS140.far ?_ NB251_249.out _ | refine IsS140.far ?_ NB251_250.out _ | refine IsS140.far ?_ NB251_260.out _ | refine IsS140.far ?_ NB251_261.out _) | exact HI251.out)) hb); (try clear hb)))
  go_meet
  case rel => exact ⟨_, (!t266), (t263), (t264), (by first | rfl | (simp; done) | (simp [*]; done)), H', ⟨by first | omega | exact Nat.le_refl _⟩, ⟨bk BK248⟩, ⟨bk BK249⟩, ⟨bk BK250⟩, ⟨bk BK260⟩, ⟨bk BK261⟩, ⟨by repeat (first | (with_reducible first | exact HI251.out | apply IsS140.alloc | apply IsS140.drewN | apply IsS140.drew | apply IsS140.set_1 | apply IsS140.set_2 | refine IsS140.far ?_ NB251_248.out _ | refine IsS140.far ?_ NB251_249.out _ | refine IsS140.far ?_ NB251_250.out _ | refine IsS140.far ?_ NB251_260.out _ | refine IsS140.far ?_ NB251_261.out _) | exact HI251.out)⟩, ⟨by repeat (first | (with_reducible first | exact HB.out | apply below_alloc | apply pw_below_drewN | apply below_drew1 | refine below_set ?_ (IsS140.ge HI251.out) | refine below_set ?_ GE248.out | refine below_set ?_ GE249.out | refine below_set ?_ GE250.out | refine below_set ?_ GE260.out | refine below_set ?_ GE261.out) | exact HB.out)⟩⟩
 case rest =>
  clear HC4
  try clear c1
  try clear c2
  try clear p2
  try clear c3
  try clear c4
  try clear c7
  try clear c13
  try clear c14
  try clear c15
  try clear c16
  try clear c17
  try clear c18
  try clear c19
  try clear c20
  try clear c21
  try clear c22
  try clear c25
  try clear c28
  try clear c31
  try clear c32
  try clear c33
  try clear c34
  try clear c35
  try clear c38
  try clear c39
  try clear c40
  try clear c41
  try clear c45
  try clear c46
  try clear c47
  try clear c48
  try clear c49
  try clear hcz18_0
  try clear hcz18_1
  try clear hcz23_0
  try clear hcz23_1
  try clear hcz36_0
  try clear hcz36_1
  try clear hcz42_0
  try clear hcz42_1
  try clear hcz50_0
  try clear hcz50_1
  try clear hfz18_0
  try clear hfz18_1
  try clear hfz23_0
  try clear hfz23_1
  try clear hfz36_0
  try clear hfz36_1
  try clear hfz42_0
  try clear hfz42_1
  try clear hfz50_0
  try clear hfz50_1
  obtain ⟨kq, x30_3, x252001_3, x252002_3, rfl, HA, HJ3, BK248, BK249, BK250, BK260, BK261, HI251, HB⟩ := hcut
  cases kq with
  | zero => exact absurd HA.out (by simp [spec_DrawBlendAmounts.j0])
  | succ kj3 =>
   have H := HA.out
   clear HA
   simp only [spec_DrawBlendAmounts.j0] at H
   by_cases c52 : x30_3 = true
   ·subst c52
    have H1 : ((spec_l1Cur_ratio.f kj3 l0 x252001_3 x252002_3).bind fun bt267 => (some (t252, t253, t256, t257, bt267.1, bt267.2.1))) = some (r1, r2, r3, r4, r5, r6) := by rw [if_pos rfl] at H; exact H
    clear H
    have H := H1
    clear H1
    replace H := Option.bind_eq_some_iff.mp H
    obtain ⟨⟨t267, t268, t269, t270⟩, A530, H⟩ := H
    replace H : (some (t252, t253, t256, t257, t267, t268)) = some (r1, r2, r3, r4, r5, r6) := H
    have A53 := Aside0.mk A530
    clear A530
    simp only [Option.some.injEq, Prod.mk.injEq] at H
    obtain ⟨rfl, rfl, rfl, rfl, rfl, rfl⟩ := H
    try go_wp2
    replace BK248 := Aside0.mk (blk_drew BK248.out)
    replace BK249 := Aside0.mk (blk_drew BK249.out)
    replace BK250 := Aside0.mk (blk_drew BK250.out)
    replace BK260 := Aside0.mk (blk_drew BK260.out)
    replace BK261 := Aside0.mk (blk_drew BK261.out)
    replace HI251 := Aside0.mk (IsS140.drew HI251.out)
    replace HB := Aside0.mk (below_drew1 HB.out)
    refine start_ (n := 7) (S := fun w' => w'.cell? ⟨gb260, 0, none⟩ = some (.int .i64 t252) ∧ w'.cell? ⟨gb260, 1, none⟩ = some (.int .i64 t253) ∧ w'.cell? ⟨gb261, 0, none⟩ = some (.int .i64 t256) ∧ w'.cell? ⟨gb261, 1, none⟩ = some (.int .i64 t257)) (ds := []) (bl 7 0) (by kernel_rfl) rfl rfl ⟨bc0 BK260, bc1 BK260, bc0 BK261, bc1 BK261⟩ (fun hHeld => ?_)
    generalize wc.drew = w54 at BK248 BK249 BK250 BK260 BK261 HI251 HB hHeld ⊢
    refine pure_ (i := 2) (N := some 33) (v := ?_) (a' := ?_) (bl 7 4) rfl rfl (by kernel_rfl) (fun _ _ _ h => h) (Or.inl ⟨by rfl, ?_⟩) ?_ ?_
    rotate_left
    ·intro w'
     go_simp
     with_reducible rfl
    rotate_left
    ·simp only [Act.put, List.setIfInBounds_toArray, List.set_cons_zero, List.set_cons_succ, i64_w, i32_w]
     rfl
    refine take_ (i := 0) (N := some 31) (v := ?_) (a' := ?_) (bl 7 5) rfl rfl (by kernel_rfl) (fun _ _ _ h => h) (Or.inl ⟨by rfl, ?_⟩) hHeld ?_ ?_
    rotate_left
    ·rintro w' ⟨s0, s1, s2, s3⟩
     go_simp
     with_reducible rfl
    rotate_left
    ·simp only [Act.put, List.setIfInBounds_toArray, List.set_cons_zero, List.set_cons_succ, i64_w, i32_w]
     rfl
    refine take_ (i := 1) (N := some 32) (v := ?_) (a' := ?_) (bl 7 7) rfl rfl (by kernel_rfl) (fun _ _ _ h => h) (Or.inl ⟨by rfl, ?_⟩) hHeld ?_ ?_
    rotate_left
    ·rintro w' ⟨s0, s1, s2, s3⟩
     go_simp
     with_reducible rfl
    rotate_left
    ·simp only [Act.put, List.setIfInBounds_toArray, List.set_cons_zero, List.set_cons_succ, i64_w, i32_w]
     rfl
    refine one_ (i := 3) (N := some 34) (bl 7 15) rfl rfl (by kernel_rfl) (by decide) (fun K hK => ?_)
    refine gs Try.func180 #[.pointer (some ⟨gb251, 0, none⟩)] ?_
    with_reducible refine (spec_l1Cur_ratio.calls kj3 gb251 l0 x252001_3 x252002_3 t267 t268 t269 t270 w _ ?side1 ?side2 A53.out).mono ?_
    (case side1 => repeat (first | (with_reducible first | exact HI251.out | apply IsS140.alloc | apply IsS140.drewN | apply IsS140.drew | apply IsS140.set_1 | apply IsS140.set_2 | refine IsS140.far ?_ NB251_248.out _ | refine IsS140.far ?_ NB251_249.out _ | refine IsS140.far ?_ NB251_250.out _ | refine IsS140.far ?_ NB251_260.out _ | refine IsS140.far ?_ NB251_261.out _) | exact HI251.out))
    (case side2 => repeat (first | (with_reducible first | exact HB.out | apply below_alloc | apply pw_below_drewN | apply below_drew1 | refine below_set ?_ (IsS140.ge HI251.out) | refine below_set ?_ GE248.out | refine below_set ?_ GE249.out | refine below_set ?_ GE250.out | refine below_set ?_ GE260.out | refine below_set ?_ GE261.out) | exact HB.out))
    rintro e w55 ⟨rfl, hi, hb, hk⟩
    refine ⟨_, rfl, ?_⟩
    replace BK248 := Aside0.mk (KeepBut.blk hk (g' := gb248) (o := .cells #[.int .i64 0, .int .i64 0] 78 (0, 0)) (bk BK248) NB248_251.out (by simp))
    replace BK249 := Aside0.mk (KeepBut.blk hk (g' := gb249) (o := .cells #[.int .i64 0, .int .i64 0] 78 (0, 0)) (bk BK249) NB249_251.out (by simp))
    replace BK250 := Aside0.mk (KeepBut.blk hk (g' := gb250) (o := .cells #[.int .i64 0, .int .i64 0] 78 (0, 0)) (bk BK250) NB250_251.out (by simp))
    replace BK260 := Aside0.mk (KeepBut.blk hk (g' := gb260) (o := .cells #[.int .i64 t252, .int .i64 t253] 78 (0, 0)) (bk BK260) NB260_251.out (by simp))
    replace BK261 := Aside0.mk (KeepBut.blk hk (g' := gb261) (o := .cells #[.int .i64 t256, .int .i64 t257] 78 (0, 0)) (bk BK261) NB261_251.out (by simp))
    replace HB := Aside0.mk (hb)
    replace HI251 := Aside0.mk (hi)
    (try clear hb)
    (try clear hb2)
    (try clear hk)
    (try clear hi)
    refine hK.out _ _ ⟨bc0 BK260, bc1 BK260, bc0 BK261, bc1 BK261⟩ (fun hHeld => ?_)
    clear hK K
    refine norm_ (a' := ?_) ?_ ?_
    rotate_left
    ·show Act.put _ (some 34) _ = _
     simp only [Act.put, List.setIfInBounds_toArray, List.set_cons_zero, List.set_cons_succ, i64_w, i32_w]
     rfl
    refine one_ (i := 4) (N := none) (bl 7 31) rfl rfl (by kernel_rfl) (by decide) (fun K hK => ?_)
    have hs56 : w55.cell? ⟨gb248, 0, none⟩ = some (.int .i64 0) := bc0 BK248
    have hfs56 := blk_frozen BK248.out 0
    have hns56_1 := NB249_248.out
    have hns56_2 := NB250_248.out
    have hns56_3 := NB260_248.out
    have hns56_4 := NB261_248.out
    have hms56_1 := NB248_249.out
    have hms56_2 := NB248_250.out
    have hms56_3 := NB248_260.out
    have hms56_4 := NB248_261.out
    have hs57 : w55.cell? ⟨gb248, 1, none⟩ = some (.int .i64 0) := bc1 BK248
    have hfs57 := blk_frozen BK248.out 1
    have hns57_1 := NB249_248.out
    have hns57_2 := NB250_248.out
    have hns57_3 := NB260_248.out
    have hns57_4 := NB261_248.out
    have hms57_1 := NB248_249.out
    have hms57_2 := NB248_250.out
    have hms57_3 := NB248_260.out
    have hms57_4 := NB248_261.out
    refine skip_ (w1 := ?_) (by rfl) rfl ?_ ?_
    rotate_left
    ·go_simp
     rfl
    refine hK.out _ _ ⟨((cell_far (p := ⟨gb248, _, none⟩) NB260_248.out _).trans (((cell_far (p := ⟨gb248, _, none⟩) NB260_248.out _).trans (hHeld.1)))), ((cell_far (p := ⟨gb248, _, none⟩) NB260_248.out _).trans (((cell_far (p := ⟨gb248, _, none⟩) NB260_248.out _).trans (hHeld.2.1)))), ((cell_far (p := ⟨gb248, _, none⟩) NB261_248.out _).trans (((cell_far (p := ⟨gb248, _, none⟩) NB261_248.out _).trans (hHeld.2.2.1)))), ((cell_far (p := ⟨gb248, _, none⟩) NB261_248.out _).trans (((cell_far (p := ⟨gb248, _, none⟩) NB261_248.out _).trans (hHeld.2.2.2))))⟩ (fun hHeld => ?_)
    clear hK K
    refine one_ (i := 5) (N := none) (bl 7 63) rfl rfl (by kernel_rfl) (by decide) (fun K hK => ?_)
    have hs58 : w55.cell? ⟨gb249, 0, none⟩ = some (.int .i64 0) := bc0 BK249
    have hfs58 := blk_frozen BK249.out 0
    have hns58_0 := NB248_249.out
    have hns58_2 := NB250_249.out
    have hns58_3 := NB260_249.out
    have hns58_4 := NB261_249.out
    have hms58_0 := NB249_248.out
    have hms58_2 := NB249_250.out
    have hms58_3 := NB249_260.out
    have hms58_4 := NB249_261.out
    have hs59 : w55.cell? ⟨gb249, 1, none⟩ = some (.int .i64 0) := bc1 BK249
    have hfs59 := blk_frozen BK249.out 1
    have hns59_0 := NB248_249.out
    have hns59_2 := NB250_249.out
    have hns59_3 := NB260_249.out
    have hns59_4 := NB261_249.out
    have hms59_0 := NB249_248.out
    have hms59_2 := NB249_250.out
    have hms59_3 := NB249_260.out
    have hms59_4 := NB249_261.out
    refine skip_ (w1 := ?_) (by rfl) rfl ?_ ?_
    rotate_left
    ·go_simp
     rfl
    refine hK.out _ _ ⟨((cell_far (p := ⟨gb249, _, none⟩) NB260_249.out _).trans (((cell_far (p := ⟨gb249, _, none⟩) NB260_249.out _).trans (hHeld.1)))), ((cell_far (p := ⟨gb249, _, none⟩) NB260_249.out _).trans (((cell_far (p := ⟨gb249, _, none⟩) NB260_249.out _).trans (hHeld.2.1)))), ((cell_far (p := ⟨gb249, _, none⟩) NB261_249.out _).trans (((cell_far (p := ⟨gb249, _, none⟩) NB261_249.out _).trans (hHeld.2.2.1)))), ((cell_far (p := ⟨gb249, _, none⟩) NB261_249.out _).trans (((cell_far (p := ⟨gb249, _, none⟩) NB261_249.out _).trans (hHeld.2.2.2))))⟩ (fun hHeld => ?_)
    clear hK K
    refine one_ (i := 6) (N := none) (bl 7 127) rfl rfl (by kernel_rfl) (by decide) (fun K hK => ?_)
    have hs60 : w55.cell? ⟨gb250, 0, none⟩ = some (.int .i64 0) := bc0 BK250
    have hfs60 := blk_frozen BK250.out 0
    have hns60_0 := NB248_250.out
    have hns60_1 := NB249_250.out
    have hns60_3 := NB260_250.out
    have hns60_4 := NB261_250.out
    have hms60_0 := NB250_248.out
    have hms60_1 := NB250_249.out
    have hms60_3 := NB250_260.out
    have hms60_4 := NB250_261.out
    have hs61 : w55.cell? ⟨gb250, 1, none⟩ = some (.int .i64 0) := bc1 BK250
    have hfs61 := blk_frozen BK250.out 1
    have hns61_0 := NB248_250.out
    have hns61_1 := NB249_250.out
    have hns61_3 := NB260_250.out
    have hns61_4 := NB261_250.out
    have hms61_0 := NB250_248.out
    have hms61_1 := NB250_249.out
    have hms61_3 := NB250_260.out
    have hms61_4 := NB250_261.out
    refine skip_ (w1 := ?_) (by rfl) rfl ?_ ?_
    rotate_left
    ·go_simp
     rfl
    refine hK.out _ _ ⟨((cell_far (p := ⟨gb250, _, none⟩) NB260_250.out _).trans (((cell_far (p := ⟨gb250, _, none⟩) NB260_250.out _).trans (hHeld.1)))), ((cell_far (p := ⟨gb250, _, none⟩) NB260_250.out _).trans (((cell_far (p := ⟨gb250, _, none⟩) NB260_250.out _).trans (hHeld.2.1)))), ((cell_far (p := ⟨gb250, _, none⟩) NB261_250.out _).trans (((cell_far (p := ⟨gb250, _, none⟩) NB261_250.out _).trans (hHeld.2.2.1)))), ((cell_far (p := ⟨gb250, _, none⟩) NB261_250.out _).trans (((cell_far (p := ⟨gb250, _, none⟩) NB261_250.out _).trans (hHeld.2.2.2))))⟩ (fun hHeld => ?_)
    clear hK K
    refine done_ (by kernel_rfl) ?_
    try go_wp2
    refine bodyPost_ret (results_list (rs := [.cell 2 78, .cell 3 78, .cell 4 78]) rfl (by simp) (.cell gb248 78 #[.int .i64 t252, .int .i64 t253] (0, 0) _ rfl (by (with_reducible repeat (first | refine blk_drewN ?_ _ | refine blk_drew ?_ | refine blk_alloc ?_ _)); refine blk_far ?_ NB248_250.out _; (with_reducible repeat (first | refine blk_drewN ?_ _ | refine blk_drew ?_ | refine blk_alloc ?_ _)); refine blk_far ?_ NB248_250.out _; (with_reducible repeat (first | refine blk_drewN ?_ _ | refine blk_drew ?_ | refine blk_alloc ?_ _)); refine blk_far ?_ NB248_249.out _; (with_reducible repeat (first | refine blk_drewN ?_ _ | refine blk_drew ?_ | refine blk_alloc ?_ _)); refine blk_far ?_ NB248_249.out _; (with_reducible repeat (first | refine blk_drewN ?_ _ | refine blk_drew ?_ | refine blk_alloc ?_ _)); refine blk_put (cs := #[.int .i64 t252, .int .i64 0]) ?_ 1 _ rfl; (with_reducible repeat (first | refine blk_drewN ?_ _ | refine blk_drew ?_ | refine blk_alloc ?_ _)); refine blk_put (cs := #[.int .i64 0, .int .i64 0]) ?_ 0 _ rfl; exact bk BK248) Try.underlying78 rfl (by kernel_rfl) (.cell gb249 78 #[.int .i64 t256, .int .i64 t257] (0, 0) _ rfl (by (with_reducible repeat (first | refine blk_drewN ?_ _ | refine blk_drew ?_ | refine blk_alloc ?_ _)); refine blk_far ?_ NB249_250.out _; (with_reducible repeat (first | refine blk_drewN ?_ _ | refine blk_drew ?_ | refine blk_alloc ?_ _)); refine blk_far ?_ NB249_250.out _; (with_reducible repeat (first | refine blk_drewN ?_ _ | refine blk_drew ?_ | refine blk_alloc ?_ _)); refine blk_put (cs := #[.int .i64 t256, .int .i64 0]) ?_ 1 _ rfl; (with_reducible repeat (first | refine blk_drewN ?_ _ | refine blk_drew ?_ | refine blk_alloc ?_ _)); refine blk_put (cs := #[.int .i64 0, .int .i64 0]) ?_ 0 _ rfl; exact bk BK249) Try.underlying78 rfl (by kernel_rfl) (.cell gb250 78 #[.int .i64 t267, .int .i64 t268] (0, 0) _ rfl (by (with_reducible repeat (first | refine blk_drewN ?_ _ | refine blk_drew ?_ | refine blk_alloc ?_ _)); refine blk_put (cs := #[.int .i64 t267, .int .i64 0]) ?_ 1 _ rfl; (with_reducible repeat (first | refine blk_drewN ?_ _ | refine blk_drew ?_ | refine blk_alloc ?_ _)); refine blk_put (cs := #[.int .i64 0, .int .i64 0]) ?_ 0 _ rfl; exact bk BK250) Try.underlying78 rfl (by kernel_rfl) .nil)))) rfl ?_
    exact ⟨by first | rfl | (simp [errW_none, errW_some] <;> rfl) | (simp [*, errW_none, errW_some] <;> rfl), by repeat (first | (with_reducible first | exact HB.out | apply below_alloc | apply pw_below_drewN | apply below_drew1 | refine below_set ?_ (IsS140.ge HI251.out) | refine below_set ?_ GE248.out | refine below_set ?_ GE249.out | refine below_set ?_ GE250.out | refine below_set ?_ GE260.out | refine below_set ?_ GE261.out) | exact HB.out)⟩
   replace c52 := Bool.eq_false_iff.mpr c52
   subst c52
   have H1 : ((spec_l1Cur_pick.f l0 x252001_3 x252002_3 4).bind fun bt271 => ((spec_l1Cur_pick.f l0 bt271.2.1 bt271.2.2 4).bind fun bt274 => ((spec_saRatio.f kj3 (wrap64 ((wrap64 ((wrap64 (bt271.1 * t252)) * t257)) + (wrap64 ((wrap64 ((wrap64 (1 + bt274.1)) * t256)) * t253)))) (wrap64 ((wrap64 ((wrap64 (bt271.1 + (wrap64 (1 + bt274.1)))) * t253)) * t257))).bind fun bt277 => (if bt277.2.2 = true then (some (t252, t253, t256, t257, bt277.1, bt277.2.1)) else (some (t252, t253, t256, t257, t252, t253)))))) = some (r1, r2, r3, r4, r5, r6) := by rw [if_neg (show ¬ (false = true) by decide)] at H; exact H
   clear H
   have H := H1
   clear H1
   replace H := Option.bind_eq_some_iff.mp H
   obtain ⟨⟨t271, t272, t273⟩, A620, H⟩ := H
   replace H : ((spec_l1Cur_pick.f l0 t272 t273 4).bind fun bt274 => ((spec_saRatio.f kj3 (wrap64 ((wrap64 ((wrap64 (t271 * t252)) * t257)) + (wrap64 ((wrap64 ((wrap64 (1 + bt274.1)) * t256)) * t253)))) (wrap64 ((wrap64 ((wrap64 (t271 + (wrap64 (1 + bt274.1)))) * t253)) * t257))).bind fun bt277 => (if bt277.2.2 = true then (some (t252, t253, t256, t257, bt277.1, bt277.2.1)) else (some (t252, t253, t256, t257, t252, t253))))) = some (r1, r2, r3, r4, r5, r6) := H
   have A62 := Aside0.mk A620
   clear A620
   replace H := Option.bind_eq_some_iff.mp H
   obtain ⟨⟨t274, t275, t276⟩, A630, H⟩ := H
   replace H : ((spec_saRatio.f kj3 (wrap64 ((wrap64 ((wrap64 (t271 * t252)) * t257)) + (wrap64 ((wrap64 ((wrap64 (1 + t274)) * t256)) * t253)))) (wrap64 ((wrap64 ((wrap64 (t271 + (wrap64 (1 + t274)))) * t253)) * t257))).bind fun bt277 => (if bt277.2.2 = true then (some (t252, t253, t256, t257, bt277.1, bt277.2.1)) else (some (t252, t253, t256, t257, t252, t253)))) = some (r1, r2, r3, r4, r5, r6) := H
   have A63 := Aside0.mk A630
   clear A630
   replace H := Option.bind_eq_some_iff.mp H
   obtain ⟨⟨t277, t278, t279⟩, A640, H⟩ := H
   replace H : (if t279 = true then (some (t252, t253, t256, t257, t277, t278)) else (some (t252, t253, t256, t257, t252, t253))) = some (r1, r2, r3, r4, r5, r6) := H
   have A64 := Aside0.mk A640
   clear A640
   by_cases c65 : t279 = true
   ·subst c65
    have H1 : (some (t252, t253, t256, t257, t277, t278)) = some (r1, r2, r3, r4, r5, r6) := by rw [if_pos rfl] at H; exact H
    clear H
    have H := H1
    clear H1
    simp only [Option.some.injEq, Prod.mk.injEq] at H
    obtain ⟨rfl, rfl, rfl, rfl, rfl, rfl⟩ := H
    try go_wp2_with (first | ((with_reducible refine gate_callee (f := 142) rfl ?_); refine gl 36 Try.func142 #[.pointer (some ⟨gb251, 0, none⟩), .int .i64 4] ?_; (with_reducible refine (spec_l1Cur_pick.calls gb251 l0 x252001_3 x252002_3 4 t271 t272 t273 w _ ?side1 ?side2 A62.out).mono ?_); (case side1 => repeat (first | (with_reducible first | exact HI251.out | apply IsS140.alloc | apply IsS140.drewN | apply IsS140.drew | apply IsS140.set_1 | apply IsS140.set_2 | refine IsS140.far ?_ NB251_248.out _ | refine IsS140.far ?_ NB251_249.out _ | refine IsS140.far ?_ NB251_250.out _ | refine IsS140.far ?_ NB251_260.out _ | refine IsS140.far ?_ NB251_261.out _) | exact HI251.out)); (case side2 => repeat (first | (with_reducible first | exact HB.out | apply below_alloc | apply pw_below_drewN | apply below_drew1 | refine below_set ?_ (IsS140.ge HI251.out) | refine below_set ?_ GE248.out | refine below_set ?_ GE249.out | refine below_set ?_ GE250.out | refine below_set ?_ GE260.out | refine below_set ?_ GE261.out) | exact HB.out)); rintro e w66 ⟨rfl, hi, hb, hk⟩; refine ⟨_, rfl, ?_⟩; replace BK248 := Aside0.mk (KeepBut.blk hk (g' := gb248) (o := .cells #[.int .i64 0, .int .i64 0] 78 (0, 0)) (bk BK248) NB248_251.out (by simp)); replace BK249 := Aside0.mk (KeepBut.blk hk (g' := gb249) (o := .cells #[.int .i64 0, .int .i64 0] 78 (0, 0)) (bk BK249) NB249_251.out (by simp)); replace BK250 := Aside0.mk (KeepBut.blk hk (g' := gb250) (o := .cells #[.int .i64 0, .int .i64 0] 78 (0, 0)) (bk BK250) NB250_251.out (by simp)); replace BK260 := Aside0.mk (KeepBut.blk hk (g' := gb260) (o := .cells #[.int .i64 t252, .int .i64 t253] 78 (0, 0)) (bk BK260) NB260_251.out (by simp)); replace BK261 := Aside0.mk (KeepBut.blk hk (g' := gb261) (o := .cells #[.int .i64 t256, .int .i64 t257] 78 (0, 0)) (bk BK261) NB261_251.out (by simp)); replace HB := Aside0.mk (hb); replace HI251 := Aside0.mk (hi); (try clear hb); (try clear hk); (try clear hi)) | ((with_reducible refine gate_callee (f := 142) rfl ?_); refine gl 38 Try.func142 #[.pointer (some ⟨gb251, 0, none⟩), .int .i64 4] ?_; (with_reducible refine (spec_l1Cur_pick.calls gb251 l0 t272 t273 4 t274 t275 t276 w _ ?side1 ?side2 A63.out).mono ?_); (case side1 => repeat (first | (with_reducible first | exact HI251.out | apply IsS140.alloc | apply IsS140.drewN | apply IsS140.drew | apply IsS140.set_1 | apply IsS140.set_2 | refine IsS140.far ?_ NB251_248.out _ | refine IsS140.far ?_ NB251_249.out _ | refine IsS140.far ?_ NB251_250.out _ | refine IsS140.far ?_ NB251_260.out _ | refine IsS140.far ?_ NB251_261.out _) | exact HI251.out)); (case side2 => repeat (first | (with_reducible first | exact HB.out | apply below_alloc | apply pw_below_drewN | apply below_drew1 | refine below_set ?_ (IsS140.ge HI251.out) | refine below_set ?_ GE248.out | refine below_set ?_ GE249.out | refine below_set ?_ GE250.out | refine below_set ?_ GE260.out | refine below_set ?_ GE261.out) | exact HB.out)); rintro e w67 ⟨rfl, hi, hb, hk⟩; refine ⟨_, rfl, ?_⟩; replace BK248 := Aside0.mk (KeepBut.blk hk (g' := gb248) (o := .cells #[.int .i64 0, .int .i64 0] 78 (0, 0)) (bk BK248) NB248_251.out (by simp)); replace BK249 := Aside0.mk (KeepBut.blk hk (g' := gb249) (o := .cells #[.int .i64 0, .int .i64 0] 78 (0, 0)) (bk BK249) NB249_251.out (by simp)); replace BK250 := Aside0.mk (KeepBut.blk hk (g' := gb250) (o := .cells #[.int .i64 0, .int .i64 0] 78 (0, 0)) (bk BK250) NB250_251.out (by simp)); replace BK260 := Aside0.mk (KeepBut.blk hk (g' := gb260) (o := .cells #[.int .i64 t252, .int .i64 t253] 78 (0, 0)) (bk BK260) NB260_251.out (by simp)); replace BK261 := Aside0.mk (KeepBut.blk hk (g' := gb261) (o := .cells #[.int .i64 t256, .int .i64 t257] 78 (0, 0)) (bk BK261) NB261_251.out (by simp)); replace HB := Aside0.mk (hb); replace HI251 := Aside0.mk (hi); (try clear hb); (try clear hk); (try clear hi); have hnb68 := NB260_248.out; have hnc68 := NB248_260.out; have hnb69 := NB260_249.out; have hnc69 := NB249_260.out; have hnb70 := NB260_250.out; have hnc70 := NB250_260.out; have hnb71 := NB260_261.out; have hnc71 := NB261_260.out; have hnb72 := NB260_251.out; have hnc72 := NB251_260.out; have hcz73_0 := bc0 BK260; have hcz73_1 := bc1 BK260; have hfz73_0 := blk_frozen BK260.out 0; have hfz73_1 := blk_frozen BK260.out 1; have hnb74 := NB261_248.out; have hnc74 := NB248_261.out; have hnb75 := NB261_249.out; have hnc75 := NB249_261.out; have hnb76 := NB261_250.out; have hnc76 := NB250_261.out; have hnb77 := NB261_251.out; have hnc77 := NB251_261.out; have hcz78_0 := bc0 BK261; have hcz78_1 := bc1 BK261; have hfz78_0 := blk_frozen BK261.out 0; have hfz78_1 := blk_frozen BK261.out 1) | ((with_reducible refine gate_callee (f := 179) rfl ?_); refine gl 65 Try.func179 #[.int .i64 (wrap64 ((wrap64 ((wrap64 (t271 * t252)) * t257)) + (wrap64 ((wrap64 ((wrap64 (1 + t274)) * t256)) * t253)))), .int .i64 (wrap64 ((wrap64 ((wrap64 (t271 + (wrap64 (1 + t274)))) * t253)) * t257))] ?_; (with_reducible refine (spec_saRatio.calls kj3 (wrap64 ((wrap64 ((wrap64 (t271 * t252)) * t257)) + (wrap64 ((wrap64 ((wrap64 (1 + t274)) * t256)) * t253)))) (wrap64 ((wrap64 ((wrap64 (t271 + (wrap64 (1 + t274)))) * t253)) * t257)) t277 t278 true _ A64.out).mono ?_); rintro e w79 ⟨rfl, hb⟩; refine ⟨_, rfl, ?_⟩; replace BK248 := bb BK248 hb; replace BK249 := bb BK249 hb; replace BK250 := bb BK250 hb; replace BK260 := bb BK260 hb; replace BK261 := bb BK261 hb; replace HB := Aside0.mk (below_step (by repeat (first | (with_reducible first | exact HB.out | apply below_alloc | apply pw_below_drewN | apply below_drew1 | refine below_set ?_ (IsS140.ge HI251.out) | refine below_set ?_ GE248.out | refine below_set ?_ GE249.out | refine below_set ?_ GE250.out | refine below_set ?_ GE260.out | refine below_set ?_ GE261.out) | exact HB.out)) hb); replace HI251 := Aside0.mk (IsS140.below (by repeat (first | (with_reducible first | exact HI251.out | apply IsS140.alloc | apply IsS140.drewN | apply IsS140.drew | apply IsS140.set_1 | apply IsS140.set_2 | refine IsS140.far ?_ NB251_248.out _ | refine IsS140.far ?_ NB251_249.out _ | refine IsS140.far ?_ NB251_250.out _ | refine IsS140.far ?_ NB251_260.out _ | refine IsS140.far ?_ NB251_261.out _) | exact HI251.out)) hb); (try clear hb)) | ((with_reducible refine gate_dst (N := 10) rfl ?_); refine bx 10 #[.int .i64 0, .int .i64 0] 78 ?_; intro gb280 hg w80 hbox hb; have BK280 := Aside0.mk (hbox); have GW280 := Aside0.mk ((by rw [hg]; exact (below_size (by repeat (first | (with_reducible first | exact HB.out | apply below_alloc | apply pw_below_drewN | apply below_drew1 | refine below_set ?_ (IsS140.ge HI251.out) | refine below_set ?_ GE248.out | refine below_set ?_ GE249.out | refine below_set ?_ GE250.out | refine below_set ?_ GE260.out | refine below_set ?_ GE261.out) | exact HB.out))) : w.heap.size ≤ gb280)); have GE280 := Aside0.mk ((by rw [hg]; exact (below_size (by repeat (first | (with_reducible first | exact HB.out | apply below_alloc | apply pw_below_drewN | apply below_drew1 | refine below_set ?_ (IsS140.ge HI251.out) | refine below_set ?_ GE248.out | refine below_set ?_ GE249.out | refine below_set ?_ GE250.out | refine below_set ?_ GE260.out | refine below_set ?_ GE261.out) | exact HB.out))) : w.heap.size ≤ gb280)); replace HB := Aside0.mk (below_step (by repeat (first | (with_reducible first | exact HB.out | apply below_alloc | apply pw_below_drewN | apply below_drew1 | refine below_set ?_ (IsS140.ge HI251.out) | refine below_set ?_ GE248.out | refine below_set ?_ GE249.out | refine below_set ?_ GE250.out | refine below_set ?_ GE260.out | refine below_set ?_ GE261.out) | exact HB.out)) hb); have NB248_280 := nl BK248 hg; have NB280_248 := nr BK248 hg; replace BK248 := bb BK248 hb; have NB249_280 := nl BK249 hg; have NB280_249 := nr BK249 hg; replace BK249 := bb BK249 hb; have NB250_280 := nl BK250 hg; have NB280_250 := nr BK250 hg; replace BK250 := bb BK250 hb; have NB260_280 := nl BK260 hg; have NB280_260 := nr BK260 hg; replace BK260 := bb BK260 hb; have NB261_280 := nl BK261 hg; have NB280_261 := nr BK261 hg; replace BK261 := bb BK261 hb; have NB251_280 := Aside0.mk ((by rw [hg]; exact Nat.ne_of_lt (IsS140.lt (show IsS140 w _ gb251 l0 t275 t276 from by repeat (first | (with_reducible first | exact HI251.out | apply IsS140.alloc | apply IsS140.drewN | apply IsS140.drew | apply IsS140.set_1 | apply IsS140.set_2 | refine IsS140.far ?_ NB251_248.out _ | refine IsS140.far ?_ NB251_249.out _ | refine IsS140.far ?_ NB251_250.out _ | refine IsS140.far ?_ NB251_260.out _ | refine IsS140.far ?_ NB251_261.out _) | exact HI251.out))) : gb251 ≠ gb280)); have NB280_251 := Aside0.mk ((by rw [hg]; exact Nat.ne_of_gt (IsS140.lt (show IsS140 w _ gb251 l0 t275 t276 from by repeat (first | (with_reducible first | exact HI251.out | apply IsS140.alloc | apply IsS140.drewN | apply IsS140.drew | apply IsS140.set_1 | apply IsS140.set_2 | refine IsS140.far ?_ NB251_248.out _ | refine IsS140.far ?_ NB251_249.out _ | refine IsS140.far ?_ NB251_250.out _ | refine IsS140.far ?_ NB251_260.out _ | refine IsS140.far ?_ NB251_261.out _) | exact HI251.out))) : gb280 ≠ gb251)); replace HI251 := Aside0.mk (IsS140.below (by repeat (first | (with_reducible first | exact HI251.out | apply IsS140.alloc | apply IsS140.drewN | apply IsS140.drew | apply IsS140.set_1 | apply IsS140.set_2 | refine IsS140.far ?_ NB251_248.out _ | refine IsS140.far ?_ NB251_249.out _ | refine IsS140.far ?_ NB251_250.out _ | refine IsS140.far ?_ NB251_260.out _ | refine IsS140.far ?_ NB251_261.out _) | exact HI251.out)) hb); clear hb hbox hg; have hnb81 := NB280_248.out; have hnc81 := NB248_280.out; have hnb82 := NB280_249.out; have hnc82 := NB249_280.out; have hnb83 := NB280_250.out; have hnc83 := NB250_280.out; have hnb84 := NB280_260.out; have hnc84 := NB260_280.out; have hnb85 := NB280_261.out; have hnc85 := NB261_280.out; have hnb86 := NB280_251.out; have hnc86 := NB251_280.out; have hcz87_0 := bc0 BK280; have hcz87_1 := bc1 BK280; have hfz87_0 := blk_frozen BK280.out 0; have hfz87_1 := blk_frozen BK280.out 1))
    have n0_ : Aside0 (((w80.setCell ⟨gb280, 0, none⟩ (.int .i64 t277)).setCell ⟨gb280, 1, none⟩ (.int .i64 t278)).heap[gb248]? = some (.cells #[.int .i64 0, .int .i64 0] 78 (0, 0))) := ⟨bk BK248⟩
    have n1_ : Aside0 (((w80.setCell ⟨gb280, 0, none⟩ (.int .i64 t277)).setCell ⟨gb280, 1, none⟩ (.int .i64 t278)).heap[gb249]? = some (.cells #[.int .i64 0, .int .i64 0] 78 (0, 0))) := ⟨bk BK249⟩
    have n2_ : Aside0 (((w80.setCell ⟨gb280, 0, none⟩ (.int .i64 t277)).setCell ⟨gb280, 1, none⟩ (.int .i64 t278)).heap[gb250]? = some (.cells #[.int .i64 0, .int .i64 0] 78 (0, 0))) := ⟨bk BK250⟩
    have n3_ : Aside0 (((w80.setCell ⟨gb280, 0, none⟩ (.int .i64 t277)).setCell ⟨gb280, 1, none⟩ (.int .i64 t278)).heap[gb260]? = some (.cells #[.int .i64 t252, .int .i64 t253] 78 (0, 0))) := ⟨bk BK260⟩
    have n4_ : Aside0 (((w80.setCell ⟨gb280, 0, none⟩ (.int .i64 t277)).setCell ⟨gb280, 1, none⟩ (.int .i64 t278)).heap[gb261]? = some (.cells #[.int .i64 t256, .int .i64 t257] 78 (0, 0))) := ⟨bk BK261⟩
    have n5_ : Aside0 (((w80.setCell ⟨gb280, 0, none⟩ (.int .i64 t277)).setCell ⟨gb280, 1, none⟩ (.int .i64 t278)).heap[gb280]? = some (.cells #[.int .i64 t277, .int .i64 t278] 78 (0, 0))) := ⟨by (with_reducible repeat (first | refine blk_drewN ?_ _ | refine blk_drew ?_ | refine blk_alloc ?_ _)); refine blk_put (cs := #[.int .i64 t277, .int .i64 0]) ?_ 1 _ rfl; (with_reducible repeat (first | refine blk_drewN ?_ _ | refine blk_drew ?_ | refine blk_alloc ?_ _)); refine blk_put (cs := #[.int .i64 0, .int .i64 0]) ?_ 0 _ rfl; exact bk BK280⟩
    have n6_ : Aside0 (IsS140 w ((w80.setCell ⟨gb280, 0, none⟩ (.int .i64 t277)).setCell ⟨gb280, 1, none⟩ (.int .i64 t278)) gb251 l0 t275 t276) := ⟨by repeat (first | (with_reducible first | exact HI251.out | apply IsS140.alloc | apply IsS140.drewN | apply IsS140.drew | apply IsS140.set_1 | apply IsS140.set_2 | refine IsS140.far ?_ NB251_248.out _ | refine IsS140.far ?_ NB251_249.out _ | refine IsS140.far ?_ NB251_250.out _ | refine IsS140.far ?_ NB251_260.out _ | refine IsS140.far ?_ NB251_261.out _ | refine IsS140.far ?_ NB251_280.out _) | exact HI251.out)⟩
    have n7_ : Aside0 (Below w.heap.size w ((w80.setCell ⟨gb280, 0, none⟩ (.int .i64 t277)).setCell ⟨gb280, 1, none⟩ (.int .i64 t278))) := ⟨by repeat (first | (with_reducible first | exact HB.out | apply below_alloc | apply pw_below_drewN | apply below_drew1 | refine below_set ?_ (IsS140.ge HI251.out) | refine below_set ?_ GE248.out | refine below_set ?_ GE249.out | refine below_set ?_ GE250.out | refine below_set ?_ GE260.out | refine below_set ?_ GE261.out | refine below_set ?_ GE280.out) | exact HB.out)⟩
    (try clear BK248)
    (try clear BK249)
    (try clear BK250)
    (try clear BK260)
    (try clear BK261)
    (try clear BK280)
    (try clear HI251)
    (try clear HB)
    generalize ((w80.setCell ⟨gb280, 0, none⟩ (.int .i64 t277)).setCell ⟨gb280, 1, none⟩ (.int .i64 t278)) = w88 at n0_ n1_ n2_ n3_ n4_ n5_ n6_ n7_ ⊢
    have BK248 := n0_
    have BK249 := n1_
    have BK250 := n2_
    have BK260 := n3_
    have BK261 := n4_
    have BK280 := n5_
    have HI251 := n6_
    have HB := n7_
    clear n0_ n1_ n2_ n3_ n4_ n5_ n6_ n7_
    replace BK248 := Aside0.mk (blk_drew BK248.out)
    replace BK249 := Aside0.mk (blk_drew BK249.out)
    replace BK250 := Aside0.mk (blk_drew BK250.out)
    replace BK260 := Aside0.mk (blk_drew BK260.out)
    replace BK261 := Aside0.mk (blk_drew BK261.out)
    replace BK280 := Aside0.mk (blk_drew BK280.out)
    replace HI251 := Aside0.mk (IsS140.drew HI251.out)
    replace HB := Aside0.mk (below_drew1 HB.out)
    refine start_ (n := 6) (S := fun w' => w'.cell? ⟨gb260, 0, none⟩ = some (.int .i64 t252) ∧ w'.cell? ⟨gb260, 1, none⟩ = some (.int .i64 t253) ∧ w'.cell? ⟨gb261, 0, none⟩ = some (.int .i64 t256) ∧ w'.cell? ⟨gb261, 1, none⟩ = some (.int .i64 t257) ∧ w'.cell? ⟨gb280, 0, none⟩ = some (.int .i64 t277) ∧ w'.cell? ⟨gb280, 1, none⟩ = some (.int .i64 t278)) (ds := []) (bl 6 0) (by kernel_rfl) rfl rfl ⟨bc0 BK260, bc1 BK260, bc0 BK261, bc1 BK261, bc0 BK280, bc1 BK280⟩ (fun hHeld => ?_)
    generalize w88.drew = w89 at BK248 BK249 BK250 BK260 BK261 BK280 HI251 HB hHeld ⊢
    refine take_ (i := 0) (N := some 73) (v := ?_) (a' := ?_) (bl 6 1) rfl rfl (by kernel_rfl) (fun _ _ _ h => h) (Or.inl ⟨by rfl, ?_⟩) hHeld ?_ ?_
    rotate_left
    ·rintro w' ⟨s0, s1, s2, s3, s4, s5⟩
     go_simp
     with_reducible rfl
    rotate_left
    ·simp only [Act.put, List.setIfInBounds_toArray, List.set_cons_zero, List.set_cons_succ, i64_w, i32_w]
     rfl
    refine take_ (i := 1) (N := some 74) (v := ?_) (a' := ?_) (bl 6 3) rfl rfl (by kernel_rfl) (fun _ _ _ h => h) (Or.inl ⟨by rfl, ?_⟩) hHeld ?_ ?_
    rotate_left
    ·rintro w' ⟨s0, s1, s2, s3, s4, s5⟩
     go_simp
     with_reducible rfl
    rotate_left
    ·simp only [Act.put, List.setIfInBounds_toArray, List.set_cons_zero, List.set_cons_succ, i64_w, i32_w]
     rfl
    refine take_ (i := 2) (N := some 75) (v := ?_) (a' := ?_) (bl 6 7) rfl rfl (by kernel_rfl) (fun _ _ _ h => h) (Or.inl ⟨by rfl, ?_⟩) hHeld ?_ ?_
    rotate_left
    ·rintro w' ⟨s0, s1, s2, s3, s4, s5⟩
     go_simp
     with_reducible rfl
    rotate_left
    ·simp only [Act.put, List.setIfInBounds_toArray, List.set_cons_zero, List.set_cons_succ, i64_w, i32_w]
     rfl
    refine one_ (i := 3) (N := none) (bl 6 15) rfl rfl (by kernel_rfl) (by decide) (fun K hK => ?_)
    have hs90 : w89.cell? ⟨gb248, 0, none⟩ = some (.int .i64 0) := bc0 BK248
    have hfs90 := blk_frozen BK248.out 0
    have hns90_1 := NB249_248.out
    have hns90_2 := NB250_248.out
    have hns90_3 := NB260_248.out
    have hns90_4 := NB261_248.out
    have hns90_5 := NB280_248.out
    have hms90_1 := NB248_249.out
    have hms90_2 := NB248_250.out
    have hms90_3 := NB248_260.out
    have hms90_4 := NB248_261.out
    have hms90_5 := NB248_280.out
    have hs91 : w89.cell? ⟨gb248, 1, none⟩ = some (.int .i64 0) := bc1 BK248
    have hfs91 := blk_frozen BK248.out 1
    have hns91_1 := NB249_248.out
    have hns91_2 := NB250_248.out
    have hns91_3 := NB260_248.out
    have hns91_4 := NB261_248.out
    have hns91_5 := NB280_248.out
    have hms91_1 := NB248_249.out
    have hms91_2 := NB248_250.out
    have hms91_3 := NB248_260.out
    have hms91_4 := NB248_261.out
    have hms91_5 := NB248_280.out
    refine skip_ (w1 := ?_) (by rfl) rfl ?_ ?_
    rotate_left
    ·go_simp
     rfl
    refine hK.out _ _ ⟨((cell_far (p := ⟨gb248, _, none⟩) NB260_248.out _).trans (((cell_far (p := ⟨gb248, _, none⟩) NB260_248.out _).trans (hHeld.1)))), ((cell_far (p := ⟨gb248, _, none⟩) NB260_248.out _).trans (((cell_far (p := ⟨gb248, _, none⟩) NB260_248.out _).trans (hHeld.2.1)))), ((cell_far (p := ⟨gb248, _, none⟩) NB261_248.out _).trans (((cell_far (p := ⟨gb248, _, none⟩) NB261_248.out _).trans (hHeld.2.2.1)))), ((cell_far (p := ⟨gb248, _, none⟩) NB261_248.out _).trans (((cell_far (p := ⟨gb248, _, none⟩) NB261_248.out _).trans (hHeld.2.2.2.1)))), ((cell_far (p := ⟨gb248, _, none⟩) NB280_248.out _).trans (((cell_far (p := ⟨gb248, _, none⟩) NB280_248.out _).trans (hHeld.2.2.2.2.1)))), ((cell_far (p := ⟨gb248, _, none⟩) NB280_248.out _).trans (((cell_far (p := ⟨gb248, _, none⟩) NB280_248.out _).trans (hHeld.2.2.2.2.2))))⟩ (fun hHeld => ?_)
    clear hK K
    refine one_ (i := 4) (N := none) (bl 6 31) rfl rfl (by kernel_rfl) (by decide) (fun K hK => ?_)
    have hs92 : w89.cell? ⟨gb249, 0, none⟩ = some (.int .i64 0) := bc0 BK249
    have hfs92 := blk_frozen BK249.out 0
    have hns92_0 := NB248_249.out
    have hns92_2 := NB250_249.out
    have hns92_3 := NB260_249.out
    have hns92_4 := NB261_249.out
    have hns92_5 := NB280_249.out
    have hms92_0 := NB249_248.out
    have hms92_2 := NB249_250.out
    have hms92_3 := NB249_260.out
    have hms92_4 := NB249_261.out
    have hms92_5 := NB249_280.out
    have hs93 : w89.cell? ⟨gb249, 1, none⟩ = some (.int .i64 0) := bc1 BK249
    have hfs93 := blk_frozen BK249.out 1
    have hns93_0 := NB248_249.out
    have hns93_2 := NB250_249.out
    have hns93_3 := NB260_249.out
    have hns93_4 := NB261_249.out
    have hns93_5 := NB280_249.out
    have hms93_0 := NB249_248.out
    have hms93_2 := NB249_250.out
    have hms93_3 := NB249_260.out
    have hms93_4 := NB249_261.out
    have hms93_5 := NB249_280.out
    refine skip_ (w1 := ?_) (by rfl) rfl ?_ ?_
    rotate_left
    ·go_simp
     rfl
    refine hK.out _ _ ⟨((cell_far (p := ⟨gb249, _, none⟩) NB260_249.out _).trans (((cell_far (p := ⟨gb249, _, none⟩) NB260_249.out _).trans (hHeld.1)))), ((cell_far (p := ⟨gb249, _, none⟩) NB260_249.out _).trans (((cell_far (p := ⟨gb249, _, none⟩) NB260_249.out _).trans (hHeld.2.1)))), ((cell_far (p := ⟨gb249, _, none⟩) NB261_249.out _).trans (((cell_far (p := ⟨gb249, _, none⟩) NB261_249.out _).trans (hHeld.2.2.1)))), ((cell_far (p := ⟨gb249, _, none⟩) NB261_249.out _).trans (((cell_far (p := ⟨gb249, _, none⟩) NB261_249.out _).trans (hHeld.2.2.2.1)))), ((cell_far (p := ⟨gb249, _, none⟩) NB280_249.out _).trans (((cell_far (p := ⟨gb249, _, none⟩) NB280_249.out _).trans (hHeld.2.2.2.2.1)))), ((cell_far (p := ⟨gb249, _, none⟩) NB280_249.out _).trans (((cell_far (p := ⟨gb249, _, none⟩) NB280_249.out _).trans (hHeld.2.2.2.2.2))))⟩ (fun hHeld => ?_)
    clear hK K
    refine one_ (i := 5) (N := none) (bl 6 63) rfl rfl (by kernel_rfl) (by decide) (fun K hK => ?_)
    have hs94 : w89.cell? ⟨gb250, 0, none⟩ = some (.int .i64 0) := bc0 BK250
    have hfs94 := blk_frozen BK250.out 0
    have hns94_0 := NB248_250.out
    have hns94_1 := NB249_250.out
    have hns94_3 := NB260_250.out
    have hns94_4 := NB261_250.out
    have hns94_5 := NB280_250.out
    have hms94_0 := NB250_248.out
    have hms94_1 := NB250_249.out
    have hms94_3 := NB250_260.out
    have hms94_4 := NB250_261.out
    have hms94_5 := NB250_280.out
    have hs95 : w89.cell? ⟨gb250, 1, none⟩ = some (.int .i64 0) := bc1 BK250
    have hfs95 := blk_frozen BK250.out 1
    have hns95_0 := NB248_250.out
    have hns95_1 := NB249_250.out
    have hns95_3 := NB260_250.out
    have hns95_4 := NB261_250.out
    have hns95_5 := NB280_250.out
    have hms95_0 := NB250_248.out
    have hms95_1 := NB250_249.out
    have hms95_3 := NB250_260.out
    have hms95_4 := NB250_261.out
    have hms95_5 := NB250_280.out
    refine skip_ (w1 := ?_) (by rfl) rfl ?_ ?_
    rotate_left
    ·go_simp
     rfl
    refine hK.out _ _ ⟨((cell_far (p := ⟨gb250, _, none⟩) NB260_250.out _).trans (((cell_far (p := ⟨gb250, _, none⟩) NB260_250.out _).trans (hHeld.1)))), ((cell_far (p := ⟨gb250, _, none⟩) NB260_250.out _).trans (((cell_far (p := ⟨gb250, _, none⟩) NB260_250.out _).trans (hHeld.2.1)))), ((cell_far (p := ⟨gb250, _, none⟩) NB261_250.out _).trans (((cell_far (p := ⟨gb250, _, none⟩) NB261_250.out _).trans (hHeld.2.2.1)))), ((cell_far (p := ⟨gb250, _, none⟩) NB261_250.out _).trans (((cell_far (p := ⟨gb250, _, none⟩) NB261_250.out _).trans (hHeld.2.2.2.1)))), ((cell_far (p := ⟨gb250, _, none⟩) NB280_250.out _).trans (((cell_far (p := ⟨gb250, _, none⟩) NB280_250.out _).trans (hHeld.2.2.2.2.1)))), ((cell_far (p := ⟨gb250, _, none⟩) NB280_250.out _).trans (((cell_far (p := ⟨gb250, _, none⟩) NB280_250.out _).trans (hHeld.2.2.2.2.2))))⟩ (fun hHeld => ?_)
    clear hK K
    refine done_ (by kernel_rfl) ?_
    try go_wp2
    refine bodyPost_ret (results_list (rs := [.cell 2 78, .cell 3 78, .cell 4 78]) rfl (by simp) (.cell gb248 78 #[.int .i64 t252, .int .i64 t253] (0, 0) _ rfl (by (with_reducible repeat (first | refine blk_drewN ?_ _ | refine blk_drew ?_ | refine blk_alloc ?_ _)); refine blk_far ?_ NB248_250.out _; (with_reducible repeat (first | refine blk_drewN ?_ _ | refine blk_drew ?_ | refine blk_alloc ?_ _)); refine blk_far ?_ NB248_250.out _; (with_reducible repeat (first | refine blk_drewN ?_ _ | refine blk_drew ?_ | refine blk_alloc ?_ _)); refine blk_far ?_ NB248_249.out _; (with_reducible repeat (first | refine blk_drewN ?_ _ | refine blk_drew ?_ | refine blk_alloc ?_ _)); refine blk_far ?_ NB248_249.out _; (with_reducible repeat (first | refine blk_drewN ?_ _ | refine blk_drew ?_ | refine blk_alloc ?_ _)); refine blk_put (cs := #[.int .i64 t252, .int .i64 0]) ?_ 1 _ rfl; (with_reducible repeat (first | refine blk_drewN ?_ _ | refine blk_drew ?_ | refine blk_alloc ?_ _)); refine blk_put (cs := #[.int .i64 0, .int .i64 0]) ?_ 0 _ rfl; exact bk BK248) Try.underlying78 rfl (by kernel_rfl) (.cell gb249 78 #[.int .i64 t256, .int .i64 t257] (0, 0) _ rfl (by (with_reducible repeat (first | refine blk_drewN ?_ _ | refine blk_drew ?_ | refine blk_alloc ?_ _)); refine blk_far ?_ NB249_250.out _; (with_reducible repeat (first | refine blk_drewN ?_ _ | refine blk_drew ?_ | refine blk_alloc ?_ _)); refine blk_far ?_ NB249_250.out _; (with_reducible repeat (first | refine blk_drewN ?_ _ | refine blk_drew ?_ | refine blk_alloc ?_ _)); refine blk_put (cs := #[.int .i64 t256, .int .i64 0]) ?_ 1 _ rfl; (with_reducible repeat (first | refine blk_drewN ?_ _ | refine blk_drew ?_ | refine blk_alloc ?_ _)); refine blk_put (cs := #[.int .i64 0, .int .i64 0]) ?_ 0 _ rfl; exact bk BK249) Try.underlying78 rfl (by kernel_rfl) (.cell gb250 78 #[.int .i64 t277, .int .i64 t278] (0, 0) _ rfl (by (with_reducible repeat (first | refine blk_drewN ?_ _ | refine blk_drew ?_ | refine blk_alloc ?_ _)); refine blk_put (cs := #[.int .i64 t277, .int .i64 0]) ?_ 1 _ rfl; (with_reducible repeat (first | refine blk_drewN ?_ _ | refine blk_drew ?_ | refine blk_alloc ?_ _)); refine blk_put (cs := #[.int .i64 0, .int .i64 0]) ?_ 0 _ rfl; exact bk BK250) Try.underlying78 rfl (by kernel_rfl) .nil)))) rfl ?_
    exact ⟨by first | rfl | (simp [errW_none, errW_some] <;> rfl) | (simp [*, errW_none, errW_some] <;> rfl), by repeat (first | (with_reducible first | exact HB.out | apply below_alloc | apply pw_below_drewN | apply below_drew1 | refine below_set ?_ (IsS140.ge HI251.out) | refine below_set ?_ GE248.out | refine below_set ?_ GE249.out | refine below_set ?_ GE250.out | refine below_set ?_ GE260.out | refine below_set ?_ GE261.out | refine below_set ?_ GE280.out) | exact HB.out)⟩
   replace c65 := Bool.eq_false_iff.mpr c65
   subst c65
   have H1 : (some (t252, t253, t256, t257, t252, t253)) = some (r1, r2, r3, r4, r5, r6) := by rw [if_neg (show ¬ (false = true) by decide)] at H; exact H
   clear H
   have H := H1
   clear H1
   simp only [Option.some.injEq, Prod.mk.injEq] at H
   obtain ⟨rfl, rfl, rfl, rfl, rfl, rfl⟩ := H
   try go_wp2_with (first | ((with_reducible refine gate_callee (f := 142) rfl ?_); refine gl 36 Try.func142 #[.pointer (some ⟨gb251, 0, none⟩), .int .i64 4] ?_; (with_reducible refine (spec_l1Cur_pick.calls gb251 l0 x252001_3 x252002_3 4 t271 t272 t273 w _ ?side1 ?side2 A62.out).mono ?_); (case side1 => repeat (first | (with_reducible first | exact HI251.out | apply IsS140.alloc | apply IsS140.drewN | apply IsS140.drew | apply IsS140.set_1 | apply IsS140.set_2 | refine IsS140.far ?_ NB251_248.out _ | refine IsS140.far ?_ NB251_249.out _ | refine IsS140.far ?_ NB251_250.out _ | refine IsS140.far ?_ NB251_260.out _ | refine IsS140.far ?_ NB251_261.out _) | exact HI251.out)); (case side2 => repeat (first | (with_reducible first | exact HB.out | apply below_alloc | apply pw_below_drewN | apply below_drew1 | refine below_set ?_ (IsS140.ge HI251.out) | refine below_set ?_ GE248.out | refine below_set ?_ GE249.out | refine below_set ?_ GE250.out | refine below_set ?_ GE260.out | refine below_set ?_ GE261.out) | exact HB.out)); rintro e w96 ⟨rfl, hi, hb, hk⟩; refine ⟨_, rfl, ?_⟩; replace BK248 := Aside0.mk (KeepBut.blk hk (g' := gb248) (o := .cells #[.int .i64 0, .int .i64 0] 78 (0, 0)) (bk BK248) NB248_251.out (by simp)); replace BK249 := Aside0.mk (KeepBut.blk hk (g' := gb249) (o := .cells #[.int .i64 0, .int .i64 0] 78 (0, 0)) (bk BK249) NB249_251.out (by simp)); replace BK250 := Aside0.mk (KeepBut.blk hk (g' := gb250) (o := .cells #[.int .i64 0, .int .i64 0] 78 (0, 0)) (bk BK250) NB250_251.out (by simp)); replace BK260 := Aside0.mk (KeepBut.blk hk (g' := gb260) (o := .cells #[.int .i64 t252, .int .i64 t253] 78 (0, 0)) (bk BK260) NB260_251.out (by simp)); replace BK261 := Aside0.mk (KeepBut.blk hk (g' := gb261) (o := .cells #[.int .i64 t256, .int .i64 t257] 78 (0, 0)) (bk BK261) NB261_251.out (by simp)); replace HB := Aside0.mk (hb); replace HI251 := Aside0.mk (hi); (try clear hb); (try clear hk); (try clear hi)) | ((with_reducible refine gate_callee (f := 142) rfl ?_); refine gl 38 Try.func142 #[.pointer (some ⟨gb251, 0, none⟩), .int .i64 4] ?_; (with_reducible refine (spec_l1Cur_pick.calls gb251 l0 t272 t273 4 t274 t275 t276 w _ ?side1 ?side2 A63.out).mono ?_); (case side1 => repeat (first | (with_reducible first | exact HI251.out | apply IsS140.alloc | apply IsS140.drewN | apply IsS140.drew | apply IsS140.set_1 | apply IsS140.set_2 | refine IsS140.far ?_ NB251_248.out _ | refine IsS140.far ?_ NB251_249.out _ | refine IsS140.far ?_ NB251_250.out _ | refine IsS140.far ?_ NB251_260.out _ | refine IsS140.far ?_ NB251_261.out _) | exact HI251.out)); (case side2 => repeat (first | (with_reducible first | exact HB.out | apply below_alloc | apply pw_below_drewN | apply below_drew1 | refine below_set ?_ (IsS140.ge HI251.out) | refine below_set ?_ GE248.out | refine below_set ?_ GE249.out | refine below_set ?_ GE250.out | refine below_set ?_ GE260.out | refine below_set ?_ GE261.out) | exact HB.out)); rintro e w97 ⟨rfl, hi, hb, hk⟩; refine ⟨_, rfl, ?_⟩; replace BK248 := Aside0.mk (KeepBut.blk hk (g' := gb248) (o := .cells #[.int .i64 0, .int .i64 0] 78 (0, 0)) (bk BK248) NB248_251.out (by simp)); replace BK249 := Aside0.mk (KeepBut.blk hk (g' := gb249) (o := .cells #[.int .i64 0, .int .i64 0] 78 (0, 0)) (bk BK249) NB249_251.out (by simp)); replace BK250 := Aside0.mk (KeepBut.blk hk (g' := gb250) (o := .cells #[.int .i64 0, .int .i64 0] 78 (0, 0)) (bk BK250) NB250_251.out (by simp)); replace BK260 := Aside0.mk (KeepBut.blk hk (g' := gb260) (o := .cells #[.int .i64 t252, .int .i64 t253] 78 (0, 0)) (bk BK260) NB260_251.out (by simp)); replace BK261 := Aside0.mk (KeepBut.blk hk (g' := gb261) (o := .cells #[.int .i64 t256, .int .i64 t257] 78 (0, 0)) (bk BK261) NB261_251.out (by simp)); replace HB := Aside0.mk (hb); replace HI251 := Aside0.mk (hi); (try clear hb); (try clear hk); (try clear hi); have hnb98 := NB260_248.out; have hnc98 := NB248_260.out; have hnb99 := NB260_249.out; have hnc99 := NB249_260.out; have hnb100 := NB260_250.out; have hnc100 := NB250_260.out; have hnb101 := NB260_261.out; have hnc101 := NB261_260.out; have hnb102 := NB260_251.out; have hnc102 := NB251_260.out; have hcz103_0 := bc0 BK260; have hcz103_1 := bc1 BK260; have hfz103_0 := blk_frozen BK260.out 0; have hfz103_1 := blk_frozen BK260.out 1; have hnb104 := NB261_248.out; have hnc104 := NB248_261.out; have hnb105 := NB261_249.out; have hnc105 := NB249_261.out; have hnb106 := NB261_250.out; have hnc106 := NB250_261.out; have hnb107 := NB261_251.out; have hnc107 := NB251_261.out; have hcz108_0 := bc0 BK261; have hcz108_1 := bc1 BK261; have hfz108_0 := blk_frozen BK261.out 0; have hfz108_1 := blk_frozen BK261.out 1) | ((with_reducible refine gate_callee (f := 179) rfl ?_); refine gl 65 Try.func179 #[.int .i64 (wrap64 ((wrap64 ((wrap64 (t271 * t252)) * t257)) + (wrap64 ((wrap64 ((wrap64 (1 + t274)) * t256)) * t253)))), .int .i64 (wrap64 ((wrap64 ((wrap64 (t271 + (wrap64 (1 + t274)))) * t253)) * t257))] ?_; (with_reducible refine (spec_saRatio.calls kj3 (wrap64 ((wrap64 ((wrap64 (t271 * t252)) * t257)) + (wrap64 ((wrap64 ((wrap64 (1 + t274)) * t256)) * t253)))) (wrap64 ((wrap64 ((wrap64 (t271 + (wrap64 (1 + t274)))) * t253)) * t257)) t277 t278 false _ A64.out).mono ?_); rintro e w109 ⟨rfl, hb⟩; refine ⟨_, rfl, ?_⟩; replace BK248 := bb BK248 hb; replace BK249 := bb BK249 hb; replace BK250 := bb BK250 hb; replace BK260 := bb BK260 hb; replace BK261 := bb BK261 hb; replace HB := Aside0.mk (below_step (by repeat (first | (with_reducible first | exact HB.out | apply below_alloc | apply pw_below_drewN | apply below_drew1 | refine below_set ?_ (IsS140.ge HI251.out) | refine below_set ?_ GE248.out | refine below_set ?_ GE249.out | refine below_set ?_ GE250.out | refine below_set ?_ GE260.out | refine below_set ?_ GE261.out) | exact HB.out)) hb); replace HI251 := Aside0.mk (IsS140.below (by repeat (first | (with_reducible first | exact HI251.out | apply IsS140.alloc | apply IsS140.drewN | apply IsS140.drew | apply IsS140.set_1 | apply IsS140.set_2 | refine IsS140.far ?_ NB251_248.out _ | refine IsS140.far ?_ NB251_249.out _ | refine IsS140.far ?_ NB251_250.out _ | refine IsS140.far ?_ NB251_260.out _ | refine IsS140.far ?_ NB251_261.out _) | exact HI251.out)) hb); (try clear hb)) | ((with_reducible refine gate_dst (N := 10) rfl ?_); refine bx 10 #[.int .i64 0, .int .i64 0] 78 ?_; intro gb280 hg w110 hbox hb; have BK280 := Aside0.mk (hbox); have GW280 := Aside0.mk ((by rw [hg]; exact (below_size (by repeat (first | (with_reducible first | exact HB.out | apply below_alloc | apply pw_below_drewN | apply below_drew1 | refine below_set ?_ (IsS140.ge HI251.out) | refine below_set ?_ GE248.out | refine below_set ?_ GE249.out | refine below_set ?_ GE250.out | refine below_set ?_ GE260.out | refine below_set ?_ GE261.out) | exact HB.out))) : w.heap.size ≤ gb280)); have GE280 := Aside0.mk ((by rw [hg]; exact (below_size (by repeat (first | (with_reducible first | exact HB.out | apply below_alloc | apply pw_below_drewN | apply below_drew1 | refine below_set ?_ (IsS140.ge HI251.out) | refine below_set ?_ GE248.out | refine below_set ?_ GE249.out | refine below_set ?_ GE250.out | refine below_set ?_ GE260.out | refine below_set ?_ GE261.out) | exact HB.out))) : w.heap.size ≤ gb280)); replace HB := Aside0.mk (below_step (by repeat (first | (with_reducible first | exact HB.out | apply below_alloc | apply pw_below_drewN | apply below_drew1 | refine below_set ?_ (IsS140.ge HI251.out) | refine below_set ?_ GE248.out | refine below_set ?_ GE249.out | refine below_set ?_ GE250.out | refine below_set ?_ GE260.out | refine below_set ?_ GE261.out) | exact HB.out)) hb); have NB248_280 := nl BK248 hg; have NB280_248 := nr BK248 hg; replace BK248 := bb BK248 hb; have NB249_280 := nl BK249 hg; have NB280_249 := nr BK249 hg; replace BK249 := bb BK249 hb; have NB250_280 := nl BK250 hg; have NB280_250 := nr BK250 hg; replace BK250 := bb BK250 hb; have NB260_280 := nl BK260 hg; have NB280_260 := nr BK260 hg; replace BK260 := bb BK260 hb; have NB261_280 := nl BK261 hg; have NB280_261 := nr BK261 hg; replace BK261 := bb BK261 hb; have NB251_280 := Aside0.mk ((by rw [hg]; exact Nat.ne_of_lt (IsS140.lt (show IsS140 w _ gb251 l0 t275 t276 from by repeat (first | (with_reducible first | exact HI251.out | apply IsS140.alloc | apply IsS140.drewN | apply IsS140.drew | apply IsS140.set_1 | apply IsS140.set_2 | refine IsS140.far ?_ NB251_248.out _ | refine IsS140.far ?_ NB251_249.out _ | refine IsS140.far ?_ NB251_250.out _ | refine IsS140.far ?_ NB251_260.out _ | refine IsS140.far ?_ NB251_261.out _) | exact HI251.out))) : gb251 ≠ gb280)); have NB280_251 := Aside0.mk ((by rw [hg]; exact Nat.ne_of_gt (IsS140.lt (show IsS140 w _ gb251 l0 t275 t276 from by repeat (first | (with_reducible first | exact HI251.out | apply IsS140.alloc | apply IsS140.drewN | apply IsS140.drew | apply IsS140.set_1 | apply IsS140.set_2 | refine IsS140.far ?_ NB251_248.out _ | refine IsS140.far ?_ NB251_249.out _ | refine IsS140.far ?_ NB251_250.out _ | refine IsS140.far ?_ NB251_260.out _ | refine IsS140.far ?_ NB251_261.out _) | exact HI251.out))) : gb280 ≠ gb251)); replace HI251 := Aside0.mk (IsS140.below (by repeat (first | (with_reducible first | exact HI251.out | apply IsS140.alloc | apply IsS140.drewN | apply IsS140.drew | apply IsS140.set_1 | apply IsS140.set_2 | refine IsS140.far ?_ NB251_248.out _ | refine IsS140.far ?_ NB251_249.out _ | refine IsS140.far ?_ NB251_250.out _ | refine IsS140.far ?_ NB251_260.out _ | refine IsS140.far ?_ NB251_261.out _) | exact HI251.out)) hb); clear hb hbox hg; have hnb111 := NB280_248.out; have hnc111 := NB248_280.out; have hnb112 := NB280_249.out; have hnc112 := NB249_280.out; have hnb113 := NB280_250.out; have hnc113 := NB250_280.out; have hnb114 := NB280_260.out; have hnc114 := NB260_280.out; have hnb115 := NB280_261.out; have hnc115 := NB261_280.out; have hnb116 := NB280_251.out; have hnc116 := NB251_280.out; have hcz117_0 := bc0 BK280; have hcz117_1 := bc1 BK280; have hfz117_0 := blk_frozen BK280.out 0; have hfz117_1 := blk_frozen BK280.out 1))
   have n0_ : Aside0 (((w110.setCell ⟨gb280, 0, none⟩ (.int .i64 t277)).setCell ⟨gb280, 1, none⟩ (.int .i64 t278)).heap[gb248]? = some (.cells #[.int .i64 0, .int .i64 0] 78 (0, 0))) := ⟨bk BK248⟩
   have n1_ : Aside0 (((w110.setCell ⟨gb280, 0, none⟩ (.int .i64 t277)).setCell ⟨gb280, 1, none⟩ (.int .i64 t278)).heap[gb249]? = some (.cells #[.int .i64 0, .int .i64 0] 78 (0, 0))) := ⟨bk BK249⟩
   have n2_ : Aside0 (((w110.setCell ⟨gb280, 0, none⟩ (.int .i64 t277)).setCell ⟨gb280, 1, none⟩ (.int .i64 t278)).heap[gb250]? = some (.cells #[.int .i64 0, .int .i64 0] 78 (0, 0))) := ⟨bk BK250⟩
   have n3_ : Aside0 (((w110.setCell ⟨gb280, 0, none⟩ (.int .i64 t277)).setCell ⟨gb280, 1, none⟩ (.int .i64 t278)).heap[gb260]? = some (.cells #[.int .i64 t252, .int .i64 t253] 78 (0, 0))) := ⟨bk BK260⟩
   have n4_ : Aside0 (((w110.setCell ⟨gb280, 0, none⟩ (.int .i64 t277)).setCell ⟨gb280, 1, none⟩ (.int .i64 t278)).heap[gb261]? = some (.cells #[.int .i64 t256, .int .i64 t257] 78 (0, 0))) := ⟨bk BK261⟩
   have n5_ : Aside0 (((w110.setCell ⟨gb280, 0, none⟩ (.int .i64 t277)).setCell ⟨gb280, 1, none⟩ (.int .i64 t278)).heap[gb280]? = some (.cells #[.int .i64 t277, .int .i64 t278] 78 (0, 0))) := ⟨by (with_reducible repeat (first | refine blk_drewN ?_ _ | refine blk_drew ?_ | refine blk_alloc ?_ _)); refine blk_put (cs := #[.int .i64 t277, .int .i64 0]) ?_ 1 _ rfl; (with_reducible repeat (first | refine blk_drewN ?_ _ | refine blk_drew ?_ | refine blk_alloc ?_ _)); refine blk_put (cs := #[.int .i64 0, .int .i64 0]) ?_ 0 _ rfl; exact bk BK280⟩
   have n6_ : Aside0 (IsS140 w ((w110.setCell ⟨gb280, 0, none⟩ (.int .i64 t277)).setCell ⟨gb280, 1, none⟩ (.int .i64 t278)) gb251 l0 t275 t276) := ⟨by repeat (first | (with_reducible first | exact HI251.out | apply IsS140.alloc | apply IsS140.drewN | apply IsS140.drew | apply IsS140.set_1 | apply IsS140.set_2 | refine IsS140.far ?_ NB251_248.out _ | refine IsS140.far ?_ NB251_249.out _ | refine IsS140.far ?_ NB251_250.out _ | refine IsS140.far ?_ NB251_260.out _ | refine IsS140.far ?_ NB251_261.out _ | refine IsS140.far ?_ NB251_280.out _) | exact HI251.out)⟩
   have n7_ : Aside0 (Below w.heap.size w ((w110.setCell ⟨gb280, 0, none⟩ (.int .i64 t277)).setCell ⟨gb280, 1, none⟩ (.int .i64 t278))) := ⟨by repeat (first | (with_reducible first | exact HB.out | apply below_alloc | apply pw_below_drewN | apply below_drew1 | refine below_set ?_ (IsS140.ge HI251.out) | refine below_set ?_ GE248.out | refine below_set ?_ GE249.out | refine below_set ?_ GE250.out | refine below_set ?_ GE260.out | refine below_set ?_ GE261.out | refine below_set ?_ GE280.out) | exact HB.out)⟩
   (try clear BK248)
   (try clear BK249)
   (try clear BK250)
   (try clear BK260)
   (try clear BK261)
   (try clear BK280)
   (try clear HI251)
   (try clear HB)
   generalize ((w110.setCell ⟨gb280, 0, none⟩ (.int .i64 t277)).setCell ⟨gb280, 1, none⟩ (.int .i64 t278)) = w118 at n0_ n1_ n2_ n3_ n4_ n5_ n6_ n7_ ⊢
   have BK248 := n0_
   have BK249 := n1_
   have BK250 := n2_
   have BK260 := n3_
   have BK261 := n4_
   have BK280 := n5_
   have HI251 := n6_
   have HB := n7_
   clear n0_ n1_ n2_ n3_ n4_ n5_ n6_ n7_
   replace BK248 := Aside0.mk (blk_drew BK248.out)
   replace BK249 := Aside0.mk (blk_drew BK249.out)
   replace BK250 := Aside0.mk (blk_drew BK250.out)
   replace BK260 := Aside0.mk (blk_drew BK260.out)
   replace BK261 := Aside0.mk (blk_drew BK261.out)
   replace BK280 := Aside0.mk (blk_drew BK280.out)
   replace HI251 := Aside0.mk (IsS140.drew HI251.out)
   replace HB := Aside0.mk (below_drew1 HB.out)
   refine start_ (n := 6) (S := fun w' => w'.cell? ⟨gb260, 0, none⟩ = some (.int .i64 t252) ∧ w'.cell? ⟨gb260, 1, none⟩ = some (.int .i64 t253) ∧ w'.cell? ⟨gb261, 0, none⟩ = some (.int .i64 t256) ∧ w'.cell? ⟨gb261, 1, none⟩ = some (.int .i64 t257)) (ds := []) (bl 6 0) (by kernel_rfl) rfl rfl ⟨bc0 BK260, bc1 BK260, bc0 BK261, bc1 BK261⟩ (fun hHeld => ?_)
   generalize w118.drew = w119 at BK248 BK249 BK250 BK260 BK261 BK280 HI251 HB hHeld ⊢
   refine take_ (i := 0) (N := some 70) (v := ?_) (a' := ?_) (bl 6 1) rfl rfl (by kernel_rfl) (fun _ _ _ h => h) (Or.inl ⟨by rfl, ?_⟩) hHeld ?_ ?_
   rotate_left
   ·rintro w' ⟨s0, s1, s2, s3⟩
    go_simp
    with_reducible rfl
   rotate_left
   ·simp only [Act.put, List.setIfInBounds_toArray, List.set_cons_zero, List.set_cons_succ, i64_w, i32_w]
    rfl
   refine take_ (i := 1) (N := some 71) (v := ?_) (a' := ?_) (bl 6 3) rfl rfl (by kernel_rfl) (fun _ _ _ h => h) (Or.inl ⟨by rfl, ?_⟩) hHeld ?_ ?_
   rotate_left
   ·rintro w' ⟨s0, s1, s2, s3⟩
    go_simp
    with_reducible rfl
   rotate_left
   ·simp only [Act.put, List.setIfInBounds_toArray, List.set_cons_zero, List.set_cons_succ, i64_w, i32_w]
    rfl
   refine take_ (i := 2) (N := some 72) (v := ?_) (a' := ?_) (bl 6 7) rfl rfl (by kernel_rfl) (fun _ _ _ h => h) (Or.inl ⟨by rfl, ?_⟩) hHeld ?_ ?_
   rotate_left
   ·rintro w' ⟨s0, s1, s2, s3⟩
    go_simp
    with_reducible rfl
   rotate_left
   ·simp only [Act.put, List.setIfInBounds_toArray, List.set_cons_zero, List.set_cons_succ, i64_w, i32_w]
    rfl
   refine one_ (i := 3) (N := none) (bl 6 15) rfl rfl (by kernel_rfl) (by decide) (fun K hK => ?_)
   have hs120 : w119.cell? ⟨gb248, 0, none⟩ = some (.int .i64 0) := bc0 BK248
   have hfs120 := blk_frozen BK248.out 0
   have hns120_1 := NB249_248.out
   have hns120_2 := NB250_248.out
   have hns120_3 := NB260_248.out
   have hns120_4 := NB261_248.out
   have hns120_5 := NB280_248.out
   have hms120_1 := NB248_249.out
   have hms120_2 := NB248_250.out
   have hms120_3 := NB248_260.out
   have hms120_4 := NB248_261.out
   have hms120_5 := NB248_280.out
   have hs121 : w119.cell? ⟨gb248, 1, none⟩ = some (.int .i64 0) := bc1 BK248
   have hfs121 := blk_frozen BK248.out 1
   have hns121_1 := NB249_248.out
   have hns121_2 := NB250_248.out
   have hns121_3 := NB260_248.out
   have hns121_4 := NB261_248.out
   have hns121_5 := NB280_248.out
   have hms121_1 := NB248_249.out
   have hms121_2 := NB248_250.out
   have hms121_3 := NB248_260.out
   have hms121_4 := NB248_261.out
   have hms121_5 := NB248_280.out
   refine skip_ (w1 := ?_) (by rfl) rfl ?_ ?_
   rotate_left
   ·go_simp
    rfl
   refine hK.out _ _ ⟨((cell_far (p := ⟨gb248, _, none⟩) NB260_248.out _).trans (((cell_far (p := ⟨gb248, _, none⟩) NB260_248.out _).trans (hHeld.1)))), ((cell_far (p := ⟨gb248, _, none⟩) NB260_248.out _).trans (((cell_far (p := ⟨gb248, _, none⟩) NB260_248.out _).trans (hHeld.2.1)))), ((cell_far (p := ⟨gb248, _, none⟩) NB261_248.out _).trans (((cell_far (p := ⟨gb248, _, none⟩) NB261_248.out _).trans (hHeld.2.2.1)))), ((cell_far (p := ⟨gb248, _, none⟩) NB261_248.out _).trans (((cell_far (p := ⟨gb248, _, none⟩) NB261_248.out _).trans (hHeld.2.2.2))))⟩ (fun hHeld => ?_)
   clear hK K
   refine one_ (i := 4) (N := none) (bl 6 31) rfl rfl (by kernel_rfl) (by decide) (fun K hK => ?_)
   have hs122 : w119.cell? ⟨gb249, 0, none⟩ = some (.int .i64 0) := bc0 BK249
   have hfs122 := blk_frozen BK249.out 0
   have hns122_0 := NB248_249.out
   have hns122_2 := NB250_249.out
   have hns122_3 := NB260_249.out
   have hns122_4 := NB261_249.out
   have hns122_5 := NB280_249.out
   have hms122_0 := NB249_248.out
   have hms122_2 := NB249_250.out
   have hms122_3 := NB249_260.out
   have hms122_4 := NB249_261.out
   have hms122_5 := NB249_280.out
   have hs123 : w119.cell? ⟨gb249, 1, none⟩ = some (.int .i64 0) := bc1 BK249
   have hfs123 := blk_frozen BK249.out 1
   have hns123_0 := NB248_249.out
   have hns123_2 := NB250_249.out
   have hns123_3 := NB260_249.out
   have hns123_4 := NB261_249.out
   have hns123_5 := NB280_249.out
   have hms123_0 := NB249_248.out
   have hms123_2 := NB249_250.out
   have hms123_3 := NB249_260.out
   have hms123_4 := NB249_261.out
   have hms123_5 := NB249_280.out
   refine skip_ (w1 := ?_) (by rfl) rfl ?_ ?_
   rotate_left
   ·go_simp
    rfl
   refine hK.out _ _ ⟨((cell_far (p := ⟨gb249, _, none⟩) NB260_249.out _).trans (((cell_far (p := ⟨gb249, _, none⟩) NB260_249.out _).trans (hHeld.1)))), ((cell_far (p := ⟨gb249, _, none⟩) NB260_249.out _).trans (((cell_far (p := ⟨gb249, _, none⟩) NB260_249.out _).trans (hHeld.2.1)))), ((cell_far (p := ⟨gb249, _, none⟩) NB261_249.out _).trans (((cell_far (p := ⟨gb249, _, none⟩) NB261_249.out _).trans (hHeld.2.2.1)))), ((cell_far (p := ⟨gb249, _, none⟩) NB261_249.out _).trans (((cell_far (p := ⟨gb249, _, none⟩) NB261_249.out _).trans (hHeld.2.2.2))))⟩ (fun hHeld => ?_)
   clear hK K
   refine one_ (i := 5) (N := none) (bl 6 63) rfl rfl (by kernel_rfl) (by decide) (fun K hK => ?_)
   have hs124 : w119.cell? ⟨gb250, 0, none⟩ = some (.int .i64 0) := bc0 BK250
   have hfs124 := blk_frozen BK250.out 0
   have hns124_0 := NB248_250.out
   have hns124_1 := NB249_250.out
   have hns124_3 := NB260_250.out
   have hns124_4 := NB261_250.out
   have hns124_5 := NB280_250.out
   have hms124_0 := NB250_248.out
   have hms124_1 := NB250_249.out
   have hms124_3 := NB250_260.out
   have hms124_4 := NB250_261.out
   have hms124_5 := NB250_280.out
   have hs125 : w119.cell? ⟨gb250, 1, none⟩ = some (.int .i64 0) := bc1 BK250
   have hfs125 := blk_frozen BK250.out 1
   have hns125_0 := NB248_250.out
   have hns125_1 := NB249_250.out
   have hns125_3 := NB260_250.out
   have hns125_4 := NB261_250.out
   have hns125_5 := NB280_250.out
   have hms125_0 := NB250_248.out
   have hms125_1 := NB250_249.out
   have hms125_3 := NB250_260.out
   have hms125_4 := NB250_261.out
   have hms125_5 := NB250_280.out
   refine skip_ (w1 := ?_) (by rfl) rfl ?_ ?_
   rotate_left
   ·go_simp
    rfl
   refine hK.out _ _ ⟨((cell_far (p := ⟨gb250, _, none⟩) NB260_250.out _).trans (((cell_far (p := ⟨gb250, _, none⟩) NB260_250.out _).trans (hHeld.1)))), ((cell_far (p := ⟨gb250, _, none⟩) NB260_250.out _).trans (((cell_far (p := ⟨gb250, _, none⟩) NB260_250.out _).trans (hHeld.2.1)))), ((cell_far (p := ⟨gb250, _, none⟩) NB261_250.out _).trans (((cell_far (p := ⟨gb250, _, none⟩) NB261_250.out _).trans (hHeld.2.2.1)))), ((cell_far (p := ⟨gb250, _, none⟩) NB261_250.out _).trans (((cell_far (p := ⟨gb250, _, none⟩) NB261_250.out _).trans (hHeld.2.2.2))))⟩ (fun hHeld => ?_)
   clear hK K
   refine done_ (by kernel_rfl) ?_
   try go_wp2
   refine bodyPost_ret (results_list (rs := [.cell 2 78, .cell 3 78, .cell 4 78]) rfl (by simp) (.cell gb248 78 #[.int .i64 t252, .int .i64 t253] (0, 0) _ rfl (by (with_reducible repeat (first | refine blk_drewN ?_ _ | refine blk_drew ?_ | refine blk_alloc ?_ _)); refine blk_far ?_ NB248_250.out _; (with_reducible repeat (first | refine blk_drewN ?_ _ | refine blk_drew ?_ | refine blk_alloc ?_ _)); refine blk_far ?_ NB248_250.out _; (with_reducible repeat (first | refine blk_drewN ?_ _ | refine blk_drew ?_ | refine blk_alloc ?_ _)); refine blk_far ?_ NB248_249.out _; (with_reducible repeat (first | refine blk_drewN ?_ _ | refine blk_drew ?_ | refine blk_alloc ?_ _)); refine blk_far ?_ NB248_249.out _; (with_reducible repeat (first | refine blk_drewN ?_ _ | refine blk_drew ?_ | refine blk_alloc ?_ _)); refine blk_put (cs := #[.int .i64 t252, .int .i64 0]) ?_ 1 _ rfl; (with_reducible repeat (first | refine blk_drewN ?_ _ | refine blk_drew ?_ | refine blk_alloc ?_ _)); refine blk_put (cs := #[.int .i64 0, .int .i64 0]) ?_ 0 _ rfl; exact bk BK248) Try.underlying78 rfl (by kernel_rfl) (.cell gb249 78 #[.int .i64 t256, .int .i64 t257] (0, 0) _ rfl (by (with_reducible repeat (first | refine blk_drewN ?_ _ | refine blk_drew ?_ | refine blk_alloc ?_ _)); refine blk_far ?_ NB249_250.out _; (with_reducible repeat (first | refine blk_drewN ?_ _ | refine blk_drew ?_ | refine blk_alloc ?_ _)); refine blk_far ?_ NB249_250.out _; (with_reducible repeat (first | refine blk_drewN ?_ _ | refine blk_drew ?_ | refine blk_alloc ?_ _)); refine blk_put (cs := #[.int .i64 t256, .int .i64 0]) ?_ 1 _ rfl; (with_reducible repeat (first | refine blk_drewN ?_ _ | refine blk_drew ?_ | refine blk_alloc ?_ _)); refine blk_put (cs := #[.int .i64 0, .int .i64 0]) ?_ 0 _ rfl; exact bk BK249) Try.underlying78 rfl (by kernel_rfl) (.cell gb250 78 #[.int .i64 t252, .int .i64 t253] (0, 0) _ rfl (by (with_reducible repeat (first | refine blk_drewN ?_ _ | refine blk_drew ?_ | refine blk_alloc ?_ _)); refine blk_put (cs := #[.int .i64 t252, .int .i64 0]) ?_ 1 _ rfl; (with_reducible repeat (first | refine blk_drewN ?_ _ | refine blk_drew ?_ | refine blk_alloc ?_ _)); refine blk_put (cs := #[.int .i64 0, .int .i64 0]) ?_ 0 _ rfl; exact bk BK250) Try.underlying78 rfl (by kernel_rfl) .nil)))) rfl ?_
   exact ⟨by first | rfl | (simp [errW_none, errW_some] <;> rfl) | (simp [*, errW_none, errW_some] <;> rfl), by repeat (first | (with_reducible first | exact HB.out | apply below_alloc | apply pw_below_drewN | apply below_drew1 | refine below_set ?_ (IsS140.ge HI251.out) | refine below_set ?_ GE248.out | refine below_set ?_ GE249.out | refine below_set ?_ GE250.out | refine below_set ?_ GE260.out | refine below_set ?_ GE261.out | refine below_set ?_ GE280.out) | exact HB.out)⟩

/-! ### impl_product: function 185 -/
def impl_product.f (a0 : Int) (a1 : Int) : Option (Int × Bool) := if a0 > 1000000000 then (some (0, false)) else (if a1 > 1000000000 then (some (0, false)) else (if (wrap64 (a0 * a1)) > 1000000000 then (some (0, false)) else (some (wrap64 (a0 * a1), true))))
set_option maxHeartbeats 8000000 in
set_option maxRecDepth 100000 in
theorem impl_product.calls (a0 : Int) (a1 : Int) (r1 : Int) (r2 : Bool) (w : World) (h : impl_product.f a0 a1 = some (r1, r2)) :
  Calls Try.prog 185 #[.int .i64 a0, .int .i64 a1] w fun e w' => e = .returned (.tuple #[.int .i64 r1, .bool r2]) ∧ Drawn0 w w' := by
 have H : (if a0 > 1000000000 then (some (0, false)) else (if a1 > 1000000000 then (some (0, false)) else (if (wrap64 (a0 * a1)) > 1000000000 then (some (0, false)) else (some (wrap64 (a0 * a1), true))))) = some (r1, r2) := h
 clear h
 by_cases c3 : a0 > 1000000000
 ·rw [if_pos c3] at H
  have c3b0 : decide (1000000000 < a0) = true := decide_eq_true c3
  clear c3
  simp only [Option.some.injEq, Prod.mk.injEq] at H
  obtain ⟨rfl, rfl⟩ := H
  go_enter Try.func185, Try.ntmps185
  go_wp2
  go_ret2
  exact ⟨by first | rfl | (simp; done) | (simp [*]; done), by repeat (first | exact Drawn0.refl _ | apply Drawn0.step)⟩
 rw [if_neg c3] at H
 have c3b0 : decide (1000000000 < a0) = false := decide_eq_false c3
 clear c3
 by_cases c4 : a1 > 1000000000
 ·rw [if_pos c4] at H
  have c4b0 : decide (1000000000 < a1) = true := decide_eq_true c4
  clear c4
  simp only [Option.some.injEq, Prod.mk.injEq] at H
  obtain ⟨rfl, rfl⟩ := H
  go_enter Try.func185, Try.ntmps185
  go_wp2
  go_ret2
  exact ⟨by first | rfl | (simp; done) | (simp [*]; done), by repeat (first | exact Drawn0.refl _ | apply Drawn0.step)⟩
 rw [if_neg c4] at H
 have c4b0 : decide (1000000000 < a1) = false := decide_eq_false c4
 clear c4
 by_cases c5 : (wrap64 (a0 * a1)) > 1000000000
 rotate_left
 ·rw [if_neg c5] at H
  have c5b0 : decide (1000000000 < (wrap64 (a0 * a1))) = false := decide_eq_false c5
  clear c5
  simp only [Option.some.injEq, Prod.mk.injEq] at H
  obtain ⟨rfl, rfl⟩ := H
  go_enter Try.func185, Try.ntmps185
  go_wp2
  go_ret2
  exact ⟨by first | rfl | (simp; done) | (simp [*]; done), by repeat (first | exact Drawn0.refl _ | apply Drawn0.step)⟩
 rw [if_pos c5] at H
 have c5b0 : decide (1000000000 < (wrap64 (a0 * a1))) = true := decide_eq_true c5
 clear c5
 simp only [Option.some.injEq, Prod.mk.injEq] at H
 obtain ⟨rfl, rfl⟩ := H
 go_enter Try.func185, Try.ntmps185
 go_wp2
 go_ret2
 exact ⟨by first | rfl | (simp; done) | (simp [*]; done), by repeat (first | exact Drawn0.refl _ | apply Drawn0.step)⟩

/-! ### impl_BlendAmounts: function 77 -/
def impl_BlendAmounts.j0 : Nat → Bool → Int → Int → Int → Int → Int → Int → Option (Int × Int × Bool)
 | 0, _, _, _, _, _, _, _ => none
 | k + 1, x31, x282000, x282001, x283000, x283001, x284000, x284001 => if x31 = true then (some (0, 0, false)) else (if (wrap64 ((wrap64 (x282000 * x284001)) - (wrap64 (x284000 * x282001)))) = 0 then (some (1, 0, true)) else (if (wrap64 ((wrap64 (x284000 * x283001)) - (wrap64 (x283000 * x284001)))) = 0 then (some (0, 1, true)) else (if ((decide ((wrap64 ((wrap64 (x284000 * x283001)) - (wrap64 (x283000 * x284001)))) < 0)) != (decide ((wrap64 ((wrap64 (x282000 * x284001)) - (wrap64 (x284000 * x282001)))) < 0))) = true then (some (0, 0, false)) else ((impl_gcd.f k (mx (wrap64 ((wrap64 (x284000 * x283001)) - (wrap64 (x283000 * x284001)))) (wrap64 (-(wrap64 ((wrap64 (x284000 * x283001)) - (wrap64 (x283000 * x284001))))))) (mx (wrap64 ((wrap64 (x282000 * x284001)) - (wrap64 (x284000 * x282001)))) (wrap64 (-(wrap64 ((wrap64 (x282000 * x284001)) - (wrap64 (x284000 * x282001)))))))).bind fun t287 => ((impl_gcd.f k x282001 x283001).bind fun t288 => (if t287 = 0 then (none) else (if t288 = 0 then (none) else ((impl_gcd.f k (wrap64 (Int.tdiv (mx (wrap64 ((wrap64 (x284000 * x283001)) - (wrap64 (x283000 * x284001)))) (wrap64 (-(wrap64 ((wrap64 (x284000 * x283001)) - (wrap64 (x283000 * x284001))))))) t287)) (wrap64 (Int.tdiv x283001 t288))).bind fun t289 => ((impl_gcd.f k (wrap64 (Int.tdiv (mx (wrap64 ((wrap64 (x282000 * x284001)) - (wrap64 (x284000 * x282001)))) (wrap64 (-(wrap64 ((wrap64 (x282000 * x284001)) - (wrap64 (x284000 * x282001))))))) t287)) (wrap64 (Int.tdiv x282001 t288))).bind fun t290 => (if t289 = 0 then (none) else (if t290 = 0 then (none) else ((impl_product.f (wrap64 (Int.tdiv (wrap64 (Int.tdiv (mx (wrap64 ((wrap64 (x284000 * x283001)) - (wrap64 (x283000 * x284001)))) (wrap64 (-(wrap64 ((wrap64 (x284000 * x283001)) - (wrap64 (x283000 * x284001))))))) t287)) t289)) (wrap64 (Int.tdiv (wrap64 (Int.tdiv x282001 t288)) t290))).bind fun bt291 => ((impl_product.f (wrap64 (Int.tdiv (wrap64 (Int.tdiv (mx (wrap64 ((wrap64 (x282000 * x284001)) - (wrap64 (x284000 * x282001)))) (wrap64 (-(wrap64 ((wrap64 (x282000 * x284001)) - (wrap64 (x284000 * x282001))))))) t287)) t290)) (wrap64 (Int.tdiv (wrap64 (Int.tdiv x283001 t288)) t289))).bind fun bt293 => (if bt291.2 = true then (if bt293.2 = true then (some (bt291.1, bt293.1, true)) else (some (0, 0, false))) else (some (0, 0, false))))))))))))))))
def impl_BlendAmounts.f (k : Nat) (a0_0 : Int) (a0_1 : Int) (a1_0 : Int) (a1_1 : Int) (a2_0 : Int) (a2_1 : Int) : Option (Int × Int × Bool) := (impl_IsRatio.f k a0_0 a0_1).bind fun t284 => (if t284 = true then ((impl_IsRatio.f k a1_0 a1_1).bind fun t285 => (if t285 = true then ((impl_IsRatio.f k a2_0 a2_1).bind fun t286 => (impl_BlendAmounts.j0 k (!t286) a0_0 a0_1 a1_0 a1_1 a2_0 a2_1)) else (impl_BlendAmounts.j0 k true a0_0 a0_1 a1_0 a1_1 a2_0 a2_1))) else (impl_BlendAmounts.j0 k true a0_0 a0_1 a1_0 a1_1 a2_0 a2_1))
theorem impl_BlendAmounts.mono_l : ∀ k, (∀ y0 y1 y2 y3 y4 y5 y6, LeO (impl_BlendAmounts.j0 k y0 y1 y2 y3 y4 y5 y6) (impl_BlendAmounts.j0 (k + 1) y0 y1 y2 y3 y4 y5 y6))
 | 0 => fun _ _ _ _ _ _ _ r h => by simp [impl_BlendAmounts.j0] at h
 | k + 1 => by
  have ih0 := impl_BlendAmounts.mono_l k
  ·intro y0 y1 y2 y3 y4 y5 y6
   unfold impl_BlendAmounts.j0
   repeat' first
   | (with_reducible exact ih0 _ _ _ _ _ _ _)
   | (with_reducible exact impl_IsRatio.mono _ _ _)
   | (with_reducible exact impl_gcd.mono _ _ _)
   | (with_reducible exact LeO.refl _)
   | (with_reducible exact LeO.none _)
   | (with_reducible refine LeO.ite ?_ ?_)
   | (with_reducible refine LeO.bind ?_ (fun _ => ?_))
   | exact ih0 _ _ _ _ _ _ _
   | exact impl_IsRatio.mono _ _ _
   | exact impl_gcd.mono _ _ _
   | exact LeO.none _
   | refine LeO.ite ?_ ?_
   | refine LeO.bind ?_ (fun _ => ?_)
theorem impl_BlendAmounts.mono : ∀ a0 a1 a2 a3 a4 a5 k, LeO (impl_BlendAmounts.f k a0 a1 a2 a3 a4 a5) (impl_BlendAmounts.f (k + 1) a0 a1 a2 a3 a4 a5) := by
 intro a0 a1 a2 a3 a4 a5 k
 have ih0 := impl_BlendAmounts.mono_l k
 unfold impl_BlendAmounts.f
 repeat' first
   | (with_reducible exact ih0 _ _ _ _ _ _ _)
   | (with_reducible exact impl_IsRatio.mono _ _ _)
   | (with_reducible exact impl_gcd.mono _ _ _)
   | (with_reducible exact LeO.refl _)
   | (with_reducible exact LeO.none _)
   | (with_reducible refine LeO.ite ?_ ?_)
   | (with_reducible refine LeO.bind ?_ (fun _ => ?_))
   | exact ih0 _ _ _ _ _ _ _
   | exact impl_IsRatio.mono _ _ _
   | exact impl_gcd.mono _ _ _
   | exact LeO.none _
   | refine LeO.ite ?_ ?_
   | refine LeO.bind ?_ (fun _ => ?_)
set_option maxHeartbeats 8000000 in
set_option maxRecDepth 100000 in
theorem impl_BlendAmounts.calls (k : Nat) (a0_0 : Int) (a0_1 : Int) (a1_0 : Int) (a1_1 : Int) (a2_0 : Int) (a2_1 : Int) (r1 : Int) (r2 : Int) (r3 : Bool) (w : World) (h : impl_BlendAmounts.f k a0_0 a0_1 a1_0 a1_1 a2_0 a2_1 = some (r1, r2, r3)) :
  Calls Try.prog 77 #[.agg #[.int .i64 a0_0, .int .i64 a0_1], .agg #[.int .i64 a1_0, .int .i64 a1_1], .agg #[.int .i64 a2_0, .int .i64 a2_1]] w fun e w' => e = .returned (.tuple #[.int .i64 r1, .int .i64 r2, .bool r3]) ∧ Below w.heap.size w w' := by
 have hu78 := Try.underlying78
 have HB := Aside0.mk (Below.refl w.heap.size w)
 have H : ((impl_IsRatio.f k a0_0 a0_1).bind fun t284 => (if t284 = true then ((impl_IsRatio.f k a1_0 a1_1).bind fun t285 => (if t285 = true then ((impl_IsRatio.f k a2_0 a2_1).bind fun t286 => (impl_BlendAmounts.j0 k (!t286) a0_0 a0_1 a1_0 a1_1 a2_0 a2_1)) else (impl_BlendAmounts.j0 k true a0_0 a0_1 a1_0 a1_1 a2_0 a2_1))) else (impl_BlendAmounts.j0 k true a0_0 a0_1 a1_0 a1_1 a2_0 a2_1))) = some (r1, r2, r3) := h
 clear h
 have HC4 := Aside0.mk H
 clear H
 go_enter Try.func77, Try.ntmps77
 go_upto_region 1 with (first | ((with_reducible refine gate_dst (N := 3) rfl ?_); refine bx 3 #[.int .i64 a0_0, .int .i64 a0_1] 78 ?_; intro gb281 hg w5 hbox hb; have BK281 := Aside0.mk (hbox); have GW281 := ge HB hg; have GE281 := ge HB hg; replace HB := bs HB hb; clear hb hbox hg) | ((with_reducible refine gate_dst (N := 4) rfl ?_); refine bx 4 #[.int .i64 a1_0, .int .i64 a1_1] 78 ?_; intro gb282 hg w6 hbox hb; have BK282 := Aside0.mk (hbox); have GW282 := ge HB hg; have GE282 := ge HB hg; replace HB := bs HB hb; have NB281_282 := nl BK281 hg; have NB282_281 := nr BK281 hg; replace BK281 := bb BK281 hb; clear hb hbox hg) | ((with_reducible refine gate_dst (N := 5) rfl ?_); refine bx 5 #[.int .i64 a2_0, .int .i64 a2_1] 78 ?_; intro gb283 hg w7 hbox hb; have BK283 := Aside0.mk (hbox); have GW283 := ge HB hg; have GE283 := ge HB hg; replace HB := bs HB hb; have NB281_283 := nl BK281 hg; have NB283_281 := nr BK281 hg; replace BK281 := bb BK281 hb; have NB282_283 := nl BK282 hg; have NB283_282 := nr BK282 hg; replace BK282 := bb BK282 hb; clear hb hbox hg))
 repeat (go_quiet (first | ((with_reducible refine gate_dst (N := 3) rfl ?_); refine bx 3 #[.int .i64 a0_0, .int .i64 a0_1] 78 ?_; intro gb281 hg w5 hbox hb; have n0_ := bs HB hb; have n1_ := Aside0.mk (hbox); have n2_ := ge HB hg; have n3_ := ge HB hg; clear HB; have HB := n0_; have BK281 := n1_; have GW281 := n2_; have GE281 := n3_; clear n0_ n1_ n2_ n3_; clear hb hbox hg) | ((with_reducible refine gate_dst (N := 4) rfl ?_); refine bx 4 #[.int .i64 a1_0, .int .i64 a1_1] 78 ?_; intro gb282 hg w6 hbox hb; have n0_ := bb BK281 hb; have n1_ := bs HB hb; have n2_ := Aside0.mk (hbox); have n3_ := ge HB hg; have n4_ := ge HB hg; have n5_ := nl BK281 hg; have n6_ := nr BK281 hg; clear BK281; clear HB; have BK281 := n0_; have HB := n1_; have BK282 := n2_; have GW282 := n3_; have GE282 := n4_; have NB281_282 := n5_; have NB282_281 := n6_; clear n0_ n1_ n2_ n3_ n4_ n5_ n6_; clear hb hbox hg) | ((with_reducible refine gate_dst (N := 5) rfl ?_); refine bx 5 #[.int .i64 a2_0, .int .i64 a2_1] 78 ?_; intro gb283 hg w7 hbox hb; have n0_ := bb BK281 hb; have n1_ := bb BK282 hb; have n2_ := bs HB hb; have n3_ := Aside0.mk (hbox); have n4_ := ge HB hg; have n5_ := ge HB hg; have n6_ := nl BK281 hg; have n7_ := nr BK281 hg; have n8_ := nl BK282 hg; have n9_ := nr BK282 hg; clear BK281; clear BK282; clear HB; have BK281 := n0_; have BK282 := n1_; have HB := n2_; have BK283 := n3_; have GW283 := n4_; have GE283 := n5_; have NB281_283 := n6_; have NB283_281 := n7_; have NB282_283 := n8_; have NB283_282 := n9_; clear n0_ n1_ n2_ n3_ n4_ n5_ n6_ n7_ n8_ n9_; clear hb hbox hg)); go_upto_region 1 with (first | ((with_reducible refine gate_dst (N := 3) rfl ?_); refine bx 3 #[.int .i64 a0_0, .int .i64 a0_1] 78 ?_; intro gb281 hg w5 hbox hb; have n0_ := bs HB hb; have n1_ := Aside0.mk (hbox); have n2_ := ge HB hg; have n3_ := ge HB hg; clear HB; have HB := n0_; have BK281 := n1_; have GW281 := n2_; have GE281 := n3_; clear n0_ n1_ n2_ n3_; clear hb hbox hg) | ((with_reducible refine gate_dst (N := 4) rfl ?_); refine bx 4 #[.int .i64 a1_0, .int .i64 a1_1] 78 ?_; intro gb282 hg w6 hbox hb; have n0_ := bb BK281 hb; have n1_ := bs HB hb; have n2_ := Aside0.mk (hbox); have n3_ := ge HB hg; have n4_ := ge HB hg; have n5_ := nl BK281 hg; have n6_ := nr BK281 hg; clear BK281; clear HB; have BK281 := n0_; have HB := n1_; have BK282 := n2_; have GW282 := n3_; have GE282 := n4_; have NB281_282 := n5_; have NB282_281 := n6_; clear n0_ n1_ n2_ n3_ n4_ n5_ n6_; clear hb hbox hg) | ((with_reducible refine gate_dst (N := 5) rfl ?_); refine bx 5 #[.int .i64 a2_0, .int .i64 a2_1] 78 ?_; intro gb283 hg w7 hbox hb; have n0_ := bb BK281 hb; have n1_ := bb BK282 hb; have n2_ := bs HB hb; have n3_ := Aside0.mk (hbox); have n4_ := ge HB hg; have n5_ := ge HB hg; have n6_ := nl BK281 hg; have n7_ := nr BK281 hg; have n8_ := nl BK282 hg; have n9_ := nr BK282 hg; clear BK281; clear BK282; clear HB; have BK281 := n0_; have BK282 := n1_; have HB := n2_; have BK283 := n3_; have GW283 := n4_; have GE283 := n5_; have NB281_283 := n6_; have NB283_281 := n7_; have NB282_283 := n8_; have NB283_282 := n9_; clear n0_ n1_ n2_ n3_ n4_ n5_ n6_ n7_ n8_ n9_; clear hb hbox hg)))
 (try simp only [Act.put, List.setIfInBounds_toArray, List.set_cons_zero, List.set_cons_succ])
 go_cut [31] (fun v31 wc => ∃ (kq : Nat) (x31_3 : Bool), v31 = .bool x31_3 ∧ Aside0 (impl_BlendAmounts.j0 kq x31_3 a0_0 a0_1 a1_0 a1_1 a2_0 a2_1 = some (r1, r2, r3)) ∧ Aside0 (kq ≤ k) ∧ Aside0 (wc.heap[gb281]? = some (.cells #[.int .i64 a0_0, .int .i64 a0_1] 78 (0, 0))) ∧ Aside0 (wc.heap[gb282]? = some (.cells #[.int .i64 a1_0, .int .i64 a1_1] 78 (0, 0))) ∧ Aside0 (wc.heap[gb283]? = some (.cells #[.int .i64 a2_0, .int .i64 a2_1] 78 (0, 0))) ∧ Aside0 (Below w.heap.size w wc))
 case first =>
  have H := HC4.out
  clear HC4
  replace H := Option.bind_eq_some_iff.mp H
  obtain ⟨t284, A80, H⟩ := H
  replace H : (if t284 = true then ((impl_IsRatio.f k a1_0 a1_1).bind fun t285 => (if t285 = true then ((impl_IsRatio.f k a2_0 a2_1).bind fun t286 => (impl_BlendAmounts.j0 k (!t286) a0_0 a0_1 a1_0 a1_1 a2_0 a2_1)) else (impl_BlendAmounts.j0 k true a0_0 a0_1 a1_0 a1_1 a2_0 a2_1))) else (impl_BlendAmounts.j0 k true a0_0 a0_1 a1_0 a1_1 a2_0 a2_1)) = some (r1, r2, r3) := H
  have A8 := Aside0.mk A80
  clear A80
  by_cases c9 : t284 = true
  rotate_left
  ·replace c9 := Bool.eq_false_iff.mpr c9
   subst c9
   have H1 : (impl_BlendAmounts.j0 k true a0_0 a0_1 a1_0 a1_1 a2_0 a2_1) = some (r1, r2, r3) := by rw [if_neg (show ¬ (false = true) by decide)] at H; exact H
   clear H
   have H := H1
   clear H1
   have H' := Aside0.mk H
   clear H
   have hnb29 := NB281_282.out
   have hnc29 := NB282_281.out
   have hnb30 := NB281_283.out
   have hnc30 := NB283_281.out
   have hcz31_0 := bc0 BK281
   have hcz31_1 := bc1 BK281
   have hfz31_0 := blk_frozen BK281.out 0
   have hfz31_1 := blk_frozen BK281.out 1
   go_wp2_with (first | (go_at_call 181; (with_reducible refine (impl_IsRatio.calls k a0_0 a0_1 false _ A8.out).mono ?_); rintro e w32 ⟨rfl, hb⟩; replace BK281 := bb BK281 hb; replace BK282 := bb BK282 hb; replace BK283 := bb BK283 hb; replace HB := bs HB hb; (try clear hb)))
   repeat (go_quiet (first | (go_at_call 181; (with_reducible refine (impl_IsRatio.calls k a0_0 a0_1 false _ A8.out).mono ?_); rintro e w32 ⟨rfl, hb⟩; have n0_ := bb BK281 hb; have n1_ := bb BK282 hb; have n2_ := bb BK283 hb; have n3_ := bs HB hb; clear BK281; clear BK282; clear BK283; clear HB; have BK281 := n0_; have BK282 := n1_; have BK283 := n2_; have HB := n3_; clear n0_ n1_ n2_ n3_; (try clear hb); (try clear hb2); (try clear hk); (try clear hi))); try go_wp2_with (first | (go_at_call 181; (with_reducible refine (impl_IsRatio.calls k a0_0 a0_1 false _ A8.out).mono ?_); rintro e w32 ⟨rfl, hb⟩; have n0_ := bb BK281 hb; have n1_ := bb BK282 hb; have n2_ := bb BK283 hb; have n3_ := bs HB hb; clear BK281; clear BK282; clear BK283; clear HB; have BK281 := n0_; have BK282 := n1_; have BK283 := n2_; have HB := n3_; clear n0_ n1_ n2_ n3_; (try clear hb); (try clear hb2); (try clear hk); (try clear hi))))
   go_meet
   case rel => exact ⟨_, (true), (by first | rfl | (simp; done) | (simp [*]; done)), H', ⟨by first | omega | exact Nat.le_refl _⟩, ⟨bk BK281⟩, ⟨bk BK282⟩, ⟨bk BK283⟩, ⟨bw HB⟩⟩
  subst c9
  have H1 : ((impl_IsRatio.f k a1_0 a1_1).bind fun t285 => (if t285 = true then ((impl_IsRatio.f k a2_0 a2_1).bind fun t286 => (impl_BlendAmounts.j0 k (!t286) a0_0 a0_1 a1_0 a1_1 a2_0 a2_1)) else (impl_BlendAmounts.j0 k true a0_0 a0_1 a1_0 a1_1 a2_0 a2_1))) = some (r1, r2, r3) := by rw [if_pos rfl] at H; exact H
  clear H
  have H := H1
  clear H1
  replace H := Option.bind_eq_some_iff.mp H
  obtain ⟨t285, A100, H⟩ := H
  replace H : (if t285 = true then ((impl_IsRatio.f k a2_0 a2_1).bind fun t286 => (impl_BlendAmounts.j0 k (!t286) a0_0 a0_1 a1_0 a1_1 a2_0 a2_1)) else (impl_BlendAmounts.j0 k true a0_0 a0_1 a1_0 a1_1 a2_0 a2_1)) = some (r1, r2, r3) := H
  have A10 := Aside0.mk A100
  clear A100
  by_cases c11 : t285 = true
  rotate_left
  ·replace c11 := Bool.eq_false_iff.mpr c11
   subst c11
   have H1 : (impl_BlendAmounts.j0 k true a0_0 a0_1 a1_0 a1_1 a2_0 a2_1) = some (r1, r2, r3) := by rw [if_neg (show ¬ (false = true) by decide)] at H; exact H
   clear H
   have H := H1
   clear H1
   have H' := Aside0.mk H
   clear H
   have hnb22 := NB281_282.out
   have hnc22 := NB282_281.out
   have hnb23 := NB281_283.out
   have hnc23 := NB283_281.out
   have hcz24_0 := bc0 BK281
   have hcz24_1 := bc1 BK281
   have hfz24_0 := blk_frozen BK281.out 0
   have hfz24_1 := blk_frozen BK281.out 1
   go_wp2_with (first | (go_at_call 181; (with_reducible refine (impl_IsRatio.calls k a0_0 a0_1 true _ A8.out).mono ?_); rintro e w25 ⟨rfl, hb⟩; replace BK281 := bb BK281 hb; replace BK282 := bb BK282 hb; replace BK283 := bb BK283 hb; replace HB := bs HB hb; (try clear hb); have hnb26 := NB282_283.out; have hnc26 := NB283_282.out; have hcz27_0 := bc0 BK282; have hcz27_1 := bc1 BK282; have hfz27_0 := blk_frozen BK282.out 0; have hfz27_1 := blk_frozen BK282.out 1) | (go_at_call 181; (with_reducible refine (impl_IsRatio.calls k a1_0 a1_1 false _ A10.out).mono ?_); rintro e w28 ⟨rfl, hb⟩; replace BK281 := bb BK281 hb; replace BK282 := bb BK282 hb; replace BK283 := bb BK283 hb; replace HB := bs HB hb; (try clear hb)))
   repeat (go_quiet (first | (go_at_call 181; (with_reducible refine (impl_IsRatio.calls k a0_0 a0_1 true _ A8.out).mono ?_); rintro e w25 ⟨rfl, hb⟩; have n0_ := bb BK281 hb; have n1_ := bb BK282 hb; have n2_ := bb BK283 hb; have n3_ := bs HB hb; clear BK281; clear BK282; clear BK283; clear HB; have BK281 := n0_; have BK282 := n1_; have BK283 := n2_; have HB := n3_; clear n0_ n1_ n2_ n3_; (try clear hb); (try clear hb2); (try clear hk); (try clear hi); have hnb26 := NB282_283.out; have hnc26 := NB283_282.out; have hcz27_0 := bc0 BK282; have hcz27_1 := bc1 BK282; have hfz27_0 := blk_frozen BK282.out 0; have hfz27_1 := blk_frozen BK282.out 1) | (go_at_call 181; (with_reducible refine (impl_IsRatio.calls k a1_0 a1_1 false _ A10.out).mono ?_); rintro e w28 ⟨rfl, hb⟩; have n0_ := bb BK281 hb; have n1_ := bb BK282 hb; have n2_ := bb BK283 hb; have n3_ := bs HB hb; clear BK281; clear BK282; clear BK283; clear HB; have BK281 := n0_; have BK282 := n1_; have BK283 := n2_; have HB := n3_; clear n0_ n1_ n2_ n3_; (try clear hb); (try clear hb2); (try clear hk); (try clear hi))); try go_wp2_with (first | (go_at_call 181; (with_reducible refine (impl_IsRatio.calls k a0_0 a0_1 true _ A8.out).mono ?_); rintro e w25 ⟨rfl, hb⟩; have n0_ := bb BK281 hb; have n1_ := bb BK282 hb; have n2_ := bb BK283 hb; have n3_ := bs HB hb; clear BK281; clear BK282; clear BK283; clear HB; have BK281 := n0_; have BK282 := n1_; have BK283 := n2_; have HB := n3_; clear n0_ n1_ n2_ n3_; (try clear hb); (try clear hb2); (try clear hk); (try clear hi); have hnb26 := NB282_283.out; have hnc26 := NB283_282.out; have hcz27_0 := bc0 BK282; have hcz27_1 := bc1 BK282; have hfz27_0 := blk_frozen BK282.out 0; have hfz27_1 := blk_frozen BK282.out 1) | (go_at_call 181; (with_reducible refine (impl_IsRatio.calls k a1_0 a1_1 false _ A10.out).mono ?_); rintro e w28 ⟨rfl, hb⟩; have n0_ := bb BK281 hb; have n1_ := bb BK282 hb; have n2_ := bb BK283 hb; have n3_ := bs HB hb; clear BK281; clear BK282; clear BK283; clear HB; have BK281 := n0_; have BK282 := n1_; have BK283 := n2_; have HB := n3_; clear n0_ n1_ n2_ n3_; (try clear hb); (try clear hb2); (try clear hk); (try clear hi))))
   go_meet
   case rel => exact ⟨_, (true), (by first | rfl | (simp; done) | (simp [*]; done)), H', ⟨by first | omega | exact Nat.le_refl _⟩, ⟨bk BK281⟩, ⟨bk BK282⟩, ⟨bk BK283⟩, ⟨bw HB⟩⟩
  subst c11
  have H1 : ((impl_IsRatio.f k a2_0 a2_1).bind fun t286 => (impl_BlendAmounts.j0 k (!t286) a0_0 a0_1 a1_0 a1_1 a2_0 a2_1)) = some (r1, r2, r3) := by rw [if_pos rfl] at H; exact H
  clear H
  have H := H1
  clear H1
  replace H := Option.bind_eq_some_iff.mp H
  obtain ⟨t286, A120, H⟩ := H
  replace H : (impl_BlendAmounts.j0 k (!t286) a0_0 a0_1 a1_0 a1_1 a2_0 a2_1) = some (r1, r2, r3) := H
  have A12 := Aside0.mk A120
  clear A120
  have H' := Aside0.mk H
  clear H
  have hnb13 := NB281_282.out
  have hnc13 := NB282_281.out
  have hnb14 := NB281_283.out
  have hnc14 := NB283_281.out
  have hcz15_0 := bc0 BK281
  have hcz15_1 := bc1 BK281
  have hfz15_0 := blk_frozen BK281.out 0
  have hfz15_1 := blk_frozen BK281.out 1
  go_wp2_with (first | (go_at_call 181; (with_reducible refine (impl_IsRatio.calls k a0_0 a0_1 true _ A8.out).mono ?_); rintro e w16 ⟨rfl, hb⟩; replace BK281 := bb BK281 hb; replace BK282 := bb BK282 hb; replace BK283 := bb BK283 hb; replace HB := bs HB hb; (try clear hb); have hnb17 := NB282_283.out; have hnc17 := NB283_282.out; have hcz18_0 := bc0 BK282; have hcz18_1 := bc1 BK282; have hfz18_0 := blk_frozen BK282.out 0; have hfz18_1 := blk_frozen BK282.out 1) | (go_at_call 181; (with_reducible refine (impl_IsRatio.calls k a1_0 a1_1 true _ A10.out).mono ?_); rintro e w19 ⟨rfl, hb⟩; replace BK281 := bb BK281 hb; replace BK282 := bb BK282 hb; replace BK283 := bb BK283 hb; replace HB := bs HB hb; (try clear hb); have hcz20_0 := bc0 BK283; have hcz20_1 := bc1 BK283; have hfz20_0 := blk_frozen BK283.out 0; have hfz20_1 := blk_frozen BK283.out 1) | (go_at_call 181; (with_reducible refine (impl_IsRatio.calls k a2_0 a2_1 t286 _ A12.out).mono ?_); rintro e w21 ⟨rfl, hb⟩; replace BK281 := bb BK281 hb; replace BK282 := bb BK282 hb; replace BK283 := bb BK283 hb; replace HB := bs HB hb; (try clear hb)))
  repeat (go_quiet (first | (go_at_call 181; (with_reducible refine (impl_IsRatio.calls k a0_0 a0_1 true _ A8.out).mono ?_); rintro e w16 ⟨rfl, hb⟩; have n0_ := bb BK281 hb; have n1_ := bb BK282 hb; have n2_ := bb BK283 hb; have n3_ := bs HB hb; clear BK281; clear BK282; clear BK283; clear HB; have BK281 := n0_; have BK282 := n1_; have BK283 := n2_; have HB := n3_; clear n0_ n1_ n2_ n3_; (try clear hb); (try clear hb2); (try clear hk); (try clear hi); have hnb17 := NB282_283.out; have hnc17 := NB283_282.out; have hcz18_0 := bc0 BK282; have hcz18_1 := bc1 BK282; have hfz18_0 := blk_frozen BK282.out 0; have hfz18_1 := blk_frozen BK282.out 1) | (go_at_call 181; (with_reducible refine (impl_IsRatio.calls k a1_0 a1_1 true _ A10.out).mono ?_); rintro e w19 ⟨rfl, hb⟩; have n0_ := bb BK281 hb; have n1_ := bb BK282 hb; have n2_ := bb BK283 hb; have n3_ := bs HB hb; clear BK281; clear BK282; clear BK283; clear HB; have BK281 := n0_; have BK282 := n1_; have BK283 := n2_; have HB := n3_; clear n0_ n1_ n2_ n3_; (try clear hb); (try clear hb2); (try clear hk); (try clear hi); have hcz20_0 := bc0 BK283; have hcz20_1 := bc1 BK283; have hfz20_0 := blk_frozen BK283.out 0; have hfz20_1 := blk_frozen BK283.out 1) | (go_at_call 181; (with_reducible refine (impl_IsRatio.calls k a2_0 a2_1 t286 _ A12.out).mono ?_); rintro e w21 ⟨rfl, hb⟩; have n0_ := bb BK281 hb; have n1_ := bb BK282 hb; have n2_ := bb BK283 hb; have n3_ := bs HB hb; clear BK281; clear BK282; clear BK283; clear HB; have BK281 := n0_; have BK282 := n1_; have BK283 := n2_; have HB := n3_; clear n0_ n1_ n2_ n3_; (try clear hb); (try clear hb2); (try clear hk); (try clear hi))); try go_wp2_with (first | (go_at_call 181; (with_reducible refine (impl_IsRatio.calls k a0_0 a0_1 true _ A8.out).mono ?_); rintro e w16 ⟨rfl, hb⟩; have n0_ := bb BK281 hb; have n1_ := bb BK282 hb; have n2_ := bb BK283 hb; have n3_ := bs HB hb; clear BK281; clear BK282; clear BK283; clear HB; have BK281 := n0_; have BK282 := n1_; have BK283 := n2_; have HB := n3_; clear n0_ n1_ n2_ n3_; (try clear hb); (try clear hb2); (try clear hk); (try clear hi); have hnb17 := NB282_283.out; have hnc17 := NB283_282.out; have hcz18_0 := bc0 BK282; have hcz18_1 := bc1 BK282; have hfz18_0 := blk_frozen BK282.out 0; have hfz18_1 := blk_frozen BK282.out 1) | (go_at_call 181; (with_reducible refine (impl_IsRatio.calls k a1_0 a1_1 true _ A10.out).mono ?_); rintro e w19 ⟨rfl, hb⟩; have n0_ := bb BK281 hb; have n1_ := bb BK282 hb; have n2_ := bb BK283 hb; have n3_ := bs HB hb; clear BK281; clear BK282; clear BK283; clear HB; have BK281 := n0_; have BK282 := n1_; have BK283 := n2_; have HB := n3_; clear n0_ n1_ n2_ n3_; (try clear hb); (try clear hb2); (try clear hk); (try clear hi); have hcz20_0 := bc0 BK283; have hcz20_1 := bc1 BK283; have hfz20_0 := blk_frozen BK283.out 0; have hfz20_1 := blk_frozen BK283.out 1) | (go_at_call 181; (with_reducible refine (impl_IsRatio.calls k a2_0 a2_1 t286 _ A12.out).mono ?_); rintro e w21 ⟨rfl, hb⟩; have n0_ := bb BK281 hb; have n1_ := bb BK282 hb; have n2_ := bb BK283 hb; have n3_ := bs HB hb; clear BK281; clear BK282; clear BK283; clear HB; have BK281 := n0_; have BK282 := n1_; have BK283 := n2_; have HB := n3_; clear n0_ n1_ n2_ n3_; (try clear hb); (try clear hb2); (try clear hk); (try clear hi))))
  go_meet
  case rel => exact ⟨_, (!t286), (by first | rfl | (simp; done) | (simp [*]; done)), H', ⟨by first | omega | exact Nat.le_refl _⟩, ⟨bk BK281⟩, ⟨bk BK282⟩, ⟨bk BK283⟩, ⟨bw HB⟩⟩
 case rest =>
  clear HC4
  try clear c1
  try clear c2
  try clear p2
  try clear c3
  try clear c7
  try clear c9
  try clear c11
  try clear c13
  try clear c14
  try clear c17
  try clear c22
  try clear c23
  try clear c26
  try clear c29
  try clear c30
  try clear hcz15_0
  try clear hcz15_1
  try clear hcz18_0
  try clear hcz18_1
  try clear hcz20_0
  try clear hcz20_1
  try clear hcz24_0
  try clear hcz24_1
  try clear hcz27_0
  try clear hcz27_1
  try clear hcz31_0
  try clear hcz31_1
  try clear hfz15_0
  try clear hfz15_1
  try clear hfz18_0
  try clear hfz18_1
  try clear hfz20_0
  try clear hfz20_1
  try clear hfz24_0
  try clear hfz24_1
  try clear hfz27_0
  try clear hfz27_1
  try clear hfz31_0
  try clear hfz31_1
  obtain ⟨kq, x31_3, rfl, HA, HJ3, BK281, BK282, BK283, HB⟩ := hcut
  cases kq with
  | zero => exact absurd HA.out (by simp [impl_BlendAmounts.j0])
  | succ kj3 =>
   have H := HA.out
   clear HA
   simp only [impl_BlendAmounts.j0] at H
   by_cases c33 : x31_3 = true
   ·subst c33
    have H1 : (some (0, 0, false)) = some (r1, r2, r3) := by rw [if_pos rfl] at H; exact H
    clear H
    have H := H1
    clear H1
    simp only [Option.some.injEq, Prod.mk.injEq] at H
    obtain ⟨rfl, rfl, rfl⟩ := H
    go_wp2
    repeat (go_quiet (fail); try go_wp2)
    go_ret3
    exact ⟨by first | rfl | (simp [errW_none, errW_some] <;> rfl) | (simp [*, errW_none, errW_some] <;> rfl), bw HB⟩
   replace c33 := Bool.eq_false_iff.mpr c33
   subst c33
   have H1 : (if (wrap64 ((wrap64 (a0_0 * a2_1)) - (wrap64 (a2_0 * a0_1)))) = 0 then (some (1, 0, true)) else (if (wrap64 ((wrap64 (a2_0 * a1_1)) - (wrap64 (a1_0 * a2_1)))) = 0 then (some (0, 1, true)) else (if ((decide ((wrap64 ((wrap64 (a2_0 * a1_1)) - (wrap64 (a1_0 * a2_1)))) < 0)) != (decide ((wrap64 ((wrap64 (a0_0 * a2_1)) - (wrap64 (a2_0 * a0_1)))) < 0))) = true then (some (0, 0, false)) else ((impl_gcd.f kj3 (mx (wrap64 ((wrap64 (a2_0 * a1_1)) - (wrap64 (a1_0 * a2_1)))) (wrap64 (-(wrap64 ((wrap64 (a2_0 * a1_1)) - (wrap64 (a1_0 * a2_1))))))) (mx (wrap64 ((wrap64 (a0_0 * a2_1)) - (wrap64 (a2_0 * a0_1)))) (wrap64 (-(wrap64 ((wrap64 (a0_0 * a2_1)) - (wrap64 (a2_0 * a0_1)))))))).bind fun t287 => ((impl_gcd.f kj3 a0_1 a1_1).bind fun t288 => (if t287 = 0 then (none) else (if t288 = 0 then (none) else ((impl_gcd.f kj3 (wrap64 (Int.tdiv (mx (wrap64 ((wrap64 (a2_0 * a1_1)) - (wrap64 (a1_0 * a2_1)))) (wrap64 (-(wrap64 ((wrap64 (a2_0 * a1_1)) - (wrap64 (a1_0 * a2_1))))))) t287)) (wrap64 (Int.tdiv a1_1 t288))).bind fun t289 => ((impl_gcd.f kj3 (wrap64 (Int.tdiv (mx (wrap64 ((wrap64 (a0_0 * a2_1)) - (wrap64 (a2_0 * a0_1)))) (wrap64 (-(wrap64 ((wrap64 (a0_0 * a2_1)) - (wrap64 (a2_0 * a0_1))))))) t287)) (wrap64 (Int.tdiv a0_1 t288))).bind fun t290 => (if t289 = 0 then (none) else (if t290 = 0 then (none) else ((impl_product.f (wrap64 (Int.tdiv (wrap64 (Int.tdiv (mx (wrap64 ((wrap64 (a2_0 * a1_1)) - (wrap64 (a1_0 * a2_1)))) (wrap64 (-(wrap64 ((wrap64 (a2_0 * a1_1)) - (wrap64 (a1_0 * a2_1))))))) t287)) t289)) (wrap64 (Int.tdiv (wrap64 (Int.tdiv a0_1 t288)) t290))).bind fun bt291 => ((impl_product.f (wrap64 (Int.tdiv (wrap64 (Int.tdiv (mx (wrap64 ((wrap64 (a0_0 * a2_1)) - (wrap64 (a2_0 * a0_1)))) (wrap64 (-(wrap64 ((wrap64 (a0_0 * a2_1)) - (wrap64 (a2_0 * a0_1))))))) t287)) t290)) (wrap64 (Int.tdiv (wrap64 (Int.tdiv a1_1 t288)) t289))).bind fun bt293 => (if bt291.2 = true then (if bt293.2 = true then (some (bt291.1, bt293.1, true)) else (some (0, 0, false))) else (some (0, 0, false)))))))))))))))) = some (r1, r2, r3) := by rw [if_neg (show ¬ (false = true) by decide)] at H; exact H
   clear H
   have H := H1
   clear H1
   by_cases c34 : (wrap64 ((wrap64 (a0_0 * a2_1)) - (wrap64 (a2_0 * a0_1)))) = 0
   ·rw [if_pos c34] at H
    have c34b0 : ((wrap64 ((wrap64 (a0_0 * a2_1)) - (wrap64 (a2_0 * a0_1)))) == 0) = true := beq_iff_eq.mpr c34
    have c34b1 : ((wrap64 ((wrap64 (a0_0 * a2_1)) - (wrap64 (a2_0 * a0_1)))) != 0) = false := bne_eq_false_iff_eq.mpr c34
    clear c34
    simp only [Option.some.injEq, Prod.mk.injEq] at H
    obtain ⟨rfl, rfl, rfl⟩ := H
    have hnb35 := NB283_281.out
    have hnc35 := NB281_283.out
    have hnb36 := NB283_282.out
    have hnc36 := NB282_283.out
    have hcz37_0 := bc0 BK283
    have hcz37_1 := bc1 BK283
    have hfz37_0 := blk_frozen BK283.out 0
    have hfz37_1 := blk_frozen BK283.out 1
    have hnb38 := NB282_281.out
    have hnc38 := NB281_282.out
    have hcz39_0 := bc0 BK282
    have hcz39_1 := bc1 BK282
    have hfz39_0 := blk_frozen BK282.out 0
    have hfz39_1 := blk_frozen BK282.out 1
    have hcz40_0 := bc0 BK281
    have hcz40_1 := bc1 BK281
    have hfz40_0 := blk_frozen BK281.out 0
    have hfz40_1 := blk_frozen BK281.out 1
    go_wp2
    repeat (go_quiet (fail); try go_wp2)
    go_ret3
    exact ⟨by first | rfl | (simp [errW_none, errW_some] <;> rfl) | (simp [*, errW_none, errW_some] <;> rfl), bw HB⟩
   rw [if_neg c34] at H
   have c34b0 : ((wrap64 ((wrap64 (a0_0 * a2_1)) - (wrap64 (a2_0 * a0_1)))) == 0) = false := beq_eq_false_iff_ne.mpr c34
   have c34b1 : ((wrap64 ((wrap64 (a0_0 * a2_1)) - (wrap64 (a2_0 * a0_1)))) != 0) = true := bne_iff_ne.mpr c34
   by_cases c41 : (wrap64 ((wrap64 (a2_0 * a1_1)) - (wrap64 (a1_0 * a2_1)))) = 0
   ·rw [if_pos c41] at H
    have c41b0 : ((wrap64 ((wrap64 (a2_0 * a1_1)) - (wrap64 (a1_0 * a2_1)))) == 0) = true := beq_iff_eq.mpr c41
    have c41b1 : ((wrap64 ((wrap64 (a2_0 * a1_1)) - (wrap64 (a1_0 * a2_1)))) != 0) = false := bne_eq_false_iff_eq.mpr c41
    clear c41
    simp only [Option.some.injEq, Prod.mk.injEq] at H
    obtain ⟨rfl, rfl, rfl⟩ := H
    have hnb42 := NB283_281.out
    have hnc42 := NB281_283.out
    have hnb43 := NB283_282.out
    have hnc43 := NB282_283.out
    have hcz44_0 := bc0 BK283
    have hcz44_1 := bc1 BK283
    have hfz44_0 := blk_frozen BK283.out 0
    have hfz44_1 := blk_frozen BK283.out 1
    have hnb45 := NB282_281.out
    have hnc45 := NB281_282.out
    have hcz46_0 := bc0 BK282
    have hcz46_1 := bc1 BK282
    have hfz46_0 := blk_frozen BK282.out 0
    have hfz46_1 := blk_frozen BK282.out 1
    have hcz47_0 := bc0 BK281
    have hcz47_1 := bc1 BK281
    have hfz47_0 := blk_frozen BK281.out 0
    have hfz47_1 := blk_frozen BK281.out 1
    go_wp2
    repeat (go_quiet (fail); try go_wp2)
    go_ret3
    exact ⟨by first | rfl | (simp [errW_none, errW_some] <;> rfl) | (simp [*, errW_none, errW_some] <;> rfl), bw HB⟩
   rw [if_neg c41] at H
   have c41b0 : ((wrap64 ((wrap64 (a2_0 * a1_1)) - (wrap64 (a1_0 * a2_1)))) == 0) = false := beq_eq_false_iff_ne.mpr c41
   have c41b1 : ((wrap64 ((wrap64 (a2_0 * a1_1)) - (wrap64 (a1_0 * a2_1)))) != 0) = true := bne_iff_ne.mpr c41
   by_cases c48 : ((decide ((wrap64 ((wrap64 (a2_0 * a1_1)) - (wrap64 (a1_0 * a2_1)))) < 0)) != (decide ((wrap64 ((wrap64 (a0_0 * a2_1)) - (wrap64 (a2_0 * a0_1)))) < 0))) = true
   ·rw [if_pos c48] at H
    have c48b0 : ((decide ((wrap64 ((wrap64 (a2_0 * a1_1)) - (wrap64 (a1_0 * a2_1)))) < 0)) != (decide ((wrap64 ((wrap64 (a0_0 * a2_1)) - (wrap64 (a2_0 * a0_1)))) < 0))) = true := c48
    (try (have c48b1 : decide ((decide ((wrap64 ((wrap64 (a2_0 * a1_1)) - (wrap64 (a1_0 * a2_1)))) < 0)) = (decide ((wrap64 ((wrap64 (a0_0 * a2_1)) - (wrap64 (a2_0 * a0_1)))) < 0))) = false := by simpa using c48))
    (try (have c48b2 : ((decide ((wrap64 ((wrap64 (a2_0 * a1_1)) - (wrap64 (a1_0 * a2_1)))) < 0)) == (decide ((wrap64 ((wrap64 (a0_0 * a2_1)) - (wrap64 (a2_0 * a0_1)))) < 0))) = false := by simpa using c48))
    (try (have c48b3 : ¬ ((decide ((wrap64 ((wrap64 (a2_0 * a1_1)) - (wrap64 (a1_0 * a2_1)))) < 0)) = (decide ((wrap64 ((wrap64 (a0_0 * a2_1)) - (wrap64 (a2_0 * a0_1)))) < 0))) := by simpa using c48))
    clear c48
    simp only [Option.some.injEq, Prod.mk.injEq] at H
    obtain ⟨rfl, rfl, rfl⟩ := H
    have hnb49 := NB283_281.out
    have hnc49 := NB281_283.out
    have hnb50 := NB283_282.out
    have hnc50 := NB282_283.out
    have hcz51_0 := bc0 BK283
    have hcz51_1 := bc1 BK283
    have hfz51_0 := blk_frozen BK283.out 0
    have hfz51_1 := blk_frozen BK283.out 1
    have hnb52 := NB282_281.out
    have hnc52 := NB281_282.out
    have hcz53_0 := bc0 BK282
    have hcz53_1 := bc1 BK282
    have hfz53_0 := blk_frozen BK282.out 0
    have hfz53_1 := blk_frozen BK282.out 1
    have hcz54_0 := bc0 BK281
    have hcz54_1 := bc1 BK281
    have hfz54_0 := blk_frozen BK281.out 0
    have hfz54_1 := blk_frozen BK281.out 1
    go_wp2
    repeat (go_quiet (fail); try go_wp2)
    go_ret3
    exact ⟨by first | rfl | (simp [errW_none, errW_some] <;> rfl) | (simp [*, errW_none, errW_some] <;> rfl), bw HB⟩
   rw [if_neg c48] at H
   have c48b0 : ((decide ((wrap64 ((wrap64 (a2_0 * a1_1)) - (wrap64 (a1_0 * a2_1)))) < 0)) != (decide ((wrap64 ((wrap64 (a0_0 * a2_1)) - (wrap64 (a2_0 * a0_1)))) < 0))) = false := by simpa using c48
   (try (have c48b1 : decide ((decide ((wrap64 ((wrap64 (a2_0 * a1_1)) - (wrap64 (a1_0 * a2_1)))) < 0)) = (decide ((wrap64 ((wrap64 (a0_0 * a2_1)) - (wrap64 (a2_0 * a0_1)))) < 0))) = true := by simpa using c48))
   (try (have c48b2 : ((decide ((wrap64 ((wrap64 (a2_0 * a1_1)) - (wrap64 (a1_0 * a2_1)))) < 0)) == (decide ((wrap64 ((wrap64 (a0_0 * a2_1)) - (wrap64 (a2_0 * a0_1)))) < 0))) = true := by simpa using c48))
   clear c48
   obtain ⟨ji55, hji55⟩ : ∃ j_ : Int, (mx (wrap64 ((wrap64 (a2_0 * a1_1)) - (wrap64 (a1_0 * a2_1)))) (wrap64 (-(wrap64 ((wrap64 (a2_0 * a1_1)) - (wrap64 (a1_0 * a2_1))))))) = j_ := ⟨_, rfl⟩
   replace H : ((impl_gcd.f kj3 (ji55) (mx (wrap64 ((wrap64 (a0_0 * a2_1)) - (wrap64 (a2_0 * a0_1)))) (wrap64 (-(wrap64 ((wrap64 (a0_0 * a2_1)) - (wrap64 (a2_0 * a0_1)))))))).bind fun t287 => ((impl_gcd.f kj3 a0_1 a1_1).bind fun t288 => (if t287 = 0 then (none) else (if t288 = 0 then (none) else ((impl_gcd.f kj3 (wrap64 (Int.tdiv (ji55) t287)) (wrap64 (Int.tdiv a1_1 t288))).bind fun t289 => ((impl_gcd.f kj3 (wrap64 (Int.tdiv (mx (wrap64 ((wrap64 (a0_0 * a2_1)) - (wrap64 (a2_0 * a0_1)))) (wrap64 (-(wrap64 ((wrap64 (a0_0 * a2_1)) - (wrap64 (a2_0 * a0_1))))))) t287)) (wrap64 (Int.tdiv a0_1 t288))).bind fun t290 => (if t289 = 0 then (none) else (if t290 = 0 then (none) else ((impl_product.f (wrap64 (Int.tdiv (wrap64 (Int.tdiv (ji55) t287)) t289)) (wrap64 (Int.tdiv (wrap64 (Int.tdiv a0_1 t288)) t290))).bind fun bt291 => ((impl_product.f (wrap64 (Int.tdiv (wrap64 (Int.tdiv (mx (wrap64 ((wrap64 (a0_0 * a2_1)) - (wrap64 (a2_0 * a0_1)))) (wrap64 (-(wrap64 ((wrap64 (a0_0 * a2_1)) - (wrap64 (a2_0 * a0_1))))))) t287)) t290)) (wrap64 (Int.tdiv (wrap64 (Int.tdiv a1_1 t288)) t289))).bind fun bt293 => (if bt291.2 = true then (if bt293.2 = true then (some (bt291.1, bt293.1, true)) else (some (0, 0, false))) else (some (0, 0, false))))))))))))) = some (r1, r2, r3) := by first | (rw [hji55] at H; exact H) | (simp only [hji55] at H ⊢; exact H)
   have hji55_ : (if (wrap64 ((wrap64 (a2_0 * a1_1)) - (wrap64 (a1_0 * a2_1)))) < (wrap64 (-(wrap64 ((wrap64 (a2_0 * a1_1)) - (wrap64 (a1_0 * a2_1)))))) then (wrap64 (-(wrap64 ((wrap64 (a2_0 * a1_1)) - (wrap64 (a1_0 * a2_1)))))) else (wrap64 ((wrap64 (a2_0 * a1_1)) - (wrap64 (a1_0 * a2_1))))) = ji55 := hji55
   obtain ⟨ji56, hji56⟩ : ∃ j_ : Int, (mx (wrap64 ((wrap64 (a0_0 * a2_1)) - (wrap64 (a2_0 * a0_1)))) (wrap64 (-(wrap64 ((wrap64 (a0_0 * a2_1)) - (wrap64 (a2_0 * a0_1))))))) = j_ := ⟨_, rfl⟩
   replace H : ((impl_gcd.f kj3 (ji55) (ji56)).bind fun t287 => ((impl_gcd.f kj3 a0_1 a1_1).bind fun t288 => (if t287 = 0 then (none) else (if t288 = 0 then (none) else ((impl_gcd.f kj3 (wrap64 (Int.tdiv (ji55) t287)) (wrap64 (Int.tdiv a1_1 t288))).bind fun t289 => ((impl_gcd.f kj3 (wrap64 (Int.tdiv (ji56) t287)) (wrap64 (Int.tdiv a0_1 t288))).bind fun t290 => (if t289 = 0 then (none) else (if t290 = 0 then (none) else ((impl_product.f (wrap64 (Int.tdiv (wrap64 (Int.tdiv (ji55) t287)) t289)) (wrap64 (Int.tdiv (wrap64 (Int.tdiv a0_1 t288)) t290))).bind fun bt291 => ((impl_product.f (wrap64 (Int.tdiv (wrap64 (Int.tdiv (ji56) t287)) t290)) (wrap64 (Int.tdiv (wrap64 (Int.tdiv a1_1 t288)) t289))).bind fun bt293 => (if bt291.2 = true then (if bt293.2 = true then (some (bt291.1, bt293.1, true)) else (some (0, 0, false))) else (some (0, 0, false))))))))))))) = some (r1, r2, r3) := by first | (rw [hji56] at H; exact H) | (simp only [hji56] at H ⊢; exact H)
   have hji56_ : (if (wrap64 ((wrap64 (a0_0 * a2_1)) - (wrap64 (a2_0 * a0_1)))) < (wrap64 (-(wrap64 ((wrap64 (a0_0 * a2_1)) - (wrap64 (a2_0 * a0_1)))))) then (wrap64 (-(wrap64 ((wrap64 (a0_0 * a2_1)) - (wrap64 (a2_0 * a0_1)))))) else (wrap64 ((wrap64 (a0_0 * a2_1)) - (wrap64 (a2_0 * a0_1))))) = ji56 := hji56
   replace H := Option.bind_eq_some_iff.mp H
   obtain ⟨t287, A570, H⟩ := H
   replace H : ((impl_gcd.f kj3 a0_1 a1_1).bind fun t288 => (if t287 = 0 then (none) else (if t288 = 0 then (none) else ((impl_gcd.f kj3 (wrap64 (Int.tdiv (ji55) t287)) (wrap64 (Int.tdiv a1_1 t288))).bind fun t289 => ((impl_gcd.f kj3 (wrap64 (Int.tdiv (ji56) t287)) (wrap64 (Int.tdiv a0_1 t288))).bind fun t290 => (if t289 = 0 then (none) else (if t290 = 0 then (none) else ((impl_product.f (wrap64 (Int.tdiv (wrap64 (Int.tdiv (ji55) t287)) t289)) (wrap64 (Int.tdiv (wrap64 (Int.tdiv a0_1 t288)) t290))).bind fun bt291 => ((impl_product.f (wrap64 (Int.tdiv (wrap64 (Int.tdiv (ji56) t287)) t290)) (wrap64 (Int.tdiv (wrap64 (Int.tdiv a1_1 t288)) t289))).bind fun bt293 => (if bt291.2 = true then (if bt293.2 = true then (some (bt291.1, bt293.1, true)) else (some (0, 0, false))) else (some (0, 0, false)))))))))))) = some (r1, r2, r3) := H
   have A57 := Aside0.mk A570
   clear A570
   replace H := Option.bind_eq_some_iff.mp H
   obtain ⟨t288, A580, H⟩ := H
   replace H : (if t287 = 0 then (none) else (if t288 = 0 then (none) else ((impl_gcd.f kj3 (wrap64 (Int.tdiv (ji55) t287)) (wrap64 (Int.tdiv a1_1 t288))).bind fun t289 => ((impl_gcd.f kj3 (wrap64 (Int.tdiv (ji56) t287)) (wrap64 (Int.tdiv a0_1 t288))).bind fun t290 => (if t289 = 0 then (none) else (if t290 = 0 then (none) else ((impl_product.f (wrap64 (Int.tdiv (wrap64 (Int.tdiv (ji55) t287)) t289)) (wrap64 (Int.tdiv (wrap64 (Int.tdiv a0_1 t288)) t290))).bind fun bt291 => ((impl_product.f (wrap64 (Int.tdiv (wrap64 (Int.tdiv (ji56) t287)) t290)) (wrap64 (Int.tdiv (wrap64 (Int.tdiv a1_1 t288)) t289))).bind fun bt293 => (if bt291.2 = true then (if bt293.2 = true then (some (bt291.1, bt293.1, true)) else (some (0, 0, false))) else (some (0, 0, false))))))))))) = some (r1, r2, r3) := H
   have A58 := Aside0.mk A580
   clear A580
   by_cases c59 : t287 = 0
   ·rw [if_pos c59] at H
    exact absurd H (by simp)
   rw [if_neg c59] at H
   have c59b0 : (t287 == 0) = false := beq_eq_false_iff_ne.mpr c59
   have c59b1 : (t287 != 0) = true := bne_iff_ne.mpr c59
   by_cases c60 : t288 = 0
   ·rw [if_pos c60] at H
    exact absurd H (by simp)
   rw [if_neg c60] at H
   have c60b0 : (t288 == 0) = false := beq_eq_false_iff_ne.mpr c60
   have c60b1 : (t288 != 0) = true := bne_iff_ne.mpr c60
   replace H := Option.bind_eq_some_iff.mp H
   obtain ⟨t289, A610, H⟩ := H
   replace H : ((impl_gcd.f kj3 (wrap64 (Int.tdiv (ji56) t287)) (wrap64 (Int.tdiv a0_1 t288))).bind fun t290 => (if t289 = 0 then (none) else (if t290 = 0 then (none) else ((impl_product.f (wrap64 (Int.tdiv (wrap64 (Int.tdiv (ji55) t287)) t289)) (wrap64 (Int.tdiv (wrap64 (Int.tdiv a0_1 t288)) t290))).bind fun bt291 => ((impl_product.f (wrap64 (Int.tdiv (wrap64 (Int.tdiv (ji56) t287)) t290)) (wrap64 (Int.tdiv (wrap64 (Int.tdiv a1_1 t288)) t289))).bind fun bt293 => (if bt291.2 = true then (if bt293.2 = true then (some (bt291.1, bt293.1, true)) else (some (0, 0, false))) else (some (0, 0, false)))))))) = some (r1, r2, r3) := H
   have A61 := Aside0.mk A610
   clear A610
   replace H := Option.bind_eq_some_iff.mp H
   obtain ⟨t290, A620, H⟩ := H
   replace H : (if t289 = 0 then (none) else (if t290 = 0 then (none) else ((impl_product.f (wrap64 (Int.tdiv (wrap64 (Int.tdiv (ji55) t287)) t289)) (wrap64 (Int.tdiv (wrap64 (Int.tdiv a0_1 t288)) t290))).bind fun bt291 => ((impl_product.f (wrap64 (Int.tdiv (wrap64 (Int.tdiv (ji56) t287)) t290)) (wrap64 (Int.tdiv (wrap64 (Int.tdiv a1_1 t288)) t289))).bind fun bt293 => (if bt291.2 = true then (if bt293.2 = true then (some (bt291.1, bt293.1, true)) else (some (0, 0, false))) else (some (0, 0, false))))))) = some (r1, r2, r3) := H
   have A62 := Aside0.mk A620
   clear A620
   by_cases c63 : t289 = 0
   ·rw [if_pos c63] at H
    exact absurd H (by simp)
   rw [if_neg c63] at H
   have c63b0 : (t289 == 0) = false := beq_eq_false_iff_ne.mpr c63
   have c63b1 : (t289 != 0) = true := bne_iff_ne.mpr c63
   by_cases c64 : t290 = 0
   ·rw [if_pos c64] at H
    exact absurd H (by simp)
   rw [if_neg c64] at H
   have c64b0 : (t290 == 0) = false := beq_eq_false_iff_ne.mpr c64
   have c64b1 : (t290 != 0) = true := bne_iff_ne.mpr c64
   replace H := Option.bind_eq_some_iff.mp H
   obtain ⟨⟨t291, t292⟩, A650, H⟩ := H
   replace H : ((impl_product.f (wrap64 (Int.tdiv (wrap64 (Int.tdiv (ji56) t287)) t290)) (wrap64 (Int.tdiv (wrap64 (Int.tdiv a1_1 t288)) t289))).bind fun bt293 => (if t292 = true then (if bt293.2 = true then (some (t291, bt293.1, true)) else (some (0, 0, false))) else (some (0, 0, false)))) = some (r1, r2, r3) := H
   have A65 := Aside0.mk A650
   clear A650
   replace H := Option.bind_eq_some_iff.mp H
   obtain ⟨⟨t293, t294⟩, A660, H⟩ := H
   replace H : (if t292 = true then (if t294 = true then (some (t291, t293, true)) else (some (0, 0, false))) else (some (0, 0, false))) = some (r1, r2, r3) := H
   have A66 := Aside0.mk A660
   clear A660
   have H' := Aside0.mk H
   clear H
   have hnb75 := NB283_281.out
   have hnc75 := NB281_283.out
   have hnb76 := NB283_282.out
   have hnc76 := NB282_283.out
   have hcz77_0 := bc0 BK283
   have hcz77_1 := bc1 BK283
   have hfz77_0 := blk_frozen BK283.out 0
   have hfz77_1 := blk_frozen BK283.out 1
   have hnb78 := NB282_281.out
   have hnc78 := NB281_282.out
   have hcz79_0 := bc0 BK282
   have hcz79_1 := bc1 BK282
   have hfz79_0 := blk_frozen BK282.out 0
   have hfz79_1 := blk_frozen BK282.out 1
   have hcz80_0 := bc0 BK281
   have hcz80_1 := bc1 BK281
   have hfz80_0 := blk_frozen BK281.out 0
   have hfz80_1 := blk_frozen BK281.out 1
   have H := H'.out
   clear H'
   by_cases c67 : t292 = true
   rotate_left
   ·replace c67 := Bool.eq_false_iff.mpr c67
    subst c67
    have H1 : (some (0, 0, false)) = some (r1, r2, r3) := by rw [if_neg (show ¬ (false = true) by decide)] at H; exact H
    clear H
    have H := H1
    clear H1
    simp only [Option.some.injEq, Prod.mk.injEq] at H
    obtain ⟨rfl, rfl, rfl⟩ := H
    go_wp2_with (first | (go_at_call 184; (with_reducible refine (impl_gcd.calls kj3 ji55 ji56 t287 _ A57.out).mono ?_); rintro e w' ⟨rfl, ⟨nd, rfl⟩⟩; (try first | exact ⟨rfl, _, World.drewN_drewN _ _ _⟩ | exact ⟨rfl, _, Eq.trans (World.drewN_drewN _ _ _) (congrArg (World.drewN _) (Nat.add_assoc _ _ _))⟩)) | (go_at_call 184; (with_reducible refine (impl_gcd.calls kj3 a0_1 a1_1 t288 _ A58.out).mono ?_); rintro e w' ⟨rfl, ⟨nd, rfl⟩⟩; (try first | exact ⟨rfl, _, World.drewN_drewN _ _ _⟩ | exact ⟨rfl, _, Eq.trans (World.drewN_drewN _ _ _) (congrArg (World.drewN _) (Nat.add_assoc _ _ _))⟩)) | (go_at_call 184; (with_reducible refine (impl_gcd.calls kj3 (wrap64 (Int.tdiv (ji55) t287)) (wrap64 (Int.tdiv a1_1 t288)) t289 _ A61.out).mono ?_); rintro e w' ⟨rfl, ⟨nd, rfl⟩⟩; (try first | exact ⟨rfl, _, World.drewN_drewN _ _ _⟩ | exact ⟨rfl, _, Eq.trans (World.drewN_drewN _ _ _) (congrArg (World.drewN _) (Nat.add_assoc _ _ _))⟩)) | (go_at_call 184; (with_reducible refine (impl_gcd.calls kj3 (wrap64 (Int.tdiv (ji56) t287)) (wrap64 (Int.tdiv a0_1 t288)) t290 _ A62.out).mono ?_); rintro e w' ⟨rfl, ⟨nd, rfl⟩⟩; (try first | exact ⟨rfl, _, World.drewN_drewN _ _ _⟩ | exact ⟨rfl, _, Eq.trans (World.drewN_drewN _ _ _) (congrArg (World.drewN _) (Nat.add_assoc _ _ _))⟩)) | (go_at_call 185; (with_reducible refine (impl_product.calls (wrap64 (Int.tdiv (wrap64 (Int.tdiv (ji55) t287)) t289)) (wrap64 (Int.tdiv (wrap64 (Int.tdiv a0_1 t288)) t290)) t291 false _ A65.out).mono ?_); rintro e w' ⟨rfl, ⟨nd, rfl⟩⟩; (try first | exact ⟨rfl, _, World.drewN_drewN _ _ _⟩ | exact ⟨rfl, _, Eq.trans (World.drewN_drewN _ _ _) (congrArg (World.drewN _) (Nat.add_assoc _ _ _))⟩)) | (go_at_call 185; (with_reducible refine (impl_product.calls (wrap64 (Int.tdiv (wrap64 (Int.tdiv (ji56) t287)) t290)) (wrap64 (Int.tdiv (wrap64 (Int.tdiv a1_1 t288)) t289)) t293 t294 _ A66.out).mono ?_); rintro e w' ⟨rfl, ⟨nd, rfl⟩⟩; (try first | exact ⟨rfl, _, World.drewN_drewN _ _ _⟩ | exact ⟨rfl, _, Eq.trans (World.drewN_drewN _ _ _) (congrArg (World.drewN _) (Nat.add_assoc _ _ _))⟩)))
    repeat (go_quiet (first | (go_at_call 184; (with_reducible refine (impl_gcd.calls kj3 ji55 ji56 t287 _ A57.out).mono ?_); rintro e w' ⟨rfl, ⟨nd, rfl⟩⟩; (try first | exact ⟨rfl, _, World.drewN_drewN _ _ _⟩ | exact ⟨rfl, _, Eq.trans (World.drewN_drewN _ _ _) (congrArg (World.drewN _) (Nat.add_assoc _ _ _))⟩)) | (go_at_call 184; (with_reducible refine (impl_gcd.calls kj3 a0_1 a1_1 t288 _ A58.out).mono ?_); rintro e w' ⟨rfl, ⟨nd, rfl⟩⟩; (try first | exact ⟨rfl, _, World.drewN_drewN _ _ _⟩ | exact ⟨rfl, _, Eq.trans (World.drewN_drewN _ _ _) (congrArg (World.drewN _) (Nat.add_assoc _ _ _))⟩)) | (go_at_call 184; (with_reducible refine (impl_gcd.calls kj3 (wrap64 (Int.tdiv (ji55) t287)) (wrap64 (Int.tdiv a1_1 t288)) t289 _ A61.out).mono ?_); rintro e w' ⟨rfl, ⟨nd, rfl⟩⟩; (try first | exact ⟨rfl, _, World.drewN_drewN _ _ _⟩ | exact ⟨rfl, _, Eq.trans (World.drewN_drewN _ _ _) (congrArg (World.drewN _) (Nat.add_assoc _ _ _))⟩)) | (go_at_call 184; (with_reducible refine (impl_gcd.calls kj3 (wrap64 (Int.tdiv (ji56) t287)) (wrap64 (Int.tdiv a0_1 t288)) t290 _ A62.out).mono ?_); rintro e w' ⟨rfl, ⟨nd, rfl⟩⟩; (try first | exact ⟨rfl, _, World.drewN_drewN _ _ _⟩ | exact ⟨rfl, _, Eq.trans (World.drewN_drewN _ _ _) (congrArg (World.drewN _) (Nat.add_assoc _ _ _))⟩)) | (go_at_call 185; (with_reducible refine (impl_product.calls (wrap64 (Int.tdiv (wrap64 (Int.tdiv (ji55) t287)) t289)) (wrap64 (Int.tdiv (wrap64 (Int.tdiv a0_1 t288)) t290)) t291 false _ A65.out).mono ?_); rintro e w' ⟨rfl, ⟨nd, rfl⟩⟩; (try first | exact ⟨rfl, _, World.drewN_drewN _ _ _⟩ | exact ⟨rfl, _, Eq.trans (World.drewN_drewN _ _ _) (congrArg (World.drewN _) (Nat.add_assoc _ _ _))⟩)) | (go_at_call 185; (with_reducible refine (impl_product.calls (wrap64 (Int.tdiv (wrap64 (Int.tdiv (ji56) t287)) t290)) (wrap64 (Int.tdiv (wrap64 (Int.tdiv a1_1 t288)) t289)) t293 t294 _ A66.out).mono ?_); rintro e w' ⟨rfl, ⟨nd, rfl⟩⟩; (try first | exact ⟨rfl, _, World.drewN_drewN _ _ _⟩ | exact ⟨rfl, _, Eq.trans (World.drewN_drewN _ _ _) (congrArg (World.drewN _) (Nat.add_assoc _ _ _))⟩))); try go_wp2_with (first | (go_at_call 184; (with_reducible refine (impl_gcd.calls kj3 ji55 ji56 t287 _ A57.out).mono ?_); rintro e w' ⟨rfl, ⟨nd, rfl⟩⟩; (try first | exact ⟨rfl, _, World.drewN_drewN _ _ _⟩ | exact ⟨rfl, _, Eq.trans (World.drewN_drewN _ _ _) (congrArg (World.drewN _) (Nat.add_assoc _ _ _))⟩)) | (go_at_call 184; (with_reducible refine (impl_gcd.calls kj3 a0_1 a1_1 t288 _ A58.out).mono ?_); rintro e w' ⟨rfl, ⟨nd, rfl⟩⟩; (try first | exact ⟨rfl, _, World.drewN_drewN _ _ _⟩ | exact ⟨rfl, _, Eq.trans (World.drewN_drewN _ _ _) (congrArg (World.drewN _) (Nat.add_assoc _ _ _))⟩)) | (go_at_call 184; (with_reducible refine (impl_gcd.calls kj3 (wrap64 (Int.tdiv (ji55) t287)) (wrap64 (Int.tdiv a1_1 t288)) t289 _ A61.out).mono ?_); rintro e w' ⟨rfl, ⟨nd, rfl⟩⟩; (try first | exact ⟨rfl, _, World.drewN_drewN _ _ _⟩ | exact ⟨rfl, _, Eq.trans (World.drewN_drewN _ _ _) (congrArg (World.drewN _) (Nat.add_assoc _ _ _))⟩)) | (go_at_call 184; (with_reducible refine (impl_gcd.calls kj3 (wrap64 (Int.tdiv (ji56) t287)) (wrap64 (Int.tdiv a0_1 t288)) t290 _ A62.out).mono ?_); rintro e w' ⟨rfl, ⟨nd, rfl⟩⟩; (try first | exact ⟨rfl, _, World.drewN_drewN _ _ _⟩ | exact ⟨rfl, _, Eq.trans (World.drewN_drewN _ _ _) (congrArg (World.drewN _) (Nat.add_assoc _ _ _))⟩)) | (go_at_call 185; (with_reducible refine (impl_product.calls (wrap64 (Int.tdiv (wrap64 (Int.tdiv (ji55) t287)) t289)) (wrap64 (Int.tdiv (wrap64 (Int.tdiv a0_1 t288)) t290)) t291 false _ A65.out).mono ?_); rintro e w' ⟨rfl, ⟨nd, rfl⟩⟩; (try first | exact ⟨rfl, _, World.drewN_drewN _ _ _⟩ | exact ⟨rfl, _, Eq.trans (World.drewN_drewN _ _ _) (congrArg (World.drewN _) (Nat.add_assoc _ _ _))⟩)) | (go_at_call 185; (with_reducible refine (impl_product.calls (wrap64 (Int.tdiv (wrap64 (Int.tdiv (ji56) t287)) t290)) (wrap64 (Int.tdiv (wrap64 (Int.tdiv a1_1 t288)) t289)) t293 t294 _ A66.out).mono ?_); rintro e w' ⟨rfl, ⟨nd, rfl⟩⟩; (try first | exact ⟨rfl, _, World.drewN_drewN _ _ _⟩ | exact ⟨rfl, _, Eq.trans (World.drewN_drewN _ _ _) (congrArg (World.drewN _) (Nat.add_assoc _ _ _))⟩))))
    go_ret3
    exact ⟨by first | rfl | (simp [errW_none, errW_some] <;> rfl) | (simp only [← hji55, ← hji56]; first | rfl | (simp [errW_none, errW_some] <;> rfl)) | (simp [*, errW_none, errW_some] <;> rfl), bw HB⟩
   subst c67
   have H1 : (if t294 = true then (some (t291, t293, true)) else (some (0, 0, false))) = some (r1, r2, r3) := by rw [if_pos rfl] at H; exact H
   clear H
   have H := H1
   clear H1
   have H' := Aside0.mk H
   clear H
   have H := H'.out
   clear H'
   by_cases c68 : t294 = true
   ·subst c68
    have H1 : (some (t291, t293, true)) = some (r1, r2, r3) := by rw [if_pos rfl] at H; exact H
    clear H
    have H := H1
    clear H1
    simp only [Option.some.injEq, Prod.mk.injEq] at H
    obtain ⟨rfl, rfl, rfl⟩ := H
    go_wp2_with (first | (go_at_call 184; (with_reducible refine (impl_gcd.calls kj3 ji55 ji56 t287 _ A57.out).mono ?_); rintro e w' ⟨rfl, ⟨nd, rfl⟩⟩; (try first | exact ⟨rfl, _, World.drewN_drewN _ _ _⟩ | exact ⟨rfl, _, Eq.trans (World.drewN_drewN _ _ _) (congrArg (World.drewN _) (Nat.add_assoc _ _ _))⟩)) | (go_at_call 184; (with_reducible refine (impl_gcd.calls kj3 a0_1 a1_1 t288 _ A58.out).mono ?_); rintro e w' ⟨rfl, ⟨nd, rfl⟩⟩; (try first | exact ⟨rfl, _, World.drewN_drewN _ _ _⟩ | exact ⟨rfl, _, Eq.trans (World.drewN_drewN _ _ _) (congrArg (World.drewN _) (Nat.add_assoc _ _ _))⟩)) | (go_at_call 184; (with_reducible refine (impl_gcd.calls kj3 (wrap64 (Int.tdiv (ji55) t287)) (wrap64 (Int.tdiv a1_1 t288)) t289 _ A61.out).mono ?_); rintro e w' ⟨rfl, ⟨nd, rfl⟩⟩; (try first | exact ⟨rfl, _, World.drewN_drewN _ _ _⟩ | exact ⟨rfl, _, Eq.trans (World.drewN_drewN _ _ _) (congrArg (World.drewN _) (Nat.add_assoc _ _ _))⟩)) | (go_at_call 184; (with_reducible refine (impl_gcd.calls kj3 (wrap64 (Int.tdiv (ji56) t287)) (wrap64 (Int.tdiv a0_1 t288)) t290 _ A62.out).mono ?_); rintro e w' ⟨rfl, ⟨nd, rfl⟩⟩; (try first | exact ⟨rfl, _, World.drewN_drewN _ _ _⟩ | exact ⟨rfl, _, Eq.trans (World.drewN_drewN _ _ _) (congrArg (World.drewN _) (Nat.add_assoc _ _ _))⟩)) | (go_at_call 185; (with_reducible refine (impl_product.calls (wrap64 (Int.tdiv (wrap64 (Int.tdiv (ji55) t287)) t289)) (wrap64 (Int.tdiv (wrap64 (Int.tdiv a0_1 t288)) t290)) t291 true _ A65.out).mono ?_); rintro e w' ⟨rfl, ⟨nd, rfl⟩⟩; (try first | exact ⟨rfl, _, World.drewN_drewN _ _ _⟩ | exact ⟨rfl, _, Eq.trans (World.drewN_drewN _ _ _) (congrArg (World.drewN _) (Nat.add_assoc _ _ _))⟩)) | (go_at_call 185; (with_reducible refine (impl_product.calls (wrap64 (Int.tdiv (wrap64 (Int.tdiv (ji56) t287)) t290)) (wrap64 (Int.tdiv (wrap64 (Int.tdiv a1_1 t288)) t289)) t293 true _ A66.out).mono ?_); rintro e w' ⟨rfl, ⟨nd, rfl⟩⟩; (try first | exact ⟨rfl, _, World.drewN_drewN _ _ _⟩ | exact ⟨rfl, _, Eq.trans (World.drewN_drewN _ _ _) (congrArg (World.drewN _) (Nat.add_assoc _ _ _))⟩)))
    repeat (go_quiet (first | (go_at_call 184; (with_reducible refine (impl_gcd.calls kj3 ji55 ji56 t287 _ A57.out).mono ?_); rintro e w' ⟨rfl, ⟨nd, rfl⟩⟩; (try first | exact ⟨rfl, _, World.drewN_drewN _ _ _⟩ | exact ⟨rfl, _, Eq.trans (World.drewN_drewN _ _ _) (congrArg (World.drewN _) (Nat.add_assoc _ _ _))⟩)) | (go_at_call 184; (with_reducible refine (impl_gcd.calls kj3 a0_1 a1_1 t288 _ A58.out).mono ?_); rintro e w' ⟨rfl, ⟨nd, rfl⟩⟩; (try first | exact ⟨rfl, _, World.drewN_drewN _ _ _⟩ | exact ⟨rfl, _, Eq.trans (World.drewN_drewN _ _ _) (congrArg (World.drewN _) (Nat.add_assoc _ _ _))⟩)) | (go_at_call 184; (with_reducible refine (impl_gcd.calls kj3 (wrap64 (Int.tdiv (ji55) t287)) (wrap64 (Int.tdiv a1_1 t288)) t289 _ A61.out).mono ?_); rintro e w' ⟨rfl, ⟨nd, rfl⟩⟩; (try first | exact ⟨rfl, _, World.drewN_drewN _ _ _⟩ | exact ⟨rfl, _, Eq.trans (World.drewN_drewN _ _ _) (congrArg (World.drewN _) (Nat.add_assoc _ _ _))⟩)) | (go_at_call 184; (with_reducible refine (impl_gcd.calls kj3 (wrap64 (Int.tdiv (ji56) t287)) (wrap64 (Int.tdiv a0_1 t288)) t290 _ A62.out).mono ?_); rintro e w' ⟨rfl, ⟨nd, rfl⟩⟩; (try first | exact ⟨rfl, _, World.drewN_drewN _ _ _⟩ | exact ⟨rfl, _, Eq.trans (World.drewN_drewN _ _ _) (congrArg (World.drewN _) (Nat.add_assoc _ _ _))⟩)) | (go_at_call 185; (with_reducible refine (impl_product.calls (wrap64 (Int.tdiv (wrap64 (Int.tdiv (ji55) t287)) t289)) (wrap64 (Int.tdiv (wrap64 (Int.tdiv a0_1 t288)) t290)) t291 true _ A65.out).mono ?_); rintro e w' ⟨rfl, ⟨nd, rfl⟩⟩; (try first | exact ⟨rfl, _, World.drewN_drewN _ _ _⟩ | exact ⟨rfl, _, Eq.trans (World.drewN_drewN _ _ _) (congrArg (World.drewN _) (Nat.add_assoc _ _ _))⟩)) | (go_at_call 185; (with_reducible refine (impl_product.calls (wrap64 (Int.tdiv (wrap64 (Int.tdiv (ji56) t287)) t290)) (wrap64 (Int.tdiv (wrap64 (Int.tdiv a1_1 t288)) t289)) t293 true _ A66.out).mono ?_); rintro e w' ⟨rfl, ⟨nd, rfl⟩⟩; (try first | exact ⟨rfl, _, World.drewN_drewN _ _ _⟩ | exact ⟨rfl, _, Eq.trans (World.drewN_drewN _ _ _) (congrArg (World.drewN _) (Nat.add_assoc _ _ _))⟩))); try go_wp2_with (first | (go_at_call 184; (with_reducible refine (impl_gcd.calls kj3 ji55 ji56 t287 _ A57.out).mono ?_); rintro e w' ⟨rfl, ⟨nd, rfl⟩⟩; (try first | exact ⟨rfl, _, World.drewN_drewN _ _ _⟩ | exact ⟨rfl, _, Eq.trans (World.drewN_drewN _ _ _) (congrArg (World.drewN _) (Nat.add_assoc _ _ _))⟩)) | (go_at_call 184; (with_reducible refine (impl_gcd.calls kj3 a0_1 a1_1 t288 _ A58.out).mono ?_); rintro e w' ⟨rfl, ⟨nd, rfl⟩⟩; (try first | exact ⟨rfl, _, World.drewN_drewN _ _ _⟩ | exact ⟨rfl, _, Eq.trans (World.drewN_drewN _ _ _) (congrArg (World.drewN _) (Nat.add_assoc _ _ _))⟩)) | (go_at_call 184; (with_reducible refine (impl_gcd.calls kj3 (wrap64 (Int.tdiv (ji55) t287)) (wrap64 (Int.tdiv a1_1 t288)) t289 _ A61.out).mono ?_); rintro e w' ⟨rfl, ⟨nd, rfl⟩⟩; (try first | exact ⟨rfl, _, World.drewN_drewN _ _ _⟩ | exact ⟨rfl, _, Eq.trans (World.drewN_drewN _ _ _) (congrArg (World.drewN _) (Nat.add_assoc _ _ _))⟩)) | (go_at_call 184; (with_reducible refine (impl_gcd.calls kj3 (wrap64 (Int.tdiv (ji56) t287)) (wrap64 (Int.tdiv a0_1 t288)) t290 _ A62.out).mono ?_); rintro e w' ⟨rfl, ⟨nd, rfl⟩⟩; (try first | exact ⟨rfl, _, World.drewN_drewN _ _ _⟩ | exact ⟨rfl, _, Eq.trans (World.drewN_drewN _ _ _) (congrArg (World.drewN _) (Nat.add_assoc _ _ _))⟩)) | (go_at_call 185; (with_reducible refine (impl_product.calls (wrap64 (Int.tdiv (wrap64 (Int.tdiv (ji55) t287)) t289)) (wrap64 (Int.tdiv (wrap64 (Int.tdiv a0_1 t288)) t290)) t291 true _ A65.out).mono ?_); rintro e w' ⟨rfl, ⟨nd, rfl⟩⟩; (try first | exact ⟨rfl, _, World.drewN_drewN _ _ _⟩ | exact ⟨rfl, _, Eq.trans (World.drewN_drewN _ _ _) (congrArg (World.drewN _) (Nat.add_assoc _ _ _))⟩)) | (go_at_call 185; (with_reducible refine (impl_product.calls (wrap64 (Int.tdiv (wrap64 (Int.tdiv (ji56) t287)) t290)) (wrap64 (Int.tdiv (wrap64 (Int.tdiv a1_1 t288)) t289)) t293 true _ A66.out).mono ?_); rintro e w' ⟨rfl, ⟨nd, rfl⟩⟩; (try first | exact ⟨rfl, _, World.drewN_drewN _ _ _⟩ | exact ⟨rfl, _, Eq.trans (World.drewN_drewN _ _ _) (congrArg (World.drewN _) (Nat.add_assoc _ _ _))⟩))))
    go_ret3
    exact ⟨by first | rfl | (simp [errW_none, errW_some] <;> rfl) | (simp only [← hji55, ← hji56]; first | rfl | (simp [errW_none, errW_some] <;> rfl)) | (simp [*, errW_none, errW_some] <;> rfl), bw HB⟩
   replace c68 := Bool.eq_false_iff.mpr c68
   subst c68
   have H1 : (some (0, 0, false)) = some (r1, r2, r3) := by rw [if_neg (show ¬ (false = true) by decide)] at H; exact H
   clear H
   have H := H1
   clear H1
   simp only [Option.some.injEq, Prod.mk.injEq] at H
   obtain ⟨rfl, rfl, rfl⟩ := H
   go_wp2_with (first | (go_at_call 184; (with_reducible refine (impl_gcd.calls kj3 ji55 ji56 t287 _ A57.out).mono ?_); rintro e w' ⟨rfl, ⟨nd, rfl⟩⟩; (try first | exact ⟨rfl, _, World.drewN_drewN _ _ _⟩ | exact ⟨rfl, _, Eq.trans (World.drewN_drewN _ _ _) (congrArg (World.drewN _) (Nat.add_assoc _ _ _))⟩)) | (go_at_call 184; (with_reducible refine (impl_gcd.calls kj3 a0_1 a1_1 t288 _ A58.out).mono ?_); rintro e w' ⟨rfl, ⟨nd, rfl⟩⟩; (try first | exact ⟨rfl, _, World.drewN_drewN _ _ _⟩ | exact ⟨rfl, _, Eq.trans (World.drewN_drewN _ _ _) (congrArg (World.drewN _) (Nat.add_assoc _ _ _))⟩)) | (go_at_call 184; (with_reducible refine (impl_gcd.calls kj3 (wrap64 (Int.tdiv (ji55) t287)) (wrap64 (Int.tdiv a1_1 t288)) t289 _ A61.out).mono ?_); rintro e w' ⟨rfl, ⟨nd, rfl⟩⟩; (try first | exact ⟨rfl, _, World.drewN_drewN _ _ _⟩ | exact ⟨rfl, _, Eq.trans (World.drewN_drewN _ _ _) (congrArg (World.drewN _) (Nat.add_assoc _ _ _))⟩)) | (go_at_call 184; (with_reducible refine (impl_gcd.calls kj3 (wrap64 (Int.tdiv (ji56) t287)) (wrap64 (Int.tdiv a0_1 t288)) t290 _ A62.out).mono ?_); rintro e w' ⟨rfl, ⟨nd, rfl⟩⟩; (try first | exact ⟨rfl, _, World.drewN_drewN _ _ _⟩ | exact ⟨rfl, _, Eq.trans (World.drewN_drewN _ _ _) (congrArg (World.drewN _) (Nat.add_assoc _ _ _))⟩)) | (go_at_call 185; (with_reducible refine (impl_product.calls (wrap64 (Int.tdiv (wrap64 (Int.tdiv (ji55) t287)) t289)) (wrap64 (Int.tdiv (wrap64 (Int.tdiv a0_1 t288)) t290)) t291 true _ A65.out).mono ?_); rintro e w' ⟨rfl, ⟨nd, rfl⟩⟩; (try first | exact ⟨rfl, _, World.drewN_drewN _ _ _⟩ | exact ⟨rfl, _, Eq.trans (World.drewN_drewN _ _ _) (congrArg (World.drewN _) (Nat.add_assoc _ _ _))⟩)) | (go_at_call 185; (with_reducible refine (impl_product.calls (wrap64 (Int.tdiv (wrap64 (Int.tdiv (ji56) t287)) t290)) (wrap64 (Int.tdiv (wrap64 (Int.tdiv a1_1 t288)) t289)) t293 false _ A66.out).mono ?_); rintro e w' ⟨rfl, ⟨nd, rfl⟩⟩; (try first | exact ⟨rfl, _, World.drewN_drewN _ _ _⟩ | exact ⟨rfl, _, Eq.trans (World.drewN_drewN _ _ _) (congrArg (World.drewN _) (Nat.add_assoc _ _ _))⟩)))
   repeat (go_quiet (first | (go_at_call 184; (with_reducible refine (impl_gcd.calls kj3 ji55 ji56 t287 _ A57.out).mono ?_); rintro e w' ⟨rfl, ⟨nd, rfl⟩⟩; (try first | exact ⟨rfl, _, World.drewN_drewN _ _ _⟩ | exact ⟨rfl, _, Eq.trans (World.drewN_drewN _ _ _) (congrArg (World.drewN _) (Nat.add_assoc _ _ _))⟩)) | (go_at_call 184; (with_reducible refine (impl_gcd.calls kj3 a0_1 a1_1 t288 _ A58.out).mono ?_); rintro e w' ⟨rfl, ⟨nd, rfl⟩⟩; (try first | exact ⟨rfl, _, World.drewN_drewN _ _ _⟩ | exact ⟨rfl, _, Eq.trans (World.drewN_drewN _ _ _) (congrArg (World.drewN _) (Nat.add_assoc _ _ _))⟩)) | (go_at_call 184; (with_reducible refine (impl_gcd.calls kj3 (wrap64 (Int.tdiv (ji55) t287)) (wrap64 (Int.tdiv a1_1 t288)) t289 _ A61.out).mono ?_); rintro e w' ⟨rfl, ⟨nd, rfl⟩⟩; (try first | exact ⟨rfl, _, World.drewN_drewN _ _ _⟩ | exact ⟨rfl, _, Eq.trans (World.drewN_drewN _ _ _) (congrArg (World.drewN _) (Nat.add_assoc _ _ _))⟩)) | (go_at_call 184; (with_reducible refine (impl_gcd.calls kj3 (wrap64 (Int.tdiv (ji56) t287)) (wrap64 (Int.tdiv a0_1 t288)) t290 _ A62.out).mono ?_); rintro e w' ⟨rfl, ⟨nd, rfl⟩⟩; (try first | exact ⟨rfl, _, World.drewN_drewN _ _ _⟩ | exact ⟨rfl, _, Eq.trans (World.drewN_drewN _ _ _) (congrArg (World.drewN _) (Nat.add_assoc _ _ _))⟩)) | (go_at_call 185; (with_reducible refine (impl_product.calls (wrap64 (Int.tdiv (wrap64 (Int.tdiv (ji55) t287)) t289)) (wrap64 (Int.tdiv (wrap64 (Int.tdiv a0_1 t288)) t290)) t291 true _ A65.out).mono ?_); rintro e w' ⟨rfl, ⟨nd, rfl⟩⟩; (try first | exact ⟨rfl, _, World.drewN_drewN _ _ _⟩ | exact ⟨rfl, _, Eq.trans (World.drewN_drewN _ _ _) (congrArg (World.drewN _) (Nat.add_assoc _ _ _))⟩)) | (go_at_call 185; (with_reducible refine (impl_product.calls (wrap64 (Int.tdiv (wrap64 (Int.tdiv (ji56) t287)) t290)) (wrap64 (Int.tdiv (wrap64 (Int.tdiv a1_1 t288)) t289)) t293 false _ A66.out).mono ?_); rintro e w' ⟨rfl, ⟨nd, rfl⟩⟩; (try first | exact ⟨rfl, _, World.drewN_drewN _ _ _⟩ | exact ⟨rfl, _, Eq.trans (World.drewN_drewN _ _ _) (congrArg (World.drewN _) (Nat.add_assoc _ _ _))⟩))); try go_wp2_with (first | (go_at_call 184; (with_reducible refine (impl_gcd.calls kj3 ji55 ji56 t287 _ A57.out).mono ?_); rintro e w' ⟨rfl, ⟨nd, rfl⟩⟩; (try first | exact ⟨rfl, _, World.drewN_drewN _ _ _⟩ | exact ⟨rfl, _, Eq.trans (World.drewN_drewN _ _ _) (congrArg (World.drewN _) (Nat.add_assoc _ _ _))⟩)) | (go_at_call 184; (with_reducible refine (impl_gcd.calls kj3 a0_1 a1_1 t288 _ A58.out).mono ?_); rintro e w' ⟨rfl, ⟨nd, rfl⟩⟩; (try first | exact ⟨rfl, _, World.drewN_drewN _ _ _⟩ | exact ⟨rfl, _, Eq.trans (World.drewN_drewN _ _ _) (congrArg (World.drewN _) (Nat.add_assoc _ _ _))⟩)) | (go_at_call 184; (with_reducible refine (impl_gcd.calls kj3 (wrap64 (Int.tdiv (ji55) t287)) (wrap64 (Int.tdiv a1_1 t288)) t289 _ A61.out).mono ?_); rintro e w' ⟨rfl, ⟨nd, rfl⟩⟩; (try first | exact ⟨rfl, _, World.drewN_drewN _ _ _⟩ | exact ⟨rfl, _, Eq.trans (World.drewN_drewN _ _ _) (congrArg (World.drewN _) (Nat.add_assoc _ _ _))⟩)) | (go_at_call 184; (with_reducible refine (impl_gcd.calls kj3 (wrap64 (Int.tdiv (ji56) t287)) (wrap64 (Int.tdiv a0_1 t288)) t290 _ A62.out).mono ?_); rintro e w' ⟨rfl, ⟨nd, rfl⟩⟩; (try first | exact ⟨rfl, _, World.drewN_drewN _ _ _⟩ | exact ⟨rfl, _, Eq.trans (World.drewN_drewN _ _ _) (congrArg (World.drewN _) (Nat.add_assoc _ _ _))⟩)) | (go_at_call 185; (with_reducible refine (impl_product.calls (wrap64 (Int.tdiv (wrap64 (Int.tdiv (ji55) t287)) t289)) (wrap64 (Int.tdiv (wrap64 (Int.tdiv a0_1 t288)) t290)) t291 true _ A65.out).mono ?_); rintro e w' ⟨rfl, ⟨nd, rfl⟩⟩; (try first | exact ⟨rfl, _, World.drewN_drewN _ _ _⟩ | exact ⟨rfl, _, Eq.trans (World.drewN_drewN _ _ _) (congrArg (World.drewN _) (Nat.add_assoc _ _ _))⟩)) | (go_at_call 185; (with_reducible refine (impl_product.calls (wrap64 (Int.tdiv (wrap64 (Int.tdiv (ji56) t287)) t290)) (wrap64 (Int.tdiv (wrap64 (Int.tdiv a1_1 t288)) t289)) t293 false _ A66.out).mono ?_); rintro e w' ⟨rfl, ⟨nd, rfl⟩⟩; (try first | exact ⟨rfl, _, World.drewN_drewN _ _ _⟩ | exact ⟨rfl, _, Eq.trans (World.drewN_drewN _ _ _) (congrArg (World.drewN _) (Nat.add_assoc _ _ _))⟩))))
   go_ret3
   exact ⟨by first | rfl | (simp [errW_none, errW_some] <;> rfl) | (simp only [← hji55, ← hji56]; first | rfl | (simp [errW_none, errW_some] <;> rfl)) | (simp [*, errW_none, errW_some] <;> rfl), bw HB⟩

/-! ### spec_l1Sign: function 237 -/
def spec_l1Sign.f (a0 : Int) : Option (Int) := if a0 > 0 then (some 1) else (if a0 < 0 then (some (-1)) else (some 0))
set_option maxHeartbeats 8000000 in
set_option maxRecDepth 100000 in
theorem spec_l1Sign.calls (a0 : Int) (r : Int) (w : World) (h : spec_l1Sign.f a0 = some r) :
  Calls Try.prog 237 #[.int .i64 a0] w fun e w' => e = .returned (.int .i64 r) ∧ Drawn0 w w' := by
 have H : (if a0 > 0 then (some 1) else (if a0 < 0 then (some (-1)) else (some 0))) = some r := h
 clear h
 by_cases c2 : a0 > 0
 ·rw [if_pos c2] at H
  have c2b0 : decide (0 < a0) = true := decide_eq_true c2
  clear c2
  obtain rfl := Option.some.inj H
  go_enter Try.func237, Try.ntmps237
  go_wp2
  go_ret
  exact ⟨by first | rfl | (simp; done) | (simp [*]; done), by repeat (first | exact Drawn0.refl _ | apply Drawn0.step)⟩
 rw [if_neg c2] at H
 have c2b0 : decide (0 < a0) = false := decide_eq_false c2
 clear c2
 by_cases c3 : a0 < 0
 rotate_left
 ·rw [if_neg c3] at H
  have c3b0 : decide (a0 < 0) = false := decide_eq_false c3
  clear c3
  obtain rfl := Option.some.inj H
  go_enter Try.func237, Try.ntmps237
  go_wp2
  go_ret
  exact ⟨by first | rfl | (simp; done) | (simp [*]; done), by repeat (first | exact Drawn0.refl _ | apply Drawn0.step)⟩
 rw [if_pos c3] at H
 have c3b0 : decide (a0 < 0) = true := decide_eq_true c3
 clear c3
 obtain rfl := Option.some.inj H
 go_enter Try.func237, Try.ntmps237
 go_wp2
 go_ret
 exact ⟨by first | rfl | (simp; done) | (simp [*]; done), by repeat (first | exact Drawn0.refl _ | apply Drawn0.step)⟩

/-! ### spec_saGap: function 186 -/
def spec_saGap.f (a0_0 : Int) (a0_1 : Int) (a1_0 : Int) (a1_1 : Int) : Option (Int × Int × Int × Int) := (spec_l1Sign.f (wrap64 ((wrap64 (a0_0 * a1_1)) - (wrap64 (a1_0 * a0_1))))).bind fun t298 => ((spec_l1Abs.f (wrap64 ((wrap64 (a0_0 * a1_1)) - (wrap64 (a1_0 * a0_1))))).bind fun t299 => (some (t298, t299, a0_1, a1_1)))
def spec_saGap.T2 : Bool × List (List Nat × List Nat) := (true, [([], []), ([0], [0]), ([], []), ([2, 1], [2]), ([1, 3], [1, 3]), ([], []), ([5], [5]), ([], []), ([7], [7]), ([6, 8], [6, 8]), ([4, 9], [4, 9]), ([10, 3, 0, 1, 2, 3, 4, 5, 6, 7, 8, 9, 10], [10])])
def spec_saGap.B2 : List Nat := [0, 1, 0, 7, 15, 0, 32, 0, 128, 480, 1023, 2047]
theorem spec_saGap.tab2 : rtab .any (opsOf Try.f186 2) = spec_saGap.T2 := by kernel_rfl
theorem spec_saGap.bits2 : waitsOk spec_saGap.T2.2 spec_saGap.B2 = true := by kernel_rfl
set_option maxHeartbeats 8000000 in
set_option maxRecDepth 100000 in
theorem spec_saGap.calls (a0_0 : Int) (a0_1 : Int) (a1_0 : Int) (a1_1 : Int) (r1 : Int) (r2 : Int) (r3 : Int) (r4 : Int) (w : World) (h : spec_saGap.f a0_0 a0_1 a1_0 a1_1 = some (r1, r2, r3, r4)) :
  Calls Try.prog 186 #[.agg #[.int .i64 a0_0, .int .i64 a0_1], .agg #[.int .i64 a1_0, .int .i64 a1_1]] w fun e w' => e = .returned (.agg #[.int .i64 r1, .int .i64 r2, .int .i64 r3, .int .i64 r4]) ∧ Below w.heap.size w w' := by
 have hu78 := Try.underlying78
 have hu178 := Try.underlying178
 have hu176 := Try.underlying176
 have hu150 := Try.underlying150
 have HB := Aside0.mk (Below.refl w.heap.size w)
 have H : ((spec_l1Sign.f (wrap64 ((wrap64 (a0_0 * a1_1)) - (wrap64 (a1_0 * a0_1))))).bind fun t298 => ((spec_l1Abs.f (wrap64 ((wrap64 (a0_0 * a1_1)) - (wrap64 (a1_0 * a0_1))))).bind fun t299 => (some (t298, t299, a0_1, a1_1)))) = some (r1, r2, r3, r4) := h
 clear h
 replace H := Option.bind_eq_some_iff.mp H
 obtain ⟨t298, A30, H⟩ := H
 replace H : ((spec_l1Abs.f (wrap64 ((wrap64 (a0_0 * a1_1)) - (wrap64 (a1_0 * a0_1))))).bind fun t299 => (some (t298, t299, a0_1, a1_1))) = some (r1, r2, r3, r4) := H
 have A3 := Aside0.mk A30
 clear A30
 replace H := Option.bind_eq_some_iff.mp H
 obtain ⟨t299, A40, H⟩ := H
 replace H : (some (t298, t299, a0_1, a1_1)) = some (r1, r2, r3, r4) := H
 have A4 := Aside0.mk A40
 clear A40
 simp only [Option.some.injEq, Prod.mk.injEq] at H
 obtain ⟨rfl, rfl, rfl, rfl⟩ := H
 go_enter Try.func186, Try.ntmps186
 try go_wp2_with (first | ((with_reducible refine gate_dst (N := 2) rfl ?_); refine bx 2 #[.int .i64 a0_0, .int .i64 a0_1] 78 ?_; intro gb295 hg w5 hbox hb; have BK295 := Aside0.mk (hbox); have GW295 := ge HB hg; have GE295 := ge HB hg; replace HB := bs HB hb; clear hb hbox hg) | ((with_reducible refine gate_dst (N := 3) rfl ?_); refine bx 3 #[.int .i64 a1_0, .int .i64 a1_1] 78 ?_; intro gb296 hg w6 hbox hb; have BK296 := Aside0.mk (hbox); have GW296 := ge HB hg; have GE296 := ge HB hg; replace HB := bs HB hb; have NB295_296 := nl BK295 hg; have NB296_295 := nr BK295 hg; replace BK295 := bb BK295 hb; clear hb hbox hg) | ((with_reducible refine gate_dst (N := 4) rfl ?_); refine bx 4 #[.int .i64 0, .int .i64 0, .int .i64 0, .int .i64 0] 178 ?_; intro gb297 hg w7 hbox hb; have BK297 := Aside0.mk (hbox); have GW297 := ge HB hg; have GE297 := ge HB hg; replace HB := bs HB hb; have NB295_297 := nl BK295 hg; have NB297_295 := nr BK295 hg; replace BK295 := bb BK295 hb; have NB296_297 := nl BK296 hg; have NB297_296 := nr BK296 hg; replace BK296 := bb BK296 hb; clear hb hbox hg; have hnb8 := NB295_296.out; have hnc8 := NB296_295.out; have hnb9 := NB295_297.out; have hnc9 := NB297_295.out; have hcz10_0 := bc0 BK295; have hcz10_1 := bc1 BK295; have hfz10_0 := blk_frozen BK295.out 0; have hfz10_1 := blk_frozen BK295.out 1; have hnb11 := NB296_297.out; have hnc11 := NB297_296.out; have hcz12_0 := bc0 BK296; have hcz12_1 := bc1 BK296; have hfz12_0 := blk_frozen BK296.out 0; have hfz12_1 := blk_frozen BK296.out 1))
 replace BK295 := Aside0.mk (blk_drew BK295.out)
 replace BK296 := Aside0.mk (blk_drew BK296.out)
 replace BK297 := Aside0.mk (blk_drew BK297.out)
 replace HB := Aside0.mk (below_drew1 HB.out)
 refine start_ (n := 12) (S := fun w' => w'.cell? ⟨gb295, 0, none⟩ = some (.int .i64 a0_0) ∧ w'.cell? ⟨gb295, 1, none⟩ = some (.int .i64 a0_1) ∧ w'.cell? ⟨gb296, 0, none⟩ = some (.int .i64 a1_0) ∧ w'.cell? ⟨gb296, 1, none⟩ = some (.int .i64 a1_1)) (ds := []) (bl 12 0) (by kernel_rfl) rfl rfl ⟨bc0 BK295, bc1 BK295, bc0 BK296, bc1 BK296⟩ (fun hHeld => ?_); refine with_tabW spec_saGap.tab2 spec_saGap.bits2 (fun HT_ HW_ => ?_)
 generalize w7.drew = w13 at BK295 BK296 BK297 HB hHeld ⊢
 refine pu 0 17 (bl 12 1) HT_.out (v := ?_) (a' := ?_) ?_ ?_ ?_
 rotate_left
 ·intro w'
  go_simp
  with_reducible rfl
 rotate_left
 ·simp only [Act.put, List.setIfInBounds_toArray, List.set_cons_zero, List.set_cons_succ, i64_w, i32_w]
  rfl
 refine pu 2 19 (bl 12 5) HT_.out (v := ?_) (a' := ?_) ?_ ?_ ?_
 rotate_left
 ·intro w'
  go_simp
  with_reducible rfl
 rotate_left
 ·simp only [Act.put, List.setIfInBounds_toArray, List.set_cons_zero, List.set_cons_succ, i64_w, i32_w]
  rfl
 refine pu 5 22 (bl 12 37) HT_.out (v := ?_) (a' := ?_) ?_ ?_ ?_
 rotate_left
 ·intro w'
  go_simp
  with_reducible rfl
 rotate_left
 ·simp only [Act.put, List.setIfInBounds_toArray, List.set_cons_zero, List.set_cons_succ, i64_w, i32_w]
  rfl
 refine pu 7 24 (bl 12 165) HT_.out (v := ?_) (a' := ?_) ?_ ?_ ?_
 rotate_left
 ·intro w'
  go_simp
  with_reducible rfl
 rotate_left
 ·simp only [Act.put, List.setIfInBounds_toArray, List.set_cons_zero, List.set_cons_succ, i64_w, i32_w]
  rfl
 refine tk 6 23 (bl 12 229) HT_.out HW_.out hHeld (v := ?_) (a' := ?_) ?_ ?_ ?_
 rotate_left
 ·rintro w' ⟨s0, s1, s2, s3⟩
  go_simp
  with_reducible rfl
 rotate_left
 ·simp only [Act.put, List.setIfInBounds_toArray, List.set_cons_zero, List.set_cons_succ, i64_w, i32_w]
  rfl
 refine tk 8 25 (bl 12 485) HT_.out HW_.out hHeld (v := ?_) (a' := ?_) ?_ ?_ ?_
 rotate_left
 ·rintro w' ⟨s0, s1, s2, s3⟩
  go_simp
  with_reducible rfl
 rotate_left
 ·simp only [Act.put, List.setIfInBounds_toArray, List.set_cons_zero, List.set_cons_succ, i64_w, i32_w]
  rfl
 refine pu 9 26 (bl 12 997) HT_.out (v := ?_) (a' := ?_) ?_ ?_ ?_
 rotate_left
 ·intro w'
  go_simp
  with_reducible rfl
 rotate_left
 ·simp only [Act.put, List.setIfInBounds_toArray, List.set_cons_zero, List.set_cons_succ, i64_w, i32_w]
  rfl
 refine on 1 18 (bl 12 999) HT_.out (fun K hK => ?_)
 refine gs Try.func237 #[.int .i64 (wrap64 ((wrap64 (a0_0 * a1_1)) - (wrap64 (a1_0 * a0_1))))] ?_
 with_reducible refine (spec_l1Sign.calls (wrap64 ((wrap64 (a0_0 * a1_1)) - (wrap64 (a1_0 * a0_1)))) t298 _ A3.out).mono ?_
 rintro e w' ⟨rfl, ⟨nd, rfl⟩⟩
 refine ⟨_, rfl, ?_⟩
 refine hK.out _ _ ⟨bc0 BK295, bc1 BK295, bc0 BK296, bc1 BK296⟩ (fun hHeld => ?_)
 clear hK K
 refine norm_ (a' := ?_) ?_ ?_
 rotate_left
 ·show Act.put _ (some 18) _ = _
  simp only [Act.put, List.setIfInBounds_toArray, List.set_cons_zero, List.set_cons_succ, i64_w, i32_w]
  rfl
 refine on 3 20 (bl 12 1007) HT_.out (fun K hK => ?_)
 refine gs Try.func236 #[.int .i64 (wrap64 ((wrap64 (a0_0 * a1_1)) - (wrap64 (a1_0 * a0_1))))] ?_
 with_reducible refine (spec_l1Abs.calls (wrap64 ((wrap64 (a0_0 * a1_1)) - (wrap64 (a1_0 * a0_1)))) t299 _ A4.out).mono ?_
 rintro e w' ⟨rfl, ⟨nd, rfl⟩⟩
 refine ⟨_, rfl, ?_⟩
 refine hK.out _ _ ⟨bc0 BK295, bc1 BK295, bc0 BK296, bc1 BK296⟩ (fun hHeld => ?_)
 clear hK K
 refine norm_ (a' := ?_) ?_ ?_
 rotate_left
 ·show Act.put _ (some 20) _ = _
  simp only [Act.put, List.setIfInBounds_toArray, List.set_cons_zero, List.set_cons_succ, i64_w, i32_w]
  rfl
 refine pu 4 21 (bl 12 1023) HT_.out (v := ?_) (a' := ?_) ?_ ?_ ?_
 rotate_left
 ·intro w'
  go_simp
  with_reducible rfl
 rotate_left
 ·simp only [Act.put, List.setIfInBounds_toArray, List.set_cons_zero, List.set_cons_succ, i64_w, i32_w]
  rfl
 refine pu 10 27 (bl 12 2047) HT_.out (v := ?_) (a' := ?_) ?_ ?_ ?_
 rotate_left
 ·intro w'
  go_simp
  with_reducible rfl
 rotate_left
 ·simp only [Act.put, List.setIfInBounds_toArray, List.set_cons_zero, List.set_cons_succ, i64_w, i32_w]
  rfl
 refine one_ (i := 11) (N := none) (bl 12 4095) rfl rfl (one_of HT_.out (by kernel_rfl)) (by decide) (fun K hK => ?_)
 have hs14 : w13.cell? ⟨gb297, 0, none⟩ = some (.int .i64 0) := bc0 BK297
 have hfs14 := blk_frozen BK297.out 0
 have hns14_0 := NB295_297.out
 have hns14_1 := NB296_297.out
 have hms14_0 := NB297_295.out
 have hms14_1 := NB297_296.out
 have hs15 : w13.cell? ⟨gb297, 1, none⟩ = some (.int .i64 0) := bc1 BK297
 have hfs15 := blk_frozen BK297.out 1
 have hns15_0 := NB295_297.out
 have hns15_1 := NB296_297.out
 have hms15_0 := NB297_295.out
 have hms15_1 := NB297_296.out
 have hs16 : w13.cell? ⟨gb297, 2, none⟩ = some (.int .i64 0) := bc2 BK297
 have hfs16 := blk_frozen BK297.out 2
 have hns16_0 := NB295_297.out
 have hns16_1 := NB296_297.out
 have hms16_0 := NB297_295.out
 have hms16_1 := NB297_296.out
 have hs17 : w13.cell? ⟨gb297, 3, none⟩ = some (.int .i64 0) := bc3 BK297
 have hfs17 := blk_frozen BK297.out 3
 have hns17_0 := NB295_297.out
 have hns17_1 := NB296_297.out
 have hms17_0 := NB297_295.out
 have hms17_1 := NB297_296.out
 refine skip_ (w1 := ?_) (by rfl) rfl ?_ ?_
 rotate_left
 ·go_simp
  rfl
 refine hK.out _ _ ⟨((cell_far (p := ⟨gb297, _, none⟩) NB295_297.out _).trans (((cell_far (p := ⟨gb297, _, none⟩) NB295_297.out _).trans (((cell_far (p := ⟨gb297, _, none⟩) NB295_297.out _).trans (((cell_far (p := ⟨gb297, _, none⟩) NB295_297.out _).trans (hHeld.1)))))))), ((cell_far (p := ⟨gb297, _, none⟩) NB295_297.out _).trans (((cell_far (p := ⟨gb297, _, none⟩) NB295_297.out _).trans (((cell_far (p := ⟨gb297, _, none⟩) NB295_297.out _).trans (((cell_far (p := ⟨gb297, _, none⟩) NB295_297.out _).trans (hHeld.2.1)))))))), ((cell_far (p := ⟨gb297, _, none⟩) NB296_297.out _).trans (((cell_far (p := ⟨gb297, _, none⟩) NB296_297.out _).trans (((cell_far (p := ⟨gb297, _, none⟩) NB296_297.out _).trans (((cell_far (p := ⟨gb297, _, none⟩) NB296_297.out _).trans (hHeld.2.2.1)))))))), ((cell_far (p := ⟨gb297, _, none⟩) NB296_297.out _).trans (((cell_far (p := ⟨gb297, _, none⟩) NB296_297.out _).trans (((cell_far (p := ⟨gb297, _, none⟩) NB296_297.out _).trans (((cell_far (p := ⟨gb297, _, none⟩) NB296_297.out _).trans (hHeld.2.2.2))))))))⟩ (fun hHeld => ?_)
 clear hK K
 refine done_ (done_of HT_.out (by kernel_rfl)) ?_
 try go_wp2
 refine bodyPost_ret (results_cell_row rfl _ _ gb297 178 #[.int .i64 t298, .int .i64 t299, .int .i64 a0_1, .int .i64 a1_1] (0, 0) _ rfl (by (with_reducible repeat (first | refine blk_drewN ?_ _ | refine blk_drew ?_ | refine blk_alloc ?_ _)); refine blk_put (cs := #[.int .i64 t298, .int .i64 t299, .int .i64 a0_1, .int .i64 0]) ?_ 3 _ rfl; (with_reducible repeat (first | refine blk_drewN ?_ _ | refine blk_drew ?_ | refine blk_alloc ?_ _)); refine blk_put (cs := #[.int .i64 t298, .int .i64 t299, .int .i64 0, .int .i64 0]) ?_ 2 _ rfl; (with_reducible repeat (first | refine blk_drewN ?_ _ | refine blk_drew ?_ | refine blk_alloc ?_ _)); refine blk_put (cs := #[.int .i64 t298, .int .i64 0, .int .i64 0, .int .i64 0]) ?_ 1 _ rfl; (with_reducible repeat (first | refine blk_drewN ?_ _ | refine blk_drew ?_ | refine blk_alloc ?_ _)); refine blk_put (cs := #[.int .i64 0, .int .i64 0, .int .i64 0, .int .i64 0]) ?_ 0 _ rfl; exact bk BK297) Try.underlying178 rfl (by kernel_rfl)) rfl ?_
 exact ⟨by first | rfl | (simp [errW_none, errW_some] <;> rfl) | (simp [*, errW_none, errW_some] <;> rfl), bw HB⟩

/-! ### spec_saProduct: function 238 -/
def spec_saProduct.l0 : Nat → Int → List Int → Int → Int → Option (Int × Bool)
 | 0, _, _, _, _ => none
 | k + 1, x4, x7, x8, x9 => if x9 < x8 then (if 0 ≤ x9 then (if x9 < (x7.length : Int) then (if x4 = 0 then (none) else (if (rd x7 x9) > (wrap64 (Int.tdiv (1000000000 : Int) x4)) then (some (0, false)) else (spec_saProduct.l0 k (wrap64 (x4 * (rd x7 x9))) x7 x8 (wrap64 (x9 + 1))))) else (none)) else (none)) else (some (x4, true))
def spec_saProduct.f (k : Nat) (l0 : List Int) : Option (Int × Bool) := spec_saProduct.l0 k 1 l0 (l0.length : Int) 0
theorem spec_saProduct.mono_l : ∀ k, (∀ y0 y1 y2 y3, LeO (spec_saProduct.l0 k y0 y1 y2 y3) (spec_saProduct.l0 (k + 1) y0 y1 y2 y3))
 | 0 => fun _ _ _ _ r h => by simp [spec_saProduct.l0] at h
 | k + 1 => by
  have ih0 := spec_saProduct.mono_l k
  ·intro y0 y1 y2 y3
   unfold spec_saProduct.l0
   repeat' first
   | (with_reducible exact ih0 _ _ _ _)
   | (with_reducible exact LeO.refl _)
   | (with_reducible exact LeO.none _)
   | (with_reducible refine LeO.ite ?_ ?_)
   | (with_reducible refine LeO.bind ?_ (fun _ => ?_))
   | exact ih0 _ _ _ _
   | exact LeO.none _
   | refine LeO.ite ?_ ?_
   | refine LeO.bind ?_ (fun _ => ?_)
theorem spec_saProduct.mono : ∀ a0 k, LeO (spec_saProduct.f k a0) (spec_saProduct.f (k + 1) a0) := by
 intro a0 k
 have ih0 := spec_saProduct.mono_l k
 unfold spec_saProduct.f
 repeat' first
   | (with_reducible exact ih0 _ _ _ _)
   | (with_reducible exact LeO.refl _)
   | (with_reducible exact LeO.none _)
   | (with_reducible refine LeO.ite ?_ ?_)
   | (with_reducible refine LeO.bind ?_ (fun _ => ?_))
   | exact ih0 _ _ _ _
   | exact LeO.none _
   | refine LeO.ite ?_ ?_
   | refine LeO.bind ?_ (fun _ => ?_)
set_option maxHeartbeats 8000000 in
set_option maxRecDepth 100000 in
theorem spec_saProduct.calls (k : Nat) (A0 : Option Addr) (c0 : Nat) (l0 : List Int) (r1 : Int) (r2 : Bool) (w : World) (hr0 : Kd.C (Kd.int .i64) w A0 l0.length l0) (hc0 : l0.length ≤ c0) (h : spec_saProduct.f k l0 = some (r1, r2)) :
  Calls Try.prog 238 #[.slice A0 l0.length c0] w fun e w' => e = .returned (.tuple #[.int .i64 r1, .bool r2]) ∧ Drawn0 w w' := by
 have HR0 := Aside0.mk hr0
 have HC0 := Aside0.mk hc0
 clear hr0 hc0
 have H : (spec_saProduct.l0 k 1 l0 (l0.length : Int) 0) = some (r1, r2) := h
 clear h
 have H' := Aside0.mk H
 clear H
 go_enter Try.func238, Try.ntmps238
 go_wp2
 try simp only [Act.put, List.setIfInBounds_toArray, List.set_cons_zero, List.set_cons_succ]
 go_loopg [4, 9] k (fun kq v4 v9 w' => ∃ (x4_1 : Int) (x9_1 : Int), v4 = .int .i64 x4_1 ∧ v9 = .int .i64 x9_1 ∧ Aside0 (spec_saProduct.l0 kq x4_1 l0 (l0.length : Int) x9_1 = some (r1, r2)) ∧ Aside0 (kq ≤ k) ∧ Drawn0 w w')
 case atStart => exact ⟨(1), (0), (by first | rfl | (simp; done) | (simp [*]; done)), (by first | rfl | (simp; done) | (simp [*]; done)), H', ⟨Nat.le_refl _⟩, by repeat (first | exact Drawn0.refl _ | apply Drawn0.step)⟩
 case round =>
  clear H'
  obtain ⟨x4_1, x9_1, rfl, rfl, HA, HK1, ⟨m1, rfl⟩⟩ := hrel
  cases gk with
  | zero => exact absurd HA.out (by simp [spec_saProduct.l0])
  | succ k1 =>
   have H := HA.out
   clear HA
   simp only [spec_saProduct.l0] at H
   by_cases c2 : x9_1 < (l0.length : Int)
   rotate_left
   ·rw [if_neg c2] at H
    have c2b0 : decide (x9_1 < (l0.length : Int)) = false := decide_eq_false c2
    clear c2
    simp only [Option.some.injEq, Prod.mk.injEq] at H
    obtain ⟨rfl, rfl⟩ := H
    go_wp2
    go_ret2
    exact ⟨by first | rfl | (simp; done) | (simp [*]; done), by repeat (first | exact Drawn0.refl _ | apply Drawn0.step)⟩
   rw [if_pos c2] at H
   have c2b0 : decide (x9_1 < (l0.length : Int)) = true := decide_eq_true c2
   clear c2
   by_cases c3 : 0 ≤ x9_1
   rotate_left
   ·rw [if_neg c3] at H
    exact absurd H (by simp)
   rw [if_pos c3] at H
   have c3b0 : decide (0 ≤ x9_1) = true := decide_eq_true c3
   clear c3
   by_cases c4 : x9_1 < (l0.length : Int)
   rotate_left
   ·rw [if_neg c4] at H
    exact absurd H (by simp)
   rw [if_pos c4] at H
   have c4b0 : decide (x9_1 < (l0.length : Int)) = true := decide_eq_true c4
   clear c4
   by_cases c5 : x4_1 = 0
   ·rw [if_pos c5] at H
    exact absurd H (by simp)
   rw [if_neg c5] at H
   have c5b0 : (x4_1 == 0) = false := beq_eq_false_iff_ne.mpr c5
   have c5b1 : (x4_1 != 0) = true := bne_iff_ne.mpr c5
   by_cases c6 : (rd l0 x9_1) > (wrap64 (Int.tdiv (1000000000 : Int) x4_1))
   ·rw [if_pos c6] at H
    have c6b0 : decide ((wrap64 (Int.tdiv (1000000000 : Int) x4_1)) < (rd l0 x9_1)) = true := decide_eq_true c6
    clear c6
    simp only [Option.some.injEq, Prod.mk.injEq] at H
    obtain ⟨rfl, rfl⟩ := H
    have p300 : 0 ≤ (x9_1 : Int) := of_decide_eq_true (by first | (with_reducible assumption) | assumption)
    have q300 : x9_1 < (l0.length : Int) := of_decide_eq_true (by first | (with_reducible assumption) | assumption)
    obtain ⟨ad300, e300, hx300_0⟩ := Kd.at_int HR0.out x9_1 p300 q300
    cases e300
    replace p300 := eq_true p300
    replace q300 := eq_true q300
    go_wp2
    go_ret2
    exact ⟨by first | rfl | (simp; done) | (simp [*]; done), by repeat (first | exact Drawn0.refl _ | apply Drawn0.step)⟩
   rw [if_neg c6] at H
   have c6b0 : decide ((wrap64 (Int.tdiv (1000000000 : Int) x4_1)) < (rd l0 x9_1)) = false := decide_eq_false c6
   clear c6
   have H' := Aside0.mk H
   clear H
   have p300 : 0 ≤ (x9_1 : Int) := of_decide_eq_true (by first | (with_reducible assumption) | assumption)
   have q300 : x9_1 < (l0.length : Int) := of_decide_eq_true (by first | (with_reducible assumption) | assumption)
   obtain ⟨ad300, e300, hx300_0⟩ := Kd.at_int HR0.out x9_1 p300 q300
   cases e300
   replace p300 := eq_true p300
   replace q300 := eq_true q300
   go_wp2
   go_roundg k1
   case measure => have := HK1.out; omega
   case rel => exact ⟨(wrap64 (x4_1 * (rd l0 x9_1))), (wrap64 (x9_1 + 1)), (by first | rfl | (simp; done) | (simp [*]; done)), (by first | rfl | (simp; done) | (simp [*]; done)), H', ⟨by have := HK1.out; omega⟩, by repeat (first | exact Drawn0.refl _ | apply Drawn0.step)⟩

/-! ### spec_saCross: function 187 -/
mutual
def spec_saCross.l0 : Nat → List Int → List Int → Int → Int → Option (Int × Int × Bool)
 | 0, _, _, _, _ => none
 | k + 1, x7, x8, x37, x38 => if x38 < x37 then (spec_saCross.l1 k x7 x8 x38 x37 x38 (x8.length : Int) 0) else ((spec_saProduct.f k x7).bind fun bt309 => ((spec_saProduct.f k x8).bind fun bt311 => (if bt309.2 = true then (some (bt309.1, bt311.1, bt311.2)) else (some (bt309.1, bt311.1, false)))))
def spec_saCross.l1 : Nat → List Int → List Int → Int → Int → Int → Int → Int → Option (Int × Int × Bool)
 | 0, _, _, _, _, _, _, _ => none
 | k + 1, x7, x8, x9, x37, x38, x42, x43 => if x43 < x42 then (if 0 ≤ x9 then (if x9 < (x7.length : Int) then (if 0 ≤ x43 then (if x43 < (x8.length : Int) then ((spec_veCommon.f k (rd x7 x9) (rd x8 x43)).bind fun t315 => (if t315 = 0 then (none) else (spec_saCross.l1 k (x7.set (x9 : Int).toNat (wrap64 (Int.tdiv (rd x7 x9) t315))) (x8.set (x43 : Int).toNat (wrap64 (Int.tdiv (rd x8 x43) t315))) x9 x37 x38 x42 (wrap64 (x43 + 1))))) else (none)) else (none)) else (none)) else (none)) else (spec_saCross.l0 k x7 x8 x37 (wrap64 (x38 + 1)))
end
def spec_saCross.f (k : Nat) (a0_0 : Int) (a0_1 : Int) (a0_2 : Int) (a0_3 : Int) (a1_0 : Int) (a1_1 : Int) (a1_2 : Int) (a1_3 : Int) : Option (Int × Int × Bool) := (some (([a1_1, a0_2, a0_3] : List Int) : List Int)).bind fun y303 => (spec_saCross.l0 k y303 (([a0_1, a1_2, a1_3] : List Int)) (y303.length : Int) 0)
theorem spec_saCross.mono_l : ∀ k, (∀ y0 y1 y2 y3, LeO (spec_saCross.l0 k y0 y1 y2 y3) (spec_saCross.l0 (k + 1) y0 y1 y2 y3)) ∧ (∀ y0 y1 y2 y3 y4 y5 y6, LeO (spec_saCross.l1 k y0 y1 y2 y3 y4 y5 y6) (spec_saCross.l1 (k + 1) y0 y1 y2 y3 y4 y5 y6))
 | 0 => ⟨fun _ _ _ _ r h => by simp [spec_saCross.l0] at h, fun _ _ _ _ _ _ _ r h => by simp [spec_saCross.l1] at h⟩
 | k + 1 => by
  obtain ⟨ih0, ih1⟩ := spec_saCross.mono_l k
  refine ⟨?_, ?_⟩
  ·intro y0 y1 y2 y3
   unfold spec_saCross.l0
   repeat' first
   | (with_reducible exact ih0 _ _ _ _)
   | (with_reducible exact ih1 _ _ _ _ _ _ _)
   | (with_reducible exact spec_saProduct.mono _ _)
   | (with_reducible exact spec_veCommon.mono _ _ _)
   | (with_reducible exact LeO.refl _)
   | (with_reducible exact LeO.none _)
   | (with_reducible refine LeO.ite ?_ ?_)
   | (with_reducible refine LeO.bind ?_ (fun _ => ?_))
   | exact ih0 _ _ _ _
   | exact ih1 _ _ _ _ _ _ _
   | exact spec_saProduct.mono _ _
   | exact spec_veCommon.mono _ _ _
   | exact LeO.none _
   | refine LeO.ite ?_ ?_
   | refine LeO.bind ?_ (fun _ => ?_)
  ·intro y0 y1 y2 y3 y4 y5 y6
   unfold spec_saCross.l1
   repeat' first
   | (with_reducible exact ih0 _ _ _ _)
   | (with_reducible exact ih1 _ _ _ _ _ _ _)
   | (with_reducible exact spec_saProduct.mono _ _)
   | (with_reducible exact spec_veCommon.mono _ _ _)
   | (with_reducible exact LeO.refl _)
   | (with_reducible exact LeO.none _)
   | (with_reducible refine LeO.ite ?_ ?_)
   | (with_reducible refine LeO.bind ?_ (fun _ => ?_))
   | exact ih0 _ _ _ _
   | exact ih1 _ _ _ _ _ _ _
   | exact spec_saProduct.mono _ _
   | exact spec_veCommon.mono _ _ _
   | exact LeO.none _
   | refine LeO.ite ?_ ?_
   | refine LeO.bind ?_ (fun _ => ?_)
theorem spec_saCross.mono : ∀ a0 a1 a2 a3 a4 a5 a6 a7 k, LeO (spec_saCross.f k a0 a1 a2 a3 a4 a5 a6 a7) (spec_saCross.f (k + 1) a0 a1 a2 a3 a4 a5 a6 a7) := by
 intro a0 a1 a2 a3 a4 a5 a6 a7 k
 obtain ⟨ih0, ih1⟩ := spec_saCross.mono_l k
 unfold spec_saCross.f
 repeat' first
   | (with_reducible exact ih0 _ _ _ _)
   | (with_reducible exact ih1 _ _ _ _ _ _ _)
   | (with_reducible exact spec_saProduct.mono _ _)
   | (with_reducible exact spec_veCommon.mono _ _ _)
   | (with_reducible exact LeO.refl _)
   | (with_reducible exact LeO.none _)
   | (with_reducible refine LeO.ite ?_ ?_)
   | (with_reducible refine LeO.bind ?_ (fun _ => ?_))
   | exact ih0 _ _ _ _
   | exact ih1 _ _ _ _ _ _ _
   | exact spec_saProduct.mono _ _
   | exact spec_veCommon.mono _ _ _
   | exact LeO.none _
   | refine LeO.ite ?_ ?_
   | refine LeO.bind ?_ (fun _ => ?_)
set_option maxHeartbeats 8000000 in
set_option maxRecDepth 100000 in
theorem spec_saCross.calls (k : Nat) (a0_0 : Int) (a0_1 : Int) (a0_2 : Int) (a0_3 : Int) (a1_0 : Int) (a1_1 : Int) (a1_2 : Int) (a1_3 : Int) (r1 : Int) (r2 : Int) (r3 : Bool) (w : World) (h : spec_saCross.f k a0_0 a0_1 a0_2 a0_3 a1_0 a1_1 a1_2 a1_3 = some (r1, r2, r3)) :
  Calls Try.prog 187 #[.agg #[.int .i64 a0_0, .int .i64 a0_1, .int .i64 a0_2, .int .i64 a0_3], .agg #[.int .i64 a1_0, .int .i64 a1_1, .int .i64 a1_2, .int .i64 a1_3]] w fun e w' => e = .returned (.tuple #[.int .i64 r1, .int .i64 r2, .bool r3]) ∧ Below w.heap.size w w' := by
 have hu178 := Try.underlying178
 have HB := Aside0.mk (Below.refl w.heap.size w)
 have H : ((some (([a1_1, a0_2, a0_3] : List Int) : List Int)).bind fun y303 => (spec_saCross.l0 k y303 (([a0_1, a1_2, a1_3] : List Int)) (y303.length : Int) 0)) = some (r1, r2, r3) := h
 clear h
 obtain ⟨y303, hy303⟩ : ∃ y_ : List Int, y_ = (([a1_1, a0_2, a0_3] : List Int)) := ⟨_, rfl⟩
 replace H : (spec_saCross.l0 k y303 (([a0_1, a1_2, a1_3] : List Int)) (y303.length : Int) 0) = some (r1, r2, r3) := by first | (rw [hy303]; with_reducible exact H) | (have H2_ := (Option.bind_some _ _).symm.trans H; rw [hy303]; with_reducible exact H2_) | (have H2_ := (Option.bind_some _ _).symm.trans H; with_reducible exact H2_) | with_reducible exact H | (rw [hy303]; exact H) | exact H
 have Ny303 := Aside0.mk hy303
 clear hy303
 obtain ⟨y306, hy306⟩ : ∃ y_ : List Int, y_ = (([a0_1, a1_2, a1_3] : List Int)) := ⟨_, rfl⟩
 replace H : (spec_saCross.l0 k y303 y306 (y303.length : Int) 0) = some (r1, r2, r3) := by first | (rw [hy306]; with_reducible exact H) | (have H2_ := (Option.bind_some _ _).symm.trans H; rw [hy306]; with_reducible exact H2_) | (have H2_ := (Option.bind_some _ _).symm.trans H; with_reducible exact H2_) | with_reducible exact H | (rw [hy306]; exact H) | exact H
 have Ny306 := Aside0.mk hy306
 clear hy306
 have H' := Aside0.mk H
 clear H
 go_enter Try.func187, Try.ntmps187
 go_wp2_with (first | ((with_reducible refine gate_dst (N := 2) rfl ?_); refine bx 2 #[.int .i64 a0_0, .int .i64 a0_1, .int .i64 a0_2, .int .i64 a0_3] 178 ?_; intro gb301 hg w3 hbox hb; have BK301 := Aside0.mk (hbox); have GW301 := ge HB hg; have GE301 := ge HB hg; replace HB := bs HB hb; clear hb hbox hg) | ((with_reducible refine gate_dst (N := 3) rfl ?_); refine bx 3 #[.int .i64 a1_0, .int .i64 a1_1, .int .i64 a1_2, .int .i64 a1_3] 178 ?_; intro gb302 hg w4 hbox hb; have BK302 := Aside0.mk (hbox); have GW302 := ge HB hg; have GE302 := ge HB hg; replace HB := bs HB hb; have NB301_302 := nl BK301 hg; have NB302_301 := nr BK301 hg; replace BK301 := bb BK301 hb; clear hb hbox hg; have hnb5 := NB302_301.out; have hnc5 := NB301_302.out; have hcz6_0 := bc0 BK302; have hcz6_1 := bc1 BK302; have hcz6_2 := bc2 BK302; have hcz6_3 := bc3 BK302; have hfz6_0 := blk_frozen BK302.out 0; have hfz6_1 := blk_frozen BK302.out 1; have hfz6_2 := blk_frozen BK302.out 2; have hfz6_3 := blk_frozen BK302.out 3; have hcz7_0 := bc0 BK301; have hcz7_1 := bc1 BK301; have hcz7_2 := bc2 BK301; have hcz7_3 := bc3 BK301; have hfz7_0 := blk_frozen BK301.out 0; have hfz7_1 := blk_frozen BK301.out 1; have hfz7_2 := blk_frozen BK301.out 2; have hfz7_3 := blk_frozen BK301.out 3) | ((with_reducible refine gate_dst (N := 25) rfl ?_); refine Kd.R_lit (Kd.int .i64) _ 3 ?hg (N := 25) ?hd (xs := ([a1_1, a0_2, a0_3] : List Int)) (inner := [.int .i64 a1_1, .int .i64 a0_2, .int .i64 a0_3]) (ok := fun _ => True) (okp := fun _ => True) ?hr ?hp (fun _ hk => hk) trivial (Below.refl _ _) (Nat.le_refl _) (by simp) ?_; (case hd => rfl); (case hg => rfl); (case hr => first | (go_simp; done) | (go_simp; rfl)); (case hp => exact (Reps.one (show Kd.M (Kd.int .i64) _ _ _ a1_1 [.int .i64 a1_1] from rfl) (Reps.one (show Kd.M (Kd.int .i64) _ _ _ a0_2 [.int .i64 a0_2] from rfl) (Reps.one (show Kd.M (Kd.int .i64) _ _ _ a0_3 [.int .i64 a0_3] from rfl) (Reps.none _ _))))); intro v304 w8 ho9 hb hg_ hnew_; clear hg_ hnew_; (first | rw [← Ny303.out] at ho9 | (simp only [Int.reduceToNat] at ho9; rw [← Ny303.out] at ho9)); have HO305 := lo ho9 HB; replace BK301 := bb BK301 hb; replace BK302 := bb BK302 hb; replace HB := bs HB hb; clear hb ho9; have hcz10_0 := bc0 BK301; have hcz10_1 := bc1 BK301; have hcz10_2 := bc2 BK301; have hcz10_3 := bc3 BK301; have hfz10_0 := blk_frozen BK301.out 0; have hfz10_1 := blk_frozen BK301.out 1; have hfz10_2 := blk_frozen BK301.out 2; have hfz10_3 := blk_frozen BK301.out 3; have hcz11_0 := bc0 BK302; have hcz11_1 := bc1 BK302; have hcz11_2 := bc2 BK302; have hcz11_3 := bc3 BK302; have hfz11_0 := blk_frozen BK302.out 0; have hfz11_1 := blk_frozen BK302.out 1; have hfz11_2 := blk_frozen BK302.out 2; have hfz11_3 := blk_frozen BK302.out 3) | ((with_reducible refine gate_dst (N := 35) rfl ?_); refine Kd.R_lit (Kd.int .i64) _ 3 ?hg (N := 35) ?hd (xs := ([a0_1, a1_2, a1_3] : List Int)) (inner := [.int .i64 a0_1, .int .i64 a1_2, .int .i64 a1_3]) (ok := fun _ => True) (okp := fun _ => True) ?hr ?hp (fun _ hk => hk) trivial (Below.refl _ _) (Nat.le_refl _) (by simp) ?_; (case hd => rfl); (case hg => rfl); (case hr => first | (go_simp; done) | (go_simp; rfl)); (case hp => exact (Reps.one (show Kd.M (Kd.int .i64) _ _ _ a0_1 [.int .i64 a0_1] from rfl) (Reps.one (show Kd.M (Kd.int .i64) _ _ _ a1_2 [.int .i64 a1_2] from rfl) (Reps.one (show Kd.M (Kd.int .i64) _ _ _ a1_3 [.int .i64 a1_3] from rfl) (Reps.none _ _))))); intro v307 w12 ho13 hb hg_ hnew_; clear hg_ hnew_; (first | rw [← Ny306.out] at ho13 | (simp only [Int.reduceToNat] at ho13; rw [← Ny306.out] at ho13)); have HO308 := Aside0.mk (Kd.R_lower (Kd.R_new' ho13 (Kd.R_lt (rk HO305))) (below_size (bw HB))); replace HO305 := Aside0.mk (Kd.R_elder' (rk HO305) (Kd.R_base ho13) hb); replace BK301 := bb BK301 hb; replace BK302 := bb BK302 hb; replace HB := bs HB hb; clear hb ho13; obtain ⟨Ao14, co14, eo14⟩ := Kd.R_slice HO305.out; subst eo14))
 repeat (go_quiet (first | ((with_reducible refine gate_dst (N := 2) rfl ?_); refine bx 2 #[.int .i64 a0_0, .int .i64 a0_1, .int .i64 a0_2, .int .i64 a0_3] 178 ?_; intro gb301 hg w3 hbox hb; have n0_ := bs HB hb; have n1_ := Aside0.mk (hbox); have n2_ := ge HB hg; have n3_ := ge HB hg; clear HB; have HB := n0_; have BK301 := n1_; have GW301 := n2_; have GE301 := n3_; clear n0_ n1_ n2_ n3_; clear hb hbox hg) | ((with_reducible refine gate_dst (N := 3) rfl ?_); refine bx 3 #[.int .i64 a1_0, .int .i64 a1_1, .int .i64 a1_2, .int .i64 a1_3] 178 ?_; intro gb302 hg w4 hbox hb; have n0_ := bb BK301 hb; have n1_ := bs HB hb; have n2_ := Aside0.mk (hbox); have n3_ := ge HB hg; have n4_ := ge HB hg; have n5_ := nl BK301 hg; have n6_ := nr BK301 hg; clear BK301; clear HB; have BK301 := n0_; have HB := n1_; have BK302 := n2_; have GW302 := n3_; have GE302 := n4_; have NB301_302 := n5_; have NB302_301 := n6_; clear n0_ n1_ n2_ n3_ n4_ n5_ n6_; clear hb hbox hg; have hnb5 := NB302_301.out; have hnc5 := NB301_302.out; have hcz6_0 := bc0 BK302; have hcz6_1 := bc1 BK302; have hcz6_2 := bc2 BK302; have hcz6_3 := bc3 BK302; have hfz6_0 := blk_frozen BK302.out 0; have hfz6_1 := blk_frozen BK302.out 1; have hfz6_2 := blk_frozen BK302.out 2; have hfz6_3 := blk_frozen BK302.out 3; have hcz7_0 := bc0 BK301; have hcz7_1 := bc1 BK301; have hcz7_2 := bc2 BK301; have hcz7_3 := bc3 BK301; have hfz7_0 := blk_frozen BK301.out 0; have hfz7_1 := blk_frozen BK301.out 1; have hfz7_2 := blk_frozen BK301.out 2; have hfz7_3 := blk_frozen BK301.out 3) | ((with_reducible refine gate_dst (N := 25) rfl ?_); refine Kd.R_lit (Kd.int .i64) _ 3 ?hg (N := 25) ?hd (xs := ([a1_1, a0_2, a0_3] : List Int)) (inner := [.int .i64 a1_1, .int .i64 a0_2, .int .i64 a0_3]) (ok := fun _ => True) (okp := fun _ => True) ?hr ?hp (fun _ hk => hk) trivial (Below.refl _ _) (Nat.le_refl _) (by simp) ?_; (case hd => rfl); (case hg => rfl); (case hr => first | (go_simp; done) | (go_simp; rfl)); (case hp => exact (Reps.one (show Kd.M (Kd.int .i64) _ _ _ a1_1 [.int .i64 a1_1] from rfl) (Reps.one (show Kd.M (Kd.int .i64) _ _ _ a0_2 [.int .i64 a0_2] from rfl) (Reps.one (show Kd.M (Kd.int .i64) _ _ _ a0_3 [.int .i64 a0_3] from rfl) (Reps.none _ _))))); intro v304 w8 ho9 hb hg_ hnew_; clear hg_ hnew_; (first | rw [← Ny303.out] at ho9 | (simp only [Int.reduceToNat] at ho9; rw [← Ny303.out] at ho9)); have n0_ := lo ho9 HB; have n1_ := bb BK301 hb; have n2_ := bb BK302 hb; have n3_ := bs HB hb; clear BK301; clear BK302; clear HB; have HO305 := n0_; have BK301 := n1_; have BK302 := n2_; have HB := n3_; clear n0_ n1_ n2_ n3_; clear hb ho9; have hcz10_0 := bc0 BK301; have hcz10_1 := bc1 BK301; have hcz10_2 := bc2 BK301; have hcz10_3 := bc3 BK301; have hfz10_0 := blk_frozen BK301.out 0; have hfz10_1 := blk_frozen BK301.out 1; have hfz10_2 := blk_frozen BK301.out 2; have hfz10_3 := blk_frozen BK301.out 3; have hcz11_0 := bc0 BK302; have hcz11_1 := bc1 BK302; have hcz11_2 := bc2 BK302; have hcz11_3 := bc3 BK302; have hfz11_0 := blk_frozen BK302.out 0; have hfz11_1 := blk_frozen BK302.out 1; have hfz11_2 := blk_frozen BK302.out 2; have hfz11_3 := blk_frozen BK302.out 3) | ((with_reducible refine gate_dst (N := 35) rfl ?_); refine Kd.R_lit (Kd.int .i64) _ 3 ?hg (N := 35) ?hd (xs := ([a0_1, a1_2, a1_3] : List Int)) (inner := [.int .i64 a0_1, .int .i64 a1_2, .int .i64 a1_3]) (ok := fun _ => True) (okp := fun _ => True) ?hr ?hp (fun _ hk => hk) trivial (Below.refl _ _) (Nat.le_refl _) (by simp) ?_; (case hd => rfl); (case hg => rfl); (case hr => first | (go_simp; done) | (go_simp; rfl)); (case hp => exact (Reps.one (show Kd.M (Kd.int .i64) _ _ _ a0_1 [.int .i64 a0_1] from rfl) (Reps.one (show Kd.M (Kd.int .i64) _ _ _ a1_2 [.int .i64 a1_2] from rfl) (Reps.one (show Kd.M (Kd.int .i64) _ _ _ a1_3 [.int .i64 a1_3] from rfl) (Reps.none _ _))))); intro v307 w12 ho13 hb hg_ hnew_; clear hg_ hnew_; (first | rw [← Ny306.out] at ho13 | (simp only [Int.reduceToNat] at ho13; rw [← Ny306.out] at ho13)); have n0_ := Aside0.mk (Kd.R_elder' (rk HO305) (Kd.R_base ho13) hb); have n1_ := Aside0.mk (Kd.R_lower (Kd.R_new' ho13 (Kd.R_lt (rk HO305))) (below_size (bw HB))); have n2_ := bb BK301 hb; have n3_ := bb BK302 hb; have n4_ := bs HB hb; clear HO305; clear BK301; clear BK302; clear HB; have HO305 := n0_; have HO308 := n1_; have BK301 := n2_; have BK302 := n3_; have HB := n4_; clear n0_ n1_ n2_ n3_ n4_; clear hb ho13; obtain ⟨Ao14, co14, eo14⟩ := Kd.R_slice HO305.out; subst eo14)); try go_wp2_with (first | ((with_reducible refine gate_dst (N := 2) rfl ?_); refine bx 2 #[.int .i64 a0_0, .int .i64 a0_1, .int .i64 a0_2, .int .i64 a0_3] 178 ?_; intro gb301 hg w3 hbox hb; have n0_ := bs HB hb; have n1_ := Aside0.mk (hbox); have n2_ := ge HB hg; have n3_ := ge HB hg; clear HB; have HB := n0_; have BK301 := n1_; have GW301 := n2_; have GE301 := n3_; clear n0_ n1_ n2_ n3_; clear hb hbox hg) | ((with_reducible refine gate_dst (N := 3) rfl ?_); refine bx 3 #[.int .i64 a1_0, .int .i64 a1_1, .int .i64 a1_2, .int .i64 a1_3] 178 ?_; intro gb302 hg w4 hbox hb; have n0_ := bb BK301 hb; have n1_ := bs HB hb; have n2_ := Aside0.mk (hbox); have n3_ := ge HB hg; have n4_ := ge HB hg; have n5_ := nl BK301 hg; have n6_ := nr BK301 hg; clear BK301; clear HB; have BK301 := n0_; have HB := n1_; have BK302 := n2_; have GW302 := n3_; have GE302 := n4_; have NB301_302 := n5_; have NB302_301 := n6_; clear n0_ n1_ n2_ n3_ n4_ n5_ n6_; clear hb hbox hg; have hnb5 := NB302_301.out; have hnc5 := NB301_302.out; have hcz6_0 := bc0 BK302; have hcz6_1 := bc1 BK302; have hcz6_2 := bc2 BK302; have hcz6_3 := bc3 BK302; have hfz6_0 := blk_frozen BK302.out 0; have hfz6_1 := blk_frozen BK302.out 1; have hfz6_2 := blk_frozen BK302.out 2; have hfz6_3 := blk_frozen BK302.out 3; have hcz7_0 := bc0 BK301; have hcz7_1 := bc1 BK301; have hcz7_2 := bc2 BK301; have hcz7_3 := bc3 BK301; have hfz7_0 := blk_frozen BK301.out 0; have hfz7_1 := blk_frozen BK301.out 1; have hfz7_2 := blk_frozen BK301.out 2; have hfz7_3 := blk_frozen BK301.out 3) | ((with_reducible refine gate_dst (N := 25) rfl ?_); refine Kd.R_lit (Kd.int .i64) _ 3 ?hg (N := 25) ?hd (xs := ([a1_1, a0_2, a0_3] : List Int)) (inner := [.int .i64 a1_1, .int .i64 a0_2, .int .i64 a0_3]) (ok := fun _ => True) (okp := fun _ => True) ?hr ?hp (fun _ hk => hk) trivial (Below.refl _ _) (Nat.le_refl _) (by simp) ?_; (case hd => rfl); (case hg => rfl); (case hr => first | (go_simp; done) | (go_simp; rfl)); (case hp => exact (Reps.one (show Kd.M (Kd.int .i64) _ _ _ a1_1 [.int .i64 a1_1] from rfl) (Reps.one (show Kd.M (Kd.int .i64) _ _ _ a0_2 [.int .i64 a0_2] from rfl) (Reps.one (show Kd.M (Kd.int .i64) _ _ _ a0_3 [.int .i64 a0_3] from rfl) (Reps.none _ _))))); intro v304 w8 ho9 hb hg_ hnew_; clear hg_ hnew_; (first | rw [← Ny303.out] at ho9 | (simp only [Int.reduceToNat] at ho9; rw [← Ny303.out] at ho9)); have n0_ := lo ho9 HB; have n1_ := bb BK301 hb; have n2_ := bb BK302 hb; have n3_ := bs HB hb; clear BK301; clear BK302; clear HB; have HO305 := n0_; have BK301 := n1_; have BK302 := n2_; have HB := n3_; clear n0_ n1_ n2_ n3_; clear hb ho9; have hcz10_0 := bc0 BK301; have hcz10_1 := bc1 BK301; have hcz10_2 := bc2 BK301; have hcz10_3 := bc3 BK301; have hfz10_0 := blk_frozen BK301.out 0; have hfz10_1 := blk_frozen BK301.out 1; have hfz10_2 := blk_frozen BK301.out 2; have hfz10_3 := blk_frozen BK301.out 3; have hcz11_0 := bc0 BK302; have hcz11_1 := bc1 BK302; have hcz11_2 := bc2 BK302; have hcz11_3 := bc3 BK302; have hfz11_0 := blk_frozen BK302.out 0; have hfz11_1 := blk_frozen BK302.out 1; have hfz11_2 := blk_frozen BK302.out 2; have hfz11_3 := blk_frozen BK302.out 3) | ((with_reducible refine gate_dst (N := 35) rfl ?_); refine Kd.R_lit (Kd.int .i64) _ 3 ?hg (N := 35) ?hd (xs := ([a0_1, a1_2, a1_3] : List Int)) (inner := [.int .i64 a0_1, .int .i64 a1_2, .int .i64 a1_3]) (ok := fun _ => True) (okp := fun _ => True) ?hr ?hp (fun _ hk => hk) trivial (Below.refl _ _) (Nat.le_refl _) (by simp) ?_; (case hd => rfl); (case hg => rfl); (case hr => first | (go_simp; done) | (go_simp; rfl)); (case hp => exact (Reps.one (show Kd.M (Kd.int .i64) _ _ _ a0_1 [.int .i64 a0_1] from rfl) (Reps.one (show Kd.M (Kd.int .i64) _ _ _ a1_2 [.int .i64 a1_2] from rfl) (Reps.one (show Kd.M (Kd.int .i64) _ _ _ a1_3 [.int .i64 a1_3] from rfl) (Reps.none _ _))))); intro v307 w12 ho13 hb hg_ hnew_; clear hg_ hnew_; (first | rw [← Ny306.out] at ho13 | (simp only [Int.reduceToNat] at ho13; rw [← Ny306.out] at ho13)); have n0_ := Aside0.mk (Kd.R_elder' (rk HO305) (Kd.R_base ho13) hb); have n1_ := Aside0.mk (Kd.R_lower (Kd.R_new' ho13 (Kd.R_lt (rk HO305))) (below_size (bw HB))); have n2_ := bb BK301 hb; have n3_ := bb BK302 hb; have n4_ := bs HB hb; clear HO305; clear BK301; clear BK302; clear HB; have HO305 := n0_; have HO308 := n1_; have BK301 := n2_; have BK302 := n3_; have HB := n4_; clear n0_ n1_ n2_ n3_ n4_; clear hb ho13; obtain ⟨Ao14, co14, eo14⟩ := Kd.R_slice HO305.out; subst eo14)))
 try simp only [Act.put, List.setIfInBounds_toArray, List.set_cons_zero, List.set_cons_succ]
 go_loopg [38] k (fun kq v38 w' => ∃ (x7_1 : List Int) (x8_1 : List Int) (x38_1 : Int), v38 = .int .i64 x38_1 ∧ Aside0 (spec_saCross.l0 kq x7_1 x8_1 (y303.length : Int) x38_1 = some (r1, r2, r3)) ∧ Aside0 (kq ≤ k) ∧ Aside0 (Kd.R (Kd.int .i64) 3 w' w.heap.size (fun k_ => some k_ ≠ (v307 : Value).ownBlock) (.slice Ao14 y303.length co14) x7_1) ∧ Aside0 (Kd.R (Kd.int .i64) 3 w' w.heap.size (fun k_ => some k_ ≠ ((.slice Ao14 y303.length co14) : Value).ownBlock) v307 x8_1) ∧ Aside0 (w'.heap[gb301]? = some (.cells #[.int .i64 a0_0, .int .i64 a0_1, .int .i64 a0_2, .int .i64 a0_3] 178 (0, 0))) ∧ Aside0 (w'.heap[gb302]? = some (.cells #[.int .i64 a1_0, .int .i64 a1_1, .int .i64 a1_2, .int .i64 a1_3] 178 (0, 0))) ∧ Aside0 (Below w.heap.size w w'))
 case atStart => exact ⟨(y303), (y306), (0), (by first | rfl | (simp; done) | (simp [*]; done)), H', ⟨Nat.le_refl _⟩, ⟨by (with_reducible repeat (first | apply Kd.R_alloc | apply Kd.R_drewN | apply Kd.R_drew)); exact Kd.R_mono HO305.out (fun _ hk => hk.2)⟩, ⟨by (with_reducible repeat (first | apply Kd.R_alloc | apply Kd.R_drewN | apply Kd.R_drew)); exact Kd.R_mono HO308.out (fun _ hk => hk.2)⟩, ⟨bk BK301⟩, ⟨bk BK302⟩, ⟨bw HB⟩⟩
 case round =>
  clear H'
  try clear c1
  try clear p2
  try clear c5
  try clear hcz10_0
  try clear hcz10_1
  try clear hcz10_2
  try clear hcz10_3
  try clear hcz11_0
  try clear hcz11_1
  try clear hcz11_2
  try clear hcz11_3
  try clear hcz6_0
  try clear hcz6_1
  try clear hcz6_2
  try clear hcz6_3
  try clear hcz7_0
  try clear hcz7_1
  try clear hcz7_2
  try clear hcz7_3
  try clear hfz10_0
  try clear hfz10_1
  try clear hfz10_2
  try clear hfz10_3
  try clear hfz11_0
  try clear hfz11_1
  try clear hfz11_2
  try clear hfz11_3
  try clear hfz6_0
  try clear hfz6_1
  try clear hfz6_2
  try clear hfz6_3
  try clear hfz7_0
  try clear hfz7_1
  try clear hfz7_2
  try clear hfz7_3
  obtain ⟨x7_1, x8_1, x38_1, rfl, HA, HK1, HO_7, HO_8, BK301, BK302, HB⟩ := hrel
  have hl7_1 := (Kd.R_reads' HO_7.out).1
  rw [hl7_1] at HO_7
  (try simp only [hl7_1])
  (try simp only [hl7_1] at BK301)
  (try simp only [hl7_1] at BK302)
  (try simp only [hl7_1] at HO_8)
  cases gk with
  | zero => exact absurd HA.out (by simp [spec_saCross.l0])
  | succ k1 =>
   have H := HA.out
   clear HA
   simp only [spec_saCross.l0] at H
   by_cases c15 : x38_1 < (y303.length : Int)
   rotate_left
   ·rw [if_neg c15] at H
    have c15b0 : decide (x38_1 < (y303.length : Int)) = false := decide_eq_false c15
    (try rw [hl7_1] at c15b0)
    clear c15
    replace H := Option.bind_eq_some_iff.mp H
    obtain ⟨⟨t309, t310⟩, A300, H⟩ := H
    replace H : ((spec_saProduct.f k1 x8_1).bind fun bt311 => (if t310 = true then (some (t309, bt311.1, bt311.2)) else (some (t309, bt311.1, false)))) = some (r1, r2, r3) := H
    have A30 := Aside0.mk A300
    clear A300
    replace H := Option.bind_eq_some_iff.mp H
    obtain ⟨⟨t311, t312⟩, A310, H⟩ := H
    replace H : (if t310 = true then (some (t309, t311, t312)) else (some (t309, t311, false))) = some (r1, r2, r3) := H
    have A31 := Aside0.mk A310
    clear A310
    by_cases c32 : t310 = true
    ·subst c32
     have H1 : (some (t309, t311, t312)) = some (r1, r2, r3) := by rw [if_pos rfl] at H; exact H
     clear H
     have H := H1
     clear H1
     simp only [Option.some.injEq, Prod.mk.injEq] at H
     obtain ⟨rfl, rfl, rfl⟩ := H
     go_wp2_with (first | (go_at_call 238; (with_reducible refine (spec_saProduct.calls k1 _ _ x7_1 t309 true _ ?side1 ?side2 A30.out).mono ?_); (case side1 => exact cr HO_7); (case side2 => exact (Kd.R_reads' HO_7.out).2.1); rintro e w' ⟨rfl, ⟨nd, rfl⟩⟩; (try first | exact ⟨rfl, _, World.drewN_drewN _ _ _⟩ | exact ⟨rfl, _, Eq.trans (World.drewN_drewN _ _ _) (congrArg (World.drewN _) (Nat.add_assoc _ _ _))⟩); obtain ⟨Ao33, co33, eo33⟩ := Kd.R_slice HO_8.out; subst eo33) | (go_at_call 238; (with_reducible refine (spec_saProduct.calls k1 _ _ x8_1 t311 t312 _ ?side1 ?side2 A31.out).mono ?_); (case side1 => exact cr HO_8); (case side2 => exact (Kd.R_reads' HO_8.out).2.1); rintro e w' ⟨rfl, ⟨nd, rfl⟩⟩; (try first | exact ⟨rfl, _, World.drewN_drewN _ _ _⟩ | exact ⟨rfl, _, Eq.trans (World.drewN_drewN _ _ _) (congrArg (World.drewN _) (Nat.add_assoc _ _ _))⟩)))
     repeat (go_quiet (first | (go_at_call 238; (with_reducible refine (spec_saProduct.calls k1 _ _ x7_1 t309 true _ ?side1 ?side2 A30.out).mono ?_); (case side1 => exact cr HO_7); (case side2 => exact (Kd.R_reads' HO_7.out).2.1); rintro e w' ⟨rfl, ⟨nd, rfl⟩⟩; (try first | exact ⟨rfl, _, World.drewN_drewN _ _ _⟩ | exact ⟨rfl, _, Eq.trans (World.drewN_drewN _ _ _) (congrArg (World.drewN _) (Nat.add_assoc _ _ _))⟩); obtain ⟨Ao33, co33, eo33⟩ := Kd.R_slice HO_8.out; subst eo33) | (go_at_call 238; (with_reducible refine (spec_saProduct.calls k1 _ _ x8_1 t311 t312 _ ?side1 ?side2 A31.out).mono ?_); (case side1 => exact cr HO_8); (case side2 => exact (Kd.R_reads' HO_8.out).2.1); rintro e w' ⟨rfl, ⟨nd, rfl⟩⟩; (try first | exact ⟨rfl, _, World.drewN_drewN _ _ _⟩ | exact ⟨rfl, _, Eq.trans (World.drewN_drewN _ _ _) (congrArg (World.drewN _) (Nat.add_assoc _ _ _))⟩))); try go_wp2_with (first | (go_at_call 238; (with_reducible refine (spec_saProduct.calls k1 _ _ x7_1 t309 true _ ?side1 ?side2 A30.out).mono ?_); (case side1 => exact cr HO_7); (case side2 => exact (Kd.R_reads' HO_7.out).2.1); rintro e w' ⟨rfl, ⟨nd, rfl⟩⟩; (try first | exact ⟨rfl, _, World.drewN_drewN _ _ _⟩ | exact ⟨rfl, _, Eq.trans (World.drewN_drewN _ _ _) (congrArg (World.drewN _) (Nat.add_assoc _ _ _))⟩); obtain ⟨Ao33, co33, eo33⟩ := Kd.R_slice HO_8.out; subst eo33) | (go_at_call 238; (with_reducible refine (spec_saProduct.calls k1 _ _ x8_1 t311 t312 _ ?side1 ?side2 A31.out).mono ?_); (case side1 => exact cr HO_8); (case side2 => exact (Kd.R_reads' HO_8.out).2.1); rintro e w' ⟨rfl, ⟨nd, rfl⟩⟩; (try first | exact ⟨rfl, _, World.drewN_drewN _ _ _⟩ | exact ⟨rfl, _, Eq.trans (World.drewN_drewN _ _ _) (congrArg (World.drewN _) (Nat.add_assoc _ _ _))⟩))))
     go_ret3
     exact ⟨by first | rfl | (simp [errW_none, errW_some] <;> rfl) | (simp [*, errW_none, errW_some] <;> rfl), bw HB⟩
    replace c32 := Bool.eq_false_iff.mpr c32
    subst c32
    have H1 : (some (t309, t311, false)) = some (r1, r2, r3) := by rw [if_neg (show ¬ (false = true) by decide)] at H; exact H
    clear H
    have H := H1
    clear H1
    simp only [Option.some.injEq, Prod.mk.injEq] at H
    obtain ⟨rfl, rfl, rfl⟩ := H
    go_wp2_with (first | (go_at_call 238; (with_reducible refine (spec_saProduct.calls k1 _ _ x7_1 t309 false _ ?side1 ?side2 A30.out).mono ?_); (case side1 => exact cr HO_7); (case side2 => exact (Kd.R_reads' HO_7.out).2.1); rintro e w' ⟨rfl, ⟨nd, rfl⟩⟩; (try first | exact ⟨rfl, _, World.drewN_drewN _ _ _⟩ | exact ⟨rfl, _, Eq.trans (World.drewN_drewN _ _ _) (congrArg (World.drewN _) (Nat.add_assoc _ _ _))⟩); obtain ⟨Ao34, co34, eo34⟩ := Kd.R_slice HO_8.out; subst eo34) | (go_at_call 238; (with_reducible refine (spec_saProduct.calls k1 _ _ x8_1 t311 t312 _ ?side1 ?side2 A31.out).mono ?_); (case side1 => exact cr HO_8); (case side2 => exact (Kd.R_reads' HO_8.out).2.1); rintro e w' ⟨rfl, ⟨nd, rfl⟩⟩; (try first | exact ⟨rfl, _, World.drewN_drewN _ _ _⟩ | exact ⟨rfl, _, Eq.trans (World.drewN_drewN _ _ _) (congrArg (World.drewN _) (Nat.add_assoc _ _ _))⟩)))
    repeat (go_quiet (first | (go_at_call 238; (with_reducible refine (spec_saProduct.calls k1 _ _ x7_1 t309 false _ ?side1 ?side2 A30.out).mono ?_); (case side1 => exact cr HO_7); (case side2 => exact (Kd.R_reads' HO_7.out).2.1); rintro e w' ⟨rfl, ⟨nd, rfl⟩⟩; (try first | exact ⟨rfl, _, World.drewN_drewN _ _ _⟩ | exact ⟨rfl, _, Eq.trans (World.drewN_drewN _ _ _) (congrArg (World.drewN _) (Nat.add_assoc _ _ _))⟩); obtain ⟨Ao34, co34, eo34⟩ := Kd.R_slice HO_8.out; subst eo34) | (go_at_call 238; (with_reducible refine (spec_saProduct.calls k1 _ _ x8_1 t311 t312 _ ?side1 ?side2 A31.out).mono ?_); (case side1 => exact cr HO_8); (case side2 => exact (Kd.R_reads' HO_8.out).2.1); rintro e w' ⟨rfl, ⟨nd, rfl⟩⟩; (try first | exact ⟨rfl, _, World.drewN_drewN _ _ _⟩ | exact ⟨rfl, _, Eq.trans (World.drewN_drewN _ _ _) (congrArg (World.drewN _) (Nat.add_assoc _ _ _))⟩))); try go_wp2_with (first | (go_at_call 238; (with_reducible refine (spec_saProduct.calls k1 _ _ x7_1 t309 false _ ?side1 ?side2 A30.out).mono ?_); (case side1 => exact cr HO_7); (case side2 => exact (Kd.R_reads' HO_7.out).2.1); rintro e w' ⟨rfl, ⟨nd, rfl⟩⟩; (try first | exact ⟨rfl, _, World.drewN_drewN _ _ _⟩ | exact ⟨rfl, _, Eq.trans (World.drewN_drewN _ _ _) (congrArg (World.drewN _) (Nat.add_assoc _ _ _))⟩); obtain ⟨Ao34, co34, eo34⟩ := Kd.R_slice HO_8.out; subst eo34) | (go_at_call 238; (with_reducible refine (spec_saProduct.calls k1 _ _ x8_1 t311 t312 _ ?side1 ?side2 A31.out).mono ?_); (case side1 => exact cr HO_8); (case side2 => exact (Kd.R_reads' HO_8.out).2.1); rintro e w' ⟨rfl, ⟨nd, rfl⟩⟩; (try first | exact ⟨rfl, _, World.drewN_drewN _ _ _⟩ | exact ⟨rfl, _, Eq.trans (World.drewN_drewN _ _ _) (congrArg (World.drewN _) (Nat.add_assoc _ _ _))⟩))))
    go_ret3
    exact ⟨by first | rfl | (simp [errW_none, errW_some] <;> rfl) | (simp [*, errW_none, errW_some] <;> rfl), bw HB⟩
   rw [if_pos c15] at H
   have c15b0 : decide (x38_1 < (y303.length : Int)) = true := decide_eq_true c15
   (try rw [hl7_1] at c15b0)
   clear c15
   have H' := Aside0.mk H
   clear H
   obtain ⟨Ao16, co16, eo16⟩ := Kd.R_slice HO_8.out
   subst eo16
   go_wp2
   repeat (go_quiet (fail); try go_wp2)
   try simp only [Act.put, List.setIfInBounds_toArray, List.set_cons_zero, List.set_cons_succ]
   go_loopg [43] k1 (fun kq v43 w' => ∃ (x7_2 : List Int) (x8_2 : List Int) (x43_2 : Int), v43 = .int .i64 x43_2 ∧ Aside0 (spec_saCross.l1 kq x7_2 x8_2 x38_1 (y303.length : Int) x38_1 (x8_1.length : Int) x43_2 = some (r1, r2, r3)) ∧ Aside0 (kq ≤ k1) ∧ Aside0 (Kd.R (Kd.int .i64) 3 w' w.heap.size (fun k_ => some k_ ≠ ((.slice Ao16 x8_1.length co16) : Value).ownBlock) (.slice Ao14 x7_1.length co14) x7_2) ∧ Aside0 (Kd.R (Kd.int .i64) 3 w' w.heap.size (fun k_ => some k_ ≠ ((.slice Ao14 x7_1.length co14) : Value).ownBlock) (.slice Ao16 x8_1.length co16) x8_2) ∧ Aside0 (w'.heap[gb301]? = some (.cells #[.int .i64 a0_0, .int .i64 a0_1, .int .i64 a0_2, .int .i64 a0_3] 178 (0, 0))) ∧ Aside0 (w'.heap[gb302]? = some (.cells #[.int .i64 a1_0, .int .i64 a1_1, .int .i64 a1_2, .int .i64 a1_3] 178 (0, 0))) ∧ Aside0 (Below w.heap.size w w'))
   case atStart => exact ⟨(x7_1), (x8_1), (0), (by first | rfl | (simp; done) | (simp [*]; done)), H', ⟨Nat.le_refl _⟩, ⟨by (try simp only [hl7_1]); (with_reducible repeat (first | apply Kd.R_alloc | apply Kd.R_drewN | apply Kd.R_drew)); exact HO_7.out⟩, ⟨by (try simp only [hl7_1]); (with_reducible repeat (first | apply Kd.R_alloc | apply Kd.R_drewN | apply Kd.R_drew)); exact HO_8.out⟩, ⟨by (try simp only [hl7_1]); exact bk BK301⟩, ⟨by (try simp only [hl7_1]); exact bk BK302⟩, ⟨bw HB⟩⟩
   case round =>
    clear H'
    try clear c1
    try clear p2
    try clear c5
    try clear c15
    try clear c15b0
    try clear hcz10_0
    try clear hcz10_1
    try clear hcz10_2
    try clear hcz10_3
    try clear hcz11_0
    try clear hcz11_1
    try clear hcz11_2
    try clear hcz11_3
    try clear hcz6_0
    try clear hcz6_1
    try clear hcz6_2
    try clear hcz6_3
    try clear hcz7_0
    try clear hcz7_1
    try clear hcz7_2
    try clear hcz7_3
    try clear hfz10_0
    try clear hfz10_1
    try clear hfz10_2
    try clear hfz10_3
    try clear hfz11_0
    try clear hfz11_1
    try clear hfz11_2
    try clear hfz11_3
    try clear hfz6_0
    try clear hfz6_1
    try clear hfz6_2
    try clear hfz6_3
    try clear hfz7_0
    try clear hfz7_1
    try clear hfz7_2
    try clear hfz7_3
    try clear p2
    obtain ⟨x7_2, x8_2, x43_2, rfl, HA, HK2, HO_7, HO_8, BK301, BK302, HB⟩ := hrel
    have hl7_2 := (Kd.R_reads' HO_7.out).1
    rw [hl7_2] at HO_7
    (try simp only [hl7_2])
    (try simp only [hl7_2] at BK301)
    (try simp only [hl7_2] at BK302)
    (try simp only [hl7_2] at HO_8)
    have hl8_2 := (Kd.R_reads' HO_8.out).1
    rw [hl8_2] at HO_8
    (try simp only [hl8_2])
    (try simp only [hl8_2] at BK301)
    (try simp only [hl8_2] at BK302)
    (try simp only [hl8_2] at HO_7)
    cases gk with
    | zero => exact absurd HA.out (by simp [spec_saCross.l1])
    | succ k2 =>
     have H := HA.out
     clear HA
     simp only [spec_saCross.l1] at H
     by_cases c17 : x43_2 < (x8_1.length : Int)
     rotate_left
     ·rw [if_neg c17] at H
      have c17b0 : decide (x43_2 < (x8_1.length : Int)) = false := decide_eq_false c17
      (try rw [hl7_1] at c17b0)
      (try rw [hl7_2] at c17b0)
      (try rw [hl8_2] at c17b0)
      clear c17
      have H' := Aside0.mk H
      clear H
      go_wp2
      repeat (go_quiet (fail); try go_wp2)
      (try simp only [← hl7_1, ← hl7_2, ← hl8_2])
      go_roundg k2
      case measure => have := HK1.out; have := HK2.out; omega
      case rel => exact ⟨(x7_2), (x8_2), (wrap64 (x38_1 + 1)), (by first | rfl | (simp; done) | (simp [*]; done)), H', ⟨by have := HK1.out; have := HK2.out; omega⟩, ⟨by (try simp only [hl7_1]); (try simp only [hl7_2]); (try simp only [hl8_2]); (with_reducible repeat (first | apply Kd.R_alloc | apply Kd.R_drewN | apply Kd.R_drew)); exact HO_7.out⟩, ⟨by (try simp only [hl7_1]); (try simp only [hl7_2]); (try simp only [hl8_2]); (with_reducible repeat (first | apply Kd.R_alloc | apply Kd.R_drewN | apply Kd.R_drew)); exact HO_8.out⟩, ⟨by (try simp only [hl7_1]); (try simp only [hl7_2]); (try simp only [hl8_2]); exact bk BK301⟩, ⟨by (try simp only [hl7_1]); (try simp only [hl7_2]); (try simp only [hl8_2]); exact bk BK302⟩, ⟨bw HB⟩⟩
     rw [if_pos c17] at H
     have c17b0 : decide (x43_2 < (x8_1.length : Int)) = true := decide_eq_true c17
     (try rw [hl7_1] at c17b0)
     (try rw [hl7_2] at c17b0)
     (try rw [hl8_2] at c17b0)
     clear c17
     by_cases c18 : 0 ≤ x38_1
     rotate_left
     ·rw [if_neg c18] at H
      exact absurd H (by simp)
     rw [if_pos c18] at H
     have c18b0 : decide (0 ≤ x38_1) = true := decide_eq_true c18
     clear c18
     by_cases c19 : x38_1 < (x7_2.length : Int)
     rotate_left
     ·rw [if_neg c19] at H
      exact absurd H (by simp)
     rw [if_pos c19] at H
     have c19b0 : decide (x38_1 < (x7_2.length : Int)) = true := decide_eq_true c19
     (try rw [hl7_1] at c19b0)
     (try rw [hl7_2] at c19b0)
     (try rw [hl8_2] at c19b0)
     clear c19
     by_cases c20 : 0 ≤ x43_2
     rotate_left
     ·rw [if_neg c20] at H
      exact absurd H (by simp)
     rw [if_pos c20] at H
     have c20b0 : decide (0 ≤ x43_2) = true := decide_eq_true c20
     clear c20
     by_cases c21 : x43_2 < (x8_2.length : Int)
     rotate_left
     ·rw [if_neg c21] at H
      exact absurd H (by simp)
     rw [if_pos c21] at H
     have c21b0 : decide (x43_2 < (x8_2.length : Int)) = true := decide_eq_true c21
     (try rw [hl7_1] at c21b0)
     (try rw [hl7_2] at c21b0)
     (try rw [hl8_2] at c21b0)
     clear c21
     replace H := Option.bind_eq_some_iff.mp H
     obtain ⟨t315, A220, H⟩ := H
     replace H : (if t315 = 0 then (none) else (spec_saCross.l1 k2 (x7_2.set (x38_1 : Int).toNat (wrap64 (Int.tdiv (rd x7_2 x38_1) t315))) (x8_2.set (x43_2 : Int).toNat (wrap64 (Int.tdiv (rd x8_2 x43_2) t315))) x38_1 (y303.length : Int) x38_1 (x8_1.length : Int) (wrap64 (x43_2 + 1)))) = some (r1, r2, r3) := H
     have A22 := Aside0.mk A220
     clear A220
     by_cases c23 : t315 = 0
     ·rw [if_pos c23] at H
      exact absurd H (by simp)
     rw [if_neg c23] at H
     have c23b0 : (t315 == 0) = false := beq_eq_false_iff_ne.mpr c23
     have c23b1 : (t315 != 0) = true := bne_iff_ne.mpr c23
     obtain ⟨y317, hy317⟩ : ∃ y_ : List Int, y_ = (x7_2.set (x38_1 : Int).toNat (wrap64 (Int.tdiv (rd x7_2 x38_1) t315))) := ⟨_, rfl⟩
     replace H : (spec_saCross.l1 k2 y317 (x8_2.set (x43_2 : Int).toNat (wrap64 (Int.tdiv (rd x8_2 x43_2) t315))) x38_1 (y303.length : Int) x38_1 (x8_1.length : Int) (wrap64 (x43_2 + 1))) = some (r1, r2, r3) := by first | (rw [hy317]; with_reducible exact H) | (have H2_ := (Option.bind_some _ _).symm.trans H; rw [hy317]; with_reducible exact H2_) | (have H2_ := (Option.bind_some _ _).symm.trans H; with_reducible exact H2_) | with_reducible exact H | (rw [hy317]; exact H) | exact H
     have Ny317 := Aside0.mk hy317
     clear hy317
     obtain ⟨y319, hy319⟩ : ∃ y_ : List Int, y_ = (x8_2.set (x43_2 : Int).toNat (wrap64 (Int.tdiv (rd x8_2 x43_2) t315))) := ⟨_, rfl⟩
     replace H : (spec_saCross.l1 k2 y317 y319 x38_1 (y303.length : Int) x38_1 (x8_1.length : Int) (wrap64 (x43_2 + 1))) = some (r1, r2, r3) := by first | (rw [hy319]; with_reducible exact H) | (have H2_ := (Option.bind_some _ _).symm.trans H; rw [hy319]; with_reducible exact H2_) | (have H2_ := (Option.bind_some _ _).symm.trans H; with_reducible exact H2_) | with_reducible exact H | (rw [hy319]; exact H) | exact H
     have Ny319 := Aside0.mk hy319
     clear hy319
     have H' := Aside0.mk H
     clear H
     have p313 : 0 ≤ (x38_1 : Int) := of_decide_eq_true (by first | (with_reducible assumption) | assumption)
     have q313 : x38_1 < (x7_2.length : Int) := of_decide_eq_true (by first | (with_reducible assumption) | assumption)
     obtain ⟨ad313, e313, hx313_0⟩ := Kd.at_int (Kd.R_reads' HO_7.out).2.2 x38_1 p313 q313
     cases e313
     replace p313 := eq_true p313
     replace q313 := eq_true q313
     have p314 : 0 ≤ (x43_2 : Int) := of_decide_eq_true (by first | (with_reducible assumption) | assumption)
     have q314 : x43_2 < (x8_2.length : Int) := of_decide_eq_true (by first | (with_reducible assumption) | assumption)
     obtain ⟨ad314, e314, hx314_0⟩ := Kd.at_int (Kd.R_reads' HO_8.out).2.2 x43_2 p314 q314
     cases e314
     replace p314 := eq_true p314
     replace q314 := eq_true q314
     go_wp2_with (first | (go_at_call 235; (with_reducible refine (spec_veCommon.calls k2 (rd x7_2 x38_1) (rd x8_2 x43_2) t315 _ A22.out).mono ?_); rintro e w' ⟨rfl, ⟨nd, rfl⟩⟩; (try first | exact ⟨rfl, _, World.drewN_drewN _ _ _⟩ | exact ⟨rfl, _, Eq.trans (World.drewN_drewN _ _ _) (congrArg (World.drewN _) (Nat.add_assoc _ _ _))⟩); have p316 : 0 ≤ (x38_1 : Int) := of_decide_eq_true (by first | (with_reducible assumption) | assumption); have q316 : x38_1 < (x7_2.length : Int) := of_decide_eq_true (by first | (with_reducible assumption) | assumption); obtain ⟨ad316, e316, hx316_0⟩ := Kd.at_int (Kd.R_reads' HO_7.out).2.2 x38_1 p316 q316; obtain rfl : ad313 = ad316 := (by injection e316); replace p316 := eq_true p316; replace q316 := eq_true q316; have p24 : 0 ≤ (x38_1 : Int) := of_decide_eq_true (by first | (with_reducible assumption) | assumption); have q24 : (x38_1 : Int) < ((x7_2.length : Int) : Int) := of_decide_eq_true (by first | (with_reducible assumption) | assumption); obtain ⟨go24, co24, eo24, gb24, gl24, cl24, HG24⟩ := Kd.R_form HO_7.out (by omega); (first | cases eo24 | (injection eo24 with ea_ en_ ec_; (first | subst ea_ | (injection ea_ with ea_; subst ea_)); subst ec_; clear en_)); have GB24 := Aside0.mk gb24; have GG24 := Aside0.mk HG24; clear gb24 gl24 HG24; (first | simp only [add_plain] at hx313_0 | skip); (first | simp only [add_plain] at hx316_0 | skip); obtain ⟨hx24_0, hf24_0⟩ := Kd.R_celln 0 HO_7.out (x38_1 : Int) p24 q24; replace p24 := eq_true p24; replace q24 := eq_true q24; obtain ⟨hy26_, hz26_⟩ := Kd.R_celln 0 HO_7.out (x38_1 : Int) (of_decide_eq_true (by first | (with_reducible assumption) | assumption)) (of_decide_eq_true (by first | (with_reducible assumption) | assumption)); have HP26 := Kd.R_putg HO_7.out (x38_1 : Int) (wrap64 (Int.tdiv (rd x7_2 x38_1) t315))) | ((with_reducible refine gate_store (t := 3) (p := 61) rfl ?_); (try (rw [drewN_self wr]; generalize hq_ : World.drewN wr _ = wr; have n0_ := Aside0.mk (Kd.R_at hq_ HO_7.out); have n1_ := Aside0.mk (Kd.R_at hq_ HO_8.out); have n2_ := Aside0.mk (blk_at hq_ BK301.out); have n3_ := Aside0.mk (blk_at hq_ BK302.out); have n4_ := Aside0.mk (below_at hq_ HB.out); clear hq_ HO_7 HO_8 BK301 BK302 HB; have HO_7 := n0_; have HO_8 := n1_; have BK301 := n2_; have BK302 := n3_; have HB := n4_; clear n0_ n1_ n2_ n3_ n4_; (try (obtain ⟨hy26_, hz26_⟩ := Kd.R_celln 0 HO_7.out (x38_1 : Int) (of_decide_eq_true (by first | (with_reducible assumption) | assumption)) (of_decide_eq_true (by first | (with_reducible assumption) | assumption)))); (try (have HP26 := Kd.R_putg HO_7.out (x38_1 : Int) (wrap64 (Int.tdiv (rd x7_2 x38_1) t315)))))); refine store_event (t := 3) (p := 61) (v := ?vo_w27) (w1 := (wr.setCell ⟨go24, (x38_1 : Int).toNat, none⟩ (.int .i64 (wrap64 (Int.tdiv (rd x7_2 x38_1) t315))))) ?hg ?ho ?hn ?hr ?_; (case ho => rfl); (case hg => rfl); (case hn => rfl); (case hr => first | (go_simp; done) | (go_simp; rfl)); intro w27 hw; have hg : wr.grownBy w27 (some go24) := (by rw [hw]; exact HP26.2); have hp_ : Kd.R (Kd.int .i64) 3 w27 w.heap.size (fun k_ => some k_ ≠ (.slice (some ad314) x8_2.length co16 : Value).ownBlock) (.slice (some ⟨go24, 0, none⟩) x7_2.length co14) y317 := (by rw [hw, Ny317.out]; exact HP26.1); clear HP26; replace HO_8 := Aside0.mk (Kd.R_after (v := (.slice (some ⟨go24, 0, none⟩) x7_2.length co14)) (v1 := (.slice (some ⟨go24, 0, none⟩) x7_2.length co14)) (ok := (fun _ => True)) (by (with_reducible repeat (first | apply Kd.R_alloc | apply Kd.R_drewN | apply Kd.R_drew)); exact Kd.R_mono HO_8.out (fun _ hk => ⟨trivial, hk⟩)) hg (.inl rfl)); replace BK301 := Aside0.mk (blk_grown (g := gb301) (o := .cells #[.int .i64 a0_0, .int .i64 a0_1, .int .i64 a0_2, .int .i64 a0_3] 178 (0, 0)) (bk BK301) hg (Kd.R_ne HO_7.out BK301.out (by decide))); replace BK302 := Aside0.mk (blk_grown (g := gb302) (o := .cells #[.int .i64 a1_0, .int .i64 a1_1, .int .i64 a1_2, .int .i64 a1_3] 178 (0, 0)) (bk BK302) hg (Kd.R_ne HO_7.out BK302.out (by decide))); replace HO_7 := Aside0.mk (hp_); replace HB := Aside0.mk ((by rw [hw]; exact below_set (HB.out) GB24.out : Below w.heap.size w w27)); clear hg hw hp_; have p318 : 0 ≤ (x43_2 : Int) := of_decide_eq_true (by first | (with_reducible assumption) | assumption); have q318 : x43_2 < (x8_2.length : Int) := of_decide_eq_true (by first | (with_reducible assumption) | assumption); obtain ⟨ad318, e318, hx318_0⟩ := Kd.at_int (Kd.R_reads' HO_8.out).2.2 x43_2 p318 q318; obtain rfl : ad314 = ad318 := (by injection e318); replace p318 := eq_true p318; replace q318 := eq_true q318; have p25 : 0 ≤ (x43_2 : Int) := of_decide_eq_true (by first | (with_reducible assumption) | assumption); have q25 : (x43_2 : Int) < ((x8_2.length : Int) : Int) := of_decide_eq_true (by first | (with_reducible assumption) | assumption); obtain ⟨go25, co25, eo25, gb25, gl25, cl25, HG25⟩ := Kd.R_form HO_8.out (by omega); (first | cases eo25 | (injection eo25 with ea_ en_ ec_; (first | subst ea_ | (injection ea_ with ea_; subst ea_)); subst ec_; clear en_)); have GB25 := Aside0.mk gb25; have GG25 := Aside0.mk HG25; clear gb25 gl25 HG25; (first | simp only [add_plain] at hx314_0 | skip); (first | simp only [add_plain] at hx318_0 | skip); obtain ⟨hx25_0, hf25_0⟩ := Kd.R_celln 0 HO_8.out (x43_2 : Int) p25 q25; replace p25 := eq_true p25; replace q25 := eq_true q25; have n_ := Aside0.mk (Kd.R_mono (ok' := (fun k_ => some k_ ≠ (.slice (some ⟨go24, 0, none⟩) x7_2.length co14 : Value).ownBlock)) HO_8.out (fun k_ hk => hk.2)); clear HO_8; have HO_8 := n_; clear n_; obtain ⟨hy28_, hz28_⟩ := Kd.R_celln 0 HO_8.out (x43_2 : Int) (of_decide_eq_true (by first | (with_reducible assumption) | assumption)) (of_decide_eq_true (by first | (with_reducible assumption) | assumption)); have HP28 := Kd.R_putg HO_8.out (x43_2 : Int) (wrap64 (Int.tdiv (rd x8_2 x43_2) t315))) | ((with_reducible refine gate_store (t := 3) (p := 68) rfl ?_); (try (rw [drewN_self w27]; generalize hq_ : World.drewN w27 _ = w27; have n0_ := Aside0.mk (Kd.R_at hq_ HO_7.out); have n1_ := Aside0.mk (Kd.R_at hq_ HO_8.out); have n2_ := Aside0.mk (blk_at hq_ BK301.out); have n3_ := Aside0.mk (blk_at hq_ BK302.out); have n4_ := Aside0.mk (below_at hq_ HB.out); clear hq_ HO_7 HO_8 BK301 BK302 HB; have HO_7 := n0_; have HO_8 := n1_; have BK301 := n2_; have BK302 := n3_; have HB := n4_; clear n0_ n1_ n2_ n3_ n4_; (try (have n_ := Aside0.mk (Kd.R_mono (ok' := (fun k_ => some k_ ≠ (.slice (some ⟨go24, 0, none⟩) x7_2.length co14 : Value).ownBlock)) HO_8.out (fun k_ hk => hk.2)); clear HO_8; have HO_8 := n_; clear n_)); (try (obtain ⟨hy28_, hz28_⟩ := Kd.R_celln 0 HO_8.out (x43_2 : Int) (of_decide_eq_true (by first | (with_reducible assumption) | assumption)) (of_decide_eq_true (by first | (with_reducible assumption) | assumption)))); (try (have HP28 := Kd.R_putg HO_8.out (x43_2 : Int) (wrap64 (Int.tdiv (rd x8_2 x43_2) t315)))))); refine store_event (t := 3) (p := 68) (v := ?vo_w29) (w1 := (w27.setCell ⟨go25, (x43_2 : Int).toNat, none⟩ (.int .i64 (wrap64 (Int.tdiv (rd x8_2 x43_2) t315))))) ?hg ?ho ?hn ?hr ?_; (case ho => rfl); (case hg => rfl); (case hn => rfl); (case hr => first | (go_simp; done) | (go_simp; rfl)); intro w29 hw; have hg : w27.grownBy w29 (some go25) := (by rw [hw]; exact HP28.2); have hp_ : Kd.R (Kd.int .i64) 3 w29 w.heap.size (fun k_ => some k_ ≠ (.slice (some ⟨go24, 0, none⟩) x7_2.length co14 : Value).ownBlock) (.slice (some ⟨go25, 0, none⟩) x8_2.length co16) y319 := (by rw [hw, Ny319.out]; exact HP28.1); clear HP28; replace HO_7 := Aside0.mk (Kd.R_after (v := (.slice (some ⟨go25, 0, none⟩) x8_2.length co16)) (v1 := (.slice (some ⟨go25, 0, none⟩) x8_2.length co16)) (ok := (fun _ => True)) (by (with_reducible repeat (first | apply Kd.R_alloc | apply Kd.R_drewN | apply Kd.R_drew)); exact Kd.R_mono HO_7.out (fun _ hk => ⟨trivial, hk⟩)) hg (.inl rfl)); replace BK301 := Aside0.mk (blk_grown (g := gb301) (o := .cells #[.int .i64 a0_0, .int .i64 a0_1, .int .i64 a0_2, .int .i64 a0_3] 178 (0, 0)) (bk BK301) hg (Kd.R_ne HO_8.out BK301.out (by decide))); replace BK302 := Aside0.mk (blk_grown (g := gb302) (o := .cells #[.int .i64 a1_0, .int .i64 a1_1, .int .i64 a1_2, .int .i64 a1_3] 178 (0, 0)) (bk BK302) hg (Kd.R_ne HO_8.out BK302.out (by decide))); replace HO_8 := Aside0.mk (hp_); replace HB := Aside0.mk ((by rw [hw]; exact below_set (HB.out) GB25.out : Below w.heap.size w w29)); clear hg hw hp_))
     repeat (go_quiet (first | (go_at_call 235; (with_reducible refine (spec_veCommon.calls k2 (rd x7_2 x38_1) (rd x8_2 x43_2) t315 _ A22.out).mono ?_); rintro e w' ⟨rfl, ⟨nd, rfl⟩⟩; (try first | exact ⟨rfl, _, World.drewN_drewN _ _ _⟩ | exact ⟨rfl, _, Eq.trans (World.drewN_drewN _ _ _) (congrArg (World.drewN _) (Nat.add_assoc _ _ _))⟩); have p316 : 0 ≤ (x38_1 : Int) := of_decide_eq_true (by first | (with_reducible assumption) | assumption); have q316 : x38_1 < (x7_2.length : Int) := of_decide_eq_true (by first | (with_reducible assumption) | assumption); obtain ⟨ad316, e316, hx316_0⟩ := Kd.at_int (Kd.R_reads' HO_7.out).2.2 x38_1 p316 q316; obtain rfl : ad313 = ad316 := (by injection e316); replace p316 := eq_true p316; replace q316 := eq_true q316; have p24 : 0 ≤ (x38_1 : Int) := of_decide_eq_true (by first | (with_reducible assumption) | assumption); have q24 : (x38_1 : Int) < ((x7_2.length : Int) : Int) := of_decide_eq_true (by first | (with_reducible assumption) | assumption); obtain ⟨go24, co24, eo24, gb24, gl24, cl24, HG24⟩ := Kd.R_form HO_7.out (by omega); (first | cases eo24 | (injection eo24 with ea_ en_ ec_; (first | subst ea_ | (injection ea_ with ea_; subst ea_)); subst ec_; clear en_)); have GB24 := Aside0.mk gb24; have GG24 := Aside0.mk HG24; clear gb24 gl24 HG24; (first | simp only [add_plain] at hx313_0 | skip); (first | simp only [add_plain] at hx316_0 | skip); obtain ⟨hx24_0, hf24_0⟩ := Kd.R_celln 0 HO_7.out (x38_1 : Int) p24 q24; replace p24 := eq_true p24; replace q24 := eq_true q24; obtain ⟨hy26_, hz26_⟩ := Kd.R_celln 0 HO_7.out (x38_1 : Int) (of_decide_eq_true (by first | (with_reducible assumption) | assumption)) (of_decide_eq_true (by first | (with_reducible assumption) | assumption)); have HP26 := Kd.R_putg HO_7.out (x38_1 : Int) (wrap64 (Int.tdiv (rd x7_2 x38_1) t315))) | ((with_reducible refine gate_store (t := 3) (p := 61) rfl ?_); (try (rw [drewN_self wr]; generalize hq_ : World.drewN wr _ = wr; have n0_ := Aside0.mk (Kd.R_at hq_ HO_7.out); have n1_ := Aside0.mk (Kd.R_at hq_ HO_8.out); have n2_ := Aside0.mk (blk_at hq_ BK301.out); have n3_ := Aside0.mk (blk_at hq_ BK302.out); have n4_ := Aside0.mk (below_at hq_ HB.out); clear hq_ HO_7 HO_8 BK301 BK302 HB; have HO_7 := n0_; have HO_8 := n1_; have BK301 := n2_; have BK302 := n3_; have HB := n4_; clear n0_ n1_ n2_ n3_ n4_; (try (obtain ⟨hy26_, hz26_⟩ := Kd.R_celln 0 HO_7.out (x38_1 : Int) (of_decide_eq_true (by first | (with_reducible assumption) | assumption)) (of_decide_eq_true (by first | (with_reducible assumption) | assumption)))); (try (have HP26 := Kd.R_putg HO_7.out (x38_1 : Int) (wrap64 (Int.tdiv (rd x7_2 x38_1) t315)))))); refine store_event (t := 3) (p := 61) (v := ?vo_w27) (w1 := (wr.setCell ⟨go24, (x38_1 : Int).toNat, none⟩ (.int .i64 (wrap64 (Int.tdiv (rd x7_2 x38_1) t315))))) ?hg ?ho ?hn ?hr ?_; (case ho => rfl); (case hg => rfl); (case hn => rfl); (case hr => first | (go_simp; done) | (go_simp; rfl)); intro w27 hw; have hg : wr.grownBy w27 (some go24) := (by rw [hw]; exact HP26.2); have hp_ : Kd.R (Kd.int .i64) 3 w27 w.heap.size (fun k_ => some k_ ≠ (.slice (some ad314) x8_2.length co16 : Value).ownBlock) (.slice (some ⟨go24, 0, none⟩) x7_2.length co14) y317 := (by rw [hw, Ny317.out]; exact HP26.1); clear HP26; have n0_ := Aside0.mk (hp_); have n1_ := Aside0.mk (Kd.R_after (v := (.slice (some ⟨go24, 0, none⟩) x7_2.length co14)) (v1 := (.slice (some ⟨go24, 0, none⟩) x7_2.length co14)) (ok := (fun _ => True)) (by (with_reducible repeat (first | apply Kd.R_alloc | apply Kd.R_drewN | apply Kd.R_drew)); exact Kd.R_mono HO_8.out (fun _ hk => ⟨trivial, hk⟩)) hg (.inl rfl)); have n2_ := Aside0.mk (blk_grown (g := gb301) (o := .cells #[.int .i64 a0_0, .int .i64 a0_1, .int .i64 a0_2, .int .i64 a0_3] 178 (0, 0)) (bk BK301) hg (Kd.R_ne HO_7.out BK301.out (by decide))); have n3_ := Aside0.mk (blk_grown (g := gb302) (o := .cells #[.int .i64 a1_0, .int .i64 a1_1, .int .i64 a1_2, .int .i64 a1_3] 178 (0, 0)) (bk BK302) hg (Kd.R_ne HO_7.out BK302.out (by decide))); have n4_ := Aside0.mk ((by rw [hw]; exact below_set (HB.out) GB24.out : Below w.heap.size w w27)); clear HO_7; clear HO_8; clear BK301; clear BK302; clear HB; have HO_7 := n0_; have HO_8 := n1_; have BK301 := n2_; have BK302 := n3_; have HB := n4_; clear n0_ n1_ n2_ n3_ n4_; clear hg hw hp_; have p318 : 0 ≤ (x43_2 : Int) := of_decide_eq_true (by first | (with_reducible assumption) | assumption); have q318 : x43_2 < (x8_2.length : Int) := of_decide_eq_true (by first | (with_reducible assumption) | assumption); obtain ⟨ad318, e318, hx318_0⟩ := Kd.at_int (Kd.R_reads' HO_8.out).2.2 x43_2 p318 q318; obtain rfl : ad314 = ad318 := (by injection e318); replace p318 := eq_true p318; replace q318 := eq_true q318; have p25 : 0 ≤ (x43_2 : Int) := of_decide_eq_true (by first | (with_reducible assumption) | assumption); have q25 : (x43_2 : Int) < ((x8_2.length : Int) : Int) := of_decide_eq_true (by first | (with_reducible assumption) | assumption); obtain ⟨go25, co25, eo25, gb25, gl25, cl25, HG25⟩ := Kd.R_form HO_8.out (by omega); (first | cases eo25 | (injection eo25 with ea_ en_ ec_; (first | subst ea_ | (injection ea_ with ea_; subst ea_)); subst ec_; clear en_)); have GB25 := Aside0.mk gb25; have GG25 := Aside0.mk HG25; clear gb25 gl25 HG25; (first | simp only [add_plain] at hx314_0 | skip); (first | simp only [add_plain] at hx318_0 | skip); obtain ⟨hx25_0, hf25_0⟩ := Kd.R_celln 0 HO_8.out (x43_2 : Int) p25 q25; replace p25 := eq_true p25; replace q25 := eq_true q25; have n_ := Aside0.mk (Kd.R_mono (ok' := (fun k_ => some k_ ≠ (.slice (some ⟨go24, 0, none⟩) x7_2.length co14 : Value).ownBlock)) HO_8.out (fun k_ hk => hk.2)); clear HO_8; have HO_8 := n_; clear n_; obtain ⟨hy28_, hz28_⟩ := Kd.R_celln 0 HO_8.out (x43_2 : Int) (of_decide_eq_true (by first | (with_reducible assumption) | assumption)) (of_decide_eq_true (by first | (with_reducible assumption) | assumption)); have HP28 := Kd.R_putg HO_8.out (x43_2 : Int) (wrap64 (Int.tdiv (rd x8_2 x43_2) t315))) | ((with_reducible refine gate_store (t := 3) (p := 68) rfl ?_); (try (rw [drewN_self w27]; generalize hq_ : World.drewN w27 _ = w27; have n0_ := Aside0.mk (Kd.R_at hq_ HO_7.out); have n1_ := Aside0.mk (Kd.R_at hq_ HO_8.out); have n2_ := Aside0.mk (blk_at hq_ BK301.out); have n3_ := Aside0.mk (blk_at hq_ BK302.out); have n4_ := Aside0.mk (below_at hq_ HB.out); clear hq_ HO_7 HO_8 BK301 BK302 HB; have HO_7 := n0_; have HO_8 := n1_; have BK301 := n2_; have BK302 := n3_; have HB := n4_; clear n0_ n1_ n2_ n3_ n4_; (try (have n_ := Aside0.mk (Kd.R_mono (ok' := (fun k_ => some k_ ≠ (.slice (some ⟨go24, 0, none⟩) x7_2.length co14 : Value).ownBlock)) HO_8.out (fun k_ hk => hk.2)); clear HO_8; have HO_8 := n_; clear n_)); (try (obtain ⟨hy28_, hz28_⟩ := Kd.R_celln 0 HO_8.out (x43_2 : Int) (of_decide_eq_true (by first | (with_reducible assumption) | assumption)) (of_decide_eq_true (by first | (with_reducible assumption) | assumption)))); (try (have HP28 := Kd.R_putg HO_8.out (x43_2 : Int) (wrap64 (Int.tdiv (rd x8_2 x43_2) t315)))))); refine store_event (t := 3) (p := 68) (v := ?vo_w29) (w1 := (w27.setCell ⟨go25, (x43_2 : Int).toNat, none⟩ (.int .i64 (wrap64 (Int.tdiv (rd x8_2 x43_2) t315))))) ?hg ?ho ?hn ?hr ?_; (case ho => rfl); (case hg => rfl); (case hn => rfl); (case hr => first | (go_simp; done) | (go_simp; rfl)); intro w29 hw; have hg : w27.grownBy w29 (some go25) := (by rw [hw]; exact HP28.2); have hp_ : Kd.R (Kd.int .i64) 3 w29 w.heap.size (fun k_ => some k_ ≠ (.slice (some ⟨go24, 0, none⟩) x7_2.length co14 : Value).ownBlock) (.slice (some ⟨go25, 0, none⟩) x8_2.length co16) y319 := (by rw [hw, Ny319.out]; exact HP28.1); clear HP28; have n0_ := Aside0.mk (Kd.R_after (v := (.slice (some ⟨go25, 0, none⟩) x8_2.length co16)) (v1 := (.slice (some ⟨go25, 0, none⟩) x8_2.length co16)) (ok := (fun _ => True)) (by (with_reducible repeat (first | apply Kd.R_alloc | apply Kd.R_drewN | apply Kd.R_drew)); exact Kd.R_mono HO_7.out (fun _ hk => ⟨trivial, hk⟩)) hg (.inl rfl)); have n1_ := Aside0.mk (hp_); have n2_ := Aside0.mk (blk_grown (g := gb301) (o := .cells #[.int .i64 a0_0, .int .i64 a0_1, .int .i64 a0_2, .int .i64 a0_3] 178 (0, 0)) (bk BK301) hg (Kd.R_ne HO_8.out BK301.out (by decide))); have n3_ := Aside0.mk (blk_grown (g := gb302) (o := .cells #[.int .i64 a1_0, .int .i64 a1_1, .int .i64 a1_2, .int .i64 a1_3] 178 (0, 0)) (bk BK302) hg (Kd.R_ne HO_8.out BK302.out (by decide))); have n4_ := Aside0.mk ((by rw [hw]; exact below_set (HB.out) GB25.out : Below w.heap.size w w29)); clear HO_7; clear HO_8; clear BK301; clear BK302; clear HB; have HO_7 := n0_; have HO_8 := n1_; have BK301 := n2_; have BK302 := n3_; have HB := n4_; clear n0_ n1_ n2_ n3_ n4_; clear hg hw hp_)); try go_wp2_with (first | (go_at_call 235; (with_reducible refine (spec_veCommon.calls k2 (rd x7_2 x38_1) (rd x8_2 x43_2) t315 _ A22.out).mono ?_); rintro e w' ⟨rfl, ⟨nd, rfl⟩⟩; (try first | exact ⟨rfl, _, World.drewN_drewN _ _ _⟩ | exact ⟨rfl, _, Eq.trans (World.drewN_drewN _ _ _) (congrArg (World.drewN _) (Nat.add_assoc _ _ _))⟩); have p316 : 0 ≤ (x38_1 : Int) := of_decide_eq_true (by first | (with_reducible assumption) | assumption); have q316 : x38_1 < (x7_2.length : Int) := of_decide_eq_true (by first | (with_reducible assumption) | assumption); obtain ⟨ad316, e316, hx316_0⟩ := Kd.at_int (Kd.R_reads' HO_7.out).2.2 x38_1 p316 q316; obtain rfl : ad313 = ad316 := (by injection e316); replace p316 := eq_true p316; replace q316 := eq_true q316; have p24 : 0 ≤ (x38_1 : Int) := of_decide_eq_true (by first | (with_reducible assumption) | assumption); have q24 : (x38_1 : Int) < ((x7_2.length : Int) : Int) := of_decide_eq_true (by first | (with_reducible assumption) | assumption); obtain ⟨go24, co24, eo24, gb24, gl24, cl24, HG24⟩ := Kd.R_form HO_7.out (by omega); (first | cases eo24 | (injection eo24 with ea_ en_ ec_; (first | subst ea_ | (injection ea_ with ea_; subst ea_)); subst ec_; clear en_)); have GB24 := Aside0.mk gb24; have GG24 := Aside0.mk HG24; clear gb24 gl24 HG24; (first | simp only [add_plain] at hx313_0 | skip); (first | simp only [add_plain] at hx316_0 | skip); obtain ⟨hx24_0, hf24_0⟩ := Kd.R_celln 0 HO_7.out (x38_1 : Int) p24 q24; replace p24 := eq_true p24; replace q24 := eq_true q24; obtain ⟨hy26_, hz26_⟩ := Kd.R_celln 0 HO_7.out (x38_1 : Int) (of_decide_eq_true (by first | (with_reducible assumption) | assumption)) (of_decide_eq_true (by first | (with_reducible assumption) | assumption)); have HP26 := Kd.R_putg HO_7.out (x38_1 : Int) (wrap64 (Int.tdiv (rd x7_2 x38_1) t315))) | ((with_reducible refine gate_store (t := 3) (p := 61) rfl ?_); (try (rw [drewN_self wr]; generalize hq_ : World.drewN wr _ = wr; have n0_ := Aside0.mk (Kd.R_at hq_ HO_7.out); have n1_ := Aside0.mk (Kd.R_at hq_ HO_8.out); have n2_ := Aside0.mk (blk_at hq_ BK301.out); have n3_ := Aside0.mk (blk_at hq_ BK302.out); have n4_ := Aside0.mk (below_at hq_ HB.out); clear hq_ HO_7 HO_8 BK301 BK302 HB; have HO_7 := n0_; have HO_8 := n1_; have BK301 := n2_; have BK302 := n3_; have HB := n4_; clear n0_ n1_ n2_ n3_ n4_; (try (obtain ⟨hy26_, hz26_⟩ := Kd.R_celln 0 HO_7.out (x38_1 : Int) (of_decide_eq_true (by first | (with_reducible assumption) | assumption)) (of_decide_eq_true (by first | (with_reducible assumption) | assumption)))); (try (have HP26 := Kd.R_putg HO_7.out (x38_1 : Int) (wrap64 (Int.tdiv (rd x7_2 x38_1) t315)))))); refine store_event (t := 3) (p := 61) (v := ?vo_w27) (w1 := (wr.setCell ⟨go24, (x38_1 : Int).toNat, none⟩ (.int .i64 (wrap64 (Int.tdiv (rd x7_2 x38_1) t315))))) ?hg ?ho ?hn ?hr ?_; (case ho => rfl); (case hg => rfl); (case hn => rfl); (case hr => first | (go_simp; done) | (go_simp; rfl)); intro w27 hw; have hg : wr.grownBy w27 (some go24) := (by rw [hw]; exact HP26.2); have hp_ : Kd.R (Kd.int .i64) 3 w27 w.heap.size (fun k_ => some k_ ≠ (.slice (some ad314) x8_2.length co16 : Value).ownBlock) (.slice (some ⟨go24, 0, none⟩) x7_2.length co14) y317 := (by rw [hw, Ny317.out]; exact HP26.1); clear HP26; have n0_ := Aside0.mk (hp_); have n1_ := Aside0.mk (Kd.R_after (v := (.slice (some ⟨go24, 0, none⟩) x7_2.length co14)) (v1 := (.slice (some ⟨go24, 0, none⟩) x7_2.length co14)) (ok := (fun _ => True)) (by (with_reducible repeat (first | apply Kd.R_alloc | apply Kd.R_drewN | apply Kd.R_drew)); exact Kd.R_mono HO_8.out (fun _ hk => ⟨trivial, hk⟩)) hg (.inl rfl)); have n2_ := Aside0.mk (blk_grown (g := gb301) (o := .cells #[.int .i64 a0_0, .int .i64 a0_1, .int .i64 a0_2, .int .i64 a0_3] 178 (0, 0)) (bk BK301) hg (Kd.R_ne HO_7.out BK301.out (by decide))); have n3_ := Aside0.mk (blk_grown (g := gb302) (o := .cells #[.int .i64 a1_0, .int .i64 a1_1, .int .i64 a1_2, .int .i64 a1_3] 178 (0, 0)) (bk BK302) hg (Kd.R_ne HO_7.out BK302.out (by decide))); have n4_ := Aside0.mk ((by rw [hw]; exact below_set (HB.out) GB24.out : Below w.heap.size w w27)); clear HO_7; clear HO_8; clear BK301; clear BK302; clear HB; have HO_7 := n0_; have HO_8 := n1_; have BK301 := n2_; have BK302 := n3_; have HB := n4_; clear n0_ n1_ n2_ n3_ n4_; clear hg hw hp_; have p318 : 0 ≤ (x43_2 : Int) := of_decide_eq_true (by first | (with_reducible assumption) | assumption); have q318 : x43_2 < (x8_2.length : Int) := of_decide_eq_true (by first | (with_reducible assumption) | assumption); obtain ⟨ad318, e318, hx318_0⟩ := Kd.at_int (Kd.R_reads' HO_8.out).2.2 x43_2 p318 q318; obtain rfl : ad314 = ad318 := (by injection e318); replace p318 := eq_true p318; replace q318 := eq_true q318; have p25 : 0 ≤ (x43_2 : Int) := of_decide_eq_true (by first | (with_reducible assumption) | assumption); have q25 : (x43_2 : Int) < ((x8_2.length : Int) : Int) := of_decide_eq_true (by first | (with_reducible assumption) | assumption); obtain ⟨go25, co25, eo25, gb25, gl25, cl25, HG25⟩ := Kd.R_form HO_8.out (by omega); (first | cases eo25 | (injection eo25 with ea_ en_ ec_; (first | subst ea_ | (injection ea_ with ea_; subst ea_)); subst ec_; clear en_)); have GB25 := Aside0.mk gb25; have GG25 := Aside0.mk HG25; clear gb25 gl25 HG25; (first | simp only [add_plain] at hx314_0 | skip); (first | simp only [add_plain] at hx318_0 | skip); obtain ⟨hx25_0, hf25_0⟩ := Kd.R_celln 0 HO_8.out (x43_2 : Int) p25 q25; replace p25 := eq_true p25; replace q25 := eq_true q25; have n_ := Aside0.mk (Kd.R_mono (ok' := (fun k_ => some k_ ≠ (.slice (some ⟨go24, 0, none⟩) x7_2.length co14 : Value).ownBlock)) HO_8.out (fun k_ hk => hk.2)); clear HO_8; have HO_8 := n_; clear n_; obtain ⟨hy28_, hz28_⟩ := Kd.R_celln 0 HO_8.out (x43_2 : Int) (of_decide_eq_true (by first | (with_reducible assumption) | assumption)) (of_decide_eq_true (by first | (with_reducible assumption) | assumption)); have HP28 := Kd.R_putg HO_8.out (x43_2 : Int) (wrap64 (Int.tdiv (rd x8_2 x43_2) t315))) | ((with_reducible refine gate_store (t := 3) (p := 68) rfl ?_); (try (rw [drewN_self w27]; generalize hq_ : World.drewN w27 _ = w27; have n0_ := Aside0.mk (Kd.R_at hq_ HO_7.out); have n1_ := Aside0.mk (Kd.R_at hq_ HO_8.out); have n2_ := Aside0.mk (blk_at hq_ BK301.out); have n3_ := Aside0.mk (blk_at hq_ BK302.out); have n4_ := Aside0.mk (below_at hq_ HB.out); clear hq_ HO_7 HO_8 BK301 BK302 HB; have HO_7 := n0_; have HO_8 := n1_; have BK301 := n2_; have BK302 := n3_; have HB := n4_; clear n0_ n1_ n2_ n3_ n4_; (try (have n_ := Aside0.mk (Kd.R_mono (ok' := (fun k_ => some k_ ≠ (.slice (some ⟨go24, 0, none⟩) x7_2.length co14 : Value).ownBlock)) HO_8.out (fun k_ hk => hk.2)); clear HO_8; have HO_8 := n_; clear n_)); (try (obtain ⟨hy28_, hz28_⟩ := Kd.R_celln 0 HO_8.out (x43_2 : Int) (of_decide_eq_true (by first | (with_reducible assumption) | assumption)) (of_decide_eq_true (by first | (with_reducible assumption) | assumption)))); (try (have HP28 := Kd.R_putg HO_8.out (x43_2 : Int) (wrap64 (Int.tdiv (rd x8_2 x43_2) t315)))))); refine store_event (t := 3) (p := 68) (v := ?vo_w29) (w1 := (w27.setCell ⟨go25, (x43_2 : Int).toNat, none⟩ (.int .i64 (wrap64 (Int.tdiv (rd x8_2 x43_2) t315))))) ?hg ?ho ?hn ?hr ?_; (case ho => rfl); (case hg => rfl); (case hn => rfl); (case hr => first | (go_simp; done) | (go_simp; rfl)); intro w29 hw; have hg : w27.grownBy w29 (some go25) := (by rw [hw]; exact HP28.2); have hp_ : Kd.R (Kd.int .i64) 3 w29 w.heap.size (fun k_ => some k_ ≠ (.slice (some ⟨go24, 0, none⟩) x7_2.length co14 : Value).ownBlock) (.slice (some ⟨go25, 0, none⟩) x8_2.length co16) y319 := (by rw [hw, Ny319.out]; exact HP28.1); clear HP28; have n0_ := Aside0.mk (Kd.R_after (v := (.slice (some ⟨go25, 0, none⟩) x8_2.length co16)) (v1 := (.slice (some ⟨go25, 0, none⟩) x8_2.length co16)) (ok := (fun _ => True)) (by (with_reducible repeat (first | apply Kd.R_alloc | apply Kd.R_drewN | apply Kd.R_drew)); exact Kd.R_mono HO_7.out (fun _ hk => ⟨trivial, hk⟩)) hg (.inl rfl)); have n1_ := Aside0.mk (hp_); have n2_ := Aside0.mk (blk_grown (g := gb301) (o := .cells #[.int .i64 a0_0, .int .i64 a0_1, .int .i64 a0_2, .int .i64 a0_3] 178 (0, 0)) (bk BK301) hg (Kd.R_ne HO_8.out BK301.out (by decide))); have n3_ := Aside0.mk (blk_grown (g := gb302) (o := .cells #[.int .i64 a1_0, .int .i64 a1_1, .int .i64 a1_2, .int .i64 a1_3] 178 (0, 0)) (bk BK302) hg (Kd.R_ne HO_8.out BK302.out (by decide))); have n4_ := Aside0.mk ((by rw [hw]; exact below_set (HB.out) GB25.out : Below w.heap.size w w29)); clear HO_7; clear HO_8; clear BK301; clear BK302; clear HB; have HO_7 := n0_; have HO_8 := n1_; have BK301 := n2_; have BK302 := n3_; have HB := n4_; clear n0_ n1_ n2_ n3_ n4_; clear hg hw hp_)))
     (try simp only [← hl7_2, ← hl8_2])
     go_roundg k2
     case measure => have := HK1.out; have := HK2.out; omega
     case rel => exact ⟨(y317), (y319), (wrap64 (x43_2 + 1)), (by first | rfl | (simp; done) | (simp [*]; done)), H', ⟨by have := HK1.out; have := HK2.out; omega⟩, ⟨by (try simp only [hl7_1]); (try simp only [hl7_2]); (try simp only [hl8_2]); (with_reducible repeat (first | apply Kd.R_alloc | apply Kd.R_drewN | apply Kd.R_drew)); exact Kd.R_mono HO_7.out (fun _ hk => hk.2)⟩, ⟨by (try simp only [hl7_1]); (try simp only [hl7_2]); (try simp only [hl8_2]); (with_reducible repeat (first | apply Kd.R_alloc | apply Kd.R_drewN | apply Kd.R_drew)); exact HO_8.out⟩, ⟨by (try simp only [hl7_1]); (try simp only [hl7_2]); (try simp only [hl8_2]); exact bk BK301⟩, ⟨by (try simp only [hl7_1]); (try simp only [hl7_2]); (try simp only [hl8_2]); exact bk BK302⟩, ⟨bw HB⟩⟩

end Go.Proofs.Ytmlkdkeocbhajaa.T
