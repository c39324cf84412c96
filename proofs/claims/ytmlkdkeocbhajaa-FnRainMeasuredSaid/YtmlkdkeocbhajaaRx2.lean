-- Functions of the program as plain functions, and that the calls come to them. Written by a program (ownprint.py); nothing here is trusted: Lean checks it.
import Derived.Test.YtmlkdkeocbhajaaRx0
import Derived.Test.YtmlkdkeocbhajaaRx1
namespace Go.Proofs.Ytmlkdkeocbhajaa.R
open Go.RowKit Go.Proofs.YtmlkdkeocbhajaaW.PrintWords Go.Proofs.YtmlkdkeocbhajaaW.PrintLast Go.Proofs.YtmlkdkeocbhajaaW.PrintMore Go.Proofs.Ytmlkdkeocbhajaa.Sq
attribute [local go_sem] max2_int min2_int max_two min_two max_three min_three max_four min_four   -- for this text's walks alone
set_option linter.unusedVariables false
set_option linter.unusedSimpArgs false

/-! ### spec_RainOfTips: function 66 -/
def spec_RainOfTips.l0 : Nat → Int → List Int → List Int → Int → Int → Option (List Int × Bool)
 | 0, _, _, _, _, _ => none
 | k + 1, x0, x6, x13, x14, x15 => if x15 < x14 then (if 0 ≤ x15 then (if x15 < (x13.length : Int) then (if x6.length < 17592186044416 then (spec_RainOfTips.l0 k x0 (x6 ++ [wrap64 ((rd x13 x15) * x0)]) x13 x14 (wrap64 (x15 + 1))) else (none)) else (none)) else (none)) else ((spec_l1All.f k x6 0 10000).bind fun t234 => (if t234 = true then (some (x6, true)) else (some (([] : List Int), false))))
def spec_RainOfTips.f (k : Nat) (a0 : Int) (l1 : List Int) : Option (List Int × Bool) := (spec_tbRain.f k a0 l1).bind fun t229 => (if t229 = true then (spec_RainOfTips.l0 k a0 ([] : List Int) l1 (l1.length : Int) 0) else (some (([] : List Int), false)))
theorem spec_RainOfTips.mono_l : ∀ k, (∀ y0 y1 y2 y3 y4, LeO (spec_RainOfTips.l0 k y0 y1 y2 y3 y4) (spec_RainOfTips.l0 (k + 1) y0 y1 y2 y3 y4))
 | 0 => fun _ _ _ _ _ r h => by simp [spec_RainOfTips.l0] at h
 | k + 1 => by
  have ih0 := spec_RainOfTips.mono_l k
  ·intro y0 y1 y2 y3 y4
   unfold spec_RainOfTips.l0
   repeat' first
   | (with_reducible exact ih0 _ _ _ _ _)
   | (with_reducible exact spec_l1All.mono _ _ _ _)
   | (with_reducible exact spec_tbRain.mono _ _ _)
   | (with_reducible exact LeO.refl _)
   | (with_reducible exact LeO.none _)
   | (with_reducible refine LeO.ite ?_ ?_)
   | (with_reducible refine LeO.bind ?_ (fun _ => ?_))
   | exact ih0 _ _ _ _ _
   | exact spec_l1All.mono _ _ _ _
   | exact spec_tbRain.mono _ _ _
   | exact LeO.none _
   | refine LeO.ite ?_ ?_
   | refine LeO.bind ?_ (fun _ => ?_)
theorem spec_RainOfTips.mono : ∀ a0 a1 k, LeO (spec_RainOfTips.f k a0 a1) (spec_RainOfTips.f (k + 1) a0 a1) := by
 intro a0 a1 k
 have ih0 := spec_RainOfTips.mono_l k
 unfold spec_RainOfTips.f
 repeat' first
   | (with_reducible exact ih0 _ _ _ _ _)
   | (with_reducible exact spec_l1All.mono _ _ _ _)
   | (with_reducible exact spec_tbRain.mono _ _ _)
   | (with_reducible exact LeO.refl _)
   | (with_reducible exact LeO.none _)
   | (with_reducible refine LeO.ite ?_ ?_)
   | (with_reducible refine LeO.bind ?_ (fun _ => ?_))
   | exact ih0 _ _ _ _ _
   | exact spec_l1All.mono _ _ _ _
   | exact spec_tbRain.mono _ _ _
   | exact LeO.none _
   | refine LeO.ite ?_ ?_
   | refine LeO.bind ?_ (fun _ => ?_)
set_option maxHeartbeats 8000000 in
set_option maxRecDepth 100000 in
theorem spec_RainOfTips.calls (k : Nat) (a0 : Int) (A1 : Option Addr) (c1 : Nat) (l1 : List Int) (r1 : List Int) (r2 : Bool) (w : World) (hr1 : Kd.C (Kd.int .i64) w A1 l1.length l1) (hc1 : l1.length ≤ c1) (h : spec_RainOfTips.f k a0 l1 = some (r1, r2)) :
  Calls Try.prog 66 #[.int .i64 a0, .slice A1 l1.length c1] w fun e w' => ∃ v0_ : Value, e = .returned (.tuple #[v0_, .bool r2]) ∧ Kd.R (Kd.int .i64) 3 w' w.heap.size (fun _ => True) v0_ r1 ∧ Below w.heap.size w w' := by
 have HR1 := Aside0.mk hr1
 have HC1 := Aside0.mk hc1
 clear hr1 hc1
 have HB := Aside0.mk (Below.refl w.heap.size w)
 have H : ((spec_tbRain.f k a0 l1).bind fun t229 => (if t229 = true then (spec_RainOfTips.l0 k a0 ([] : List Int) l1 (l1.length : Int) 0) else (some (([] : List Int), false)))) = some (r1, r2) := h
 clear h
 replace H := Option.bind_eq_some_iff.mp H
 obtain ⟨t229, A30, H⟩ := H
 replace H : (if t229 = true then (spec_RainOfTips.l0 k a0 ([] : List Int) l1 (l1.length : Int) 0) else (some (([] : List Int), false))) = some (r1, r2) := H
 have A3 := Aside0.mk A30
 clear A30
 by_cases c4 : t229 = true
 rotate_left
 ·replace c4 := Bool.eq_false_iff.mpr c4
  subst c4
  have H1 : (some (([] : List Int), false)) = some (r1, r2) := by rw [if_neg (show ¬ (false = true) by decide)] at H; exact H
  clear H
  have H := H1
  clear H1
  simp only [Option.some.injEq, Prod.mk.injEq] at H
  obtain ⟨rfl, rfl⟩ := H
  go_enter Try.func66, Try.ntmps66
  go_wp2_with (first | ((with_reducible refine gate_callee (f := 164) rfl ?_); refine gl 11 Try.func164 #[.int .i64 a0, .slice A1 l1.length c1] ?_; (with_reducible refine (spec_tbRain.calls k a0 _ _ l1 false _ ?side1 ?side2 A3.out).mono ?_); (case side1 => repeat (first | exact HR1.out | (with_reducible refine Kd.C_alloc ?_ _) | (with_reducible refine Kd.C_drewN ?_ _) | (with_reducible refine Kd.C_drew ?_))); (case side2 => exact HC1.out); rintro e w' ⟨rfl, ⟨nd, rfl⟩⟩; refine ⟨_, rfl, ?_⟩))
  go_ret2
  exact ⟨_, by first | rfl | (simp [errW_none, errW_some] <;> rfl) | (simp [*, errW_none, errW_some] <;> rfl), by first | exact Kd.R_nil _ _ _ _ _ | exact Kd.N_nil _ _ _ _ _ | exact Kd.V_nil _ _ _ _ _ | exact Kd.Q_nil _ _ _ _ _ | exact Kd.S_nil _ _ _ _ _, bw HB⟩
 subst c4
 have H1 : (spec_RainOfTips.l0 k a0 ([] : List Int) l1 (l1.length : Int) 0) = some (r1, r2) := by rw [if_pos rfl] at H; exact H
 clear H
 have H := H1
 clear H1
 have H' := Aside0.mk H
 clear H
 go_enter Try.func66, Try.ntmps66
 go_wp2_with (first | ((with_reducible refine gate_callee (f := 164) rfl ?_); refine gl 11 Try.func164 #[.int .i64 a0, .slice A1 l1.length c1] ?_; (with_reducible refine (spec_tbRain.calls k a0 _ _ l1 true _ ?side1 ?side2 A3.out).mono ?_); (case side1 => repeat (first | exact HR1.out | (with_reducible refine Kd.C_alloc ?_ _) | (with_reducible refine Kd.C_drewN ?_ _) | (with_reducible refine Kd.C_drew ?_))); (case side2 => exact HC1.out); rintro e w' ⟨rfl, ⟨nd, rfl⟩⟩; refine ⟨_, rfl, ?_⟩))
 try simp only [Act.put, List.setIfInBounds_toArray, List.set_cons_zero, List.set_cons_succ]
 go_loopg [6, 15] k (fun kq v6 v15 w' => ∃ (x6_1 : List Int) (x15_1 : Int), v15 = .int .i64 x15_1 ∧ Aside0 (spec_RainOfTips.l0 kq a0 x6_1 l1 (l1.length : Int) x15_1 = some (r1, r2)) ∧ Aside0 (kq ≤ k) ∧ Aside0 (Kd.R (Kd.int .i64) 3 w' w.heap.size (fun _ => True) v6 x6_1) ∧ Aside0 (Below w.heap.size w w'))
 case atStart => exact ⟨(([] : List Int)), (0), (by first | rfl | (simp; done) | (simp [*]; done)), H', ⟨Nat.le_refl _⟩, ⟨by first | exact Kd.R_nil _ _ _ _ _ | exact Kd.N_nil _ _ _ _ _ | exact Kd.V_nil _ _ _ _ _ | exact Kd.Q_nil _ _ _ _ _ | exact Kd.S_nil _ _ _ _ _⟩, ⟨bw HB⟩⟩
 case round =>
  clear H'
  try clear c1
  try clear p2
  try clear c4
  obtain ⟨x6_1, x15_1, rfl, HA, HK1, HO_6, HB⟩ := hrel
  cases gk with
  | zero => exact absurd HA.out (by simp [spec_RainOfTips.l0])
  | succ k1 =>
   have H := HA.out
   clear HA
   simp only [spec_RainOfTips.l0] at H
   by_cases c5 : x15_1 < (l1.length : Int)
   rotate_left
   ·rw [if_neg c5] at H
    have c5b0 : decide (x15_1 < (l1.length : Int)) = false := decide_eq_false c5
    clear c5
    replace H := Option.bind_eq_some_iff.mp H
    obtain ⟨t234, A100, H⟩ := H
    replace H : (if t234 = true then (some (x6_1, true)) else (some (([] : List Int), false))) = some (r1, r2) := H
    have A10 := Aside0.mk A100
    clear A100
    by_cases c11 : t234 = true
    ·subst c11
     have H1 : (some (x6_1, true)) = some (r1, r2) := by rw [if_pos rfl] at H; exact H
     clear H
     have H := H1
     clear H1
     simp only [Option.some.injEq, Prod.mk.injEq] at H
     obtain ⟨rfl, rfl⟩ := H
     obtain ⟨Ao12, co12, eo12⟩ := Kd.R_slice HO_6.out
     subst eo12
     go_wp2_with (first | ((with_reducible refine gate_callee (f := 170) rfl ?_); refine gl 27 Try.func170 #[.slice Ao12 x6_1.length co12, .int .i64 0, .int .i64 10000] ?_; (with_reducible refine (spec_l1All.calls k1 _ _ x6_1 0 10000 true _ ?side1 ?side2 A10.out).mono ?_); (case side1 => exact cr HO_6); (case side2 => exact (Kd.R_reads' HO_6.out).2.1); rintro e w' ⟨rfl, ⟨nd, rfl⟩⟩; refine ⟨_, rfl, ?_⟩))
     go_ret2
     exact ⟨_, by first | rfl | (simp [errW_none, errW_some] <;> rfl) | (simp [*, errW_none, errW_some] <;> rfl), rk HO_6, bw HB⟩
    replace c11 := Bool.eq_false_iff.mpr c11
    subst c11
    have H1 : (some (([] : List Int), false)) = some (r1, r2) := by rw [if_neg (show ¬ (false = true) by decide)] at H; exact H
    clear H
    have H := H1
    clear H1
    simp only [Option.some.injEq, Prod.mk.injEq] at H
    obtain ⟨rfl, rfl⟩ := H
    obtain ⟨Ao13, co13, eo13⟩ := Kd.R_slice HO_6.out
    subst eo13
    go_wp2_with (first | ((with_reducible refine gate_callee (f := 170) rfl ?_); refine gl 27 Try.func170 #[.slice Ao13 x6_1.length co13, .int .i64 0, .int .i64 10000] ?_; (with_reducible refine (spec_l1All.calls k1 _ _ x6_1 0 10000 false _ ?side1 ?side2 A10.out).mono ?_); (case side1 => exact cr HO_6); (case side2 => exact (Kd.R_reads' HO_6.out).2.1); rintro e w' ⟨rfl, ⟨nd, rfl⟩⟩; refine ⟨_, rfl, ?_⟩))
    go_ret2
    exact ⟨_, by first | rfl | (simp [errW_none, errW_some] <;> rfl) | (simp [*, errW_none, errW_some] <;> rfl), by first | exact Kd.R_nil _ _ _ _ _ | exact Kd.N_nil _ _ _ _ _ | exact Kd.V_nil _ _ _ _ _ | exact Kd.Q_nil _ _ _ _ _ | exact Kd.S_nil _ _ _ _ _, bw HB⟩
   rw [if_pos c5] at H
   have c5b0 : decide (x15_1 < (l1.length : Int)) = true := decide_eq_true c5
   clear c5
   by_cases c6 : 0 ≤ x15_1
   rotate_left
   ·rw [if_neg c6] at H
    exact absurd H (by simp)
   rw [if_pos c6] at H
   have c6b0 : decide (0 ≤ x15_1) = true := decide_eq_true c6
   clear c6
   by_cases c7 : x15_1 < (l1.length : Int)
   rotate_left
   ·rw [if_neg c7] at H
    exact absurd H (by simp)
   rw [if_pos c7] at H
   have c7b0 : decide (x15_1 < (l1.length : Int)) = true := decide_eq_true c7
   clear c7
   by_cases c8 : x6_1.length < 17592186044416
   rotate_left
   ·rw [if_neg c8] at H
    exact absurd H (by simp)
   rw [if_pos c8] at H
   have LMc8 := Aside0.mk c8
   clear c8
   obtain ⟨y231, hy231⟩ : ∃ y_ : List Int, y_ = (x6_1 ++ [wrap64 ((rd l1 x15_1) * a0)]) := ⟨_, rfl⟩
   replace H : (spec_RainOfTips.l0 k1 a0 y231 l1 (l1.length : Int) (wrap64 (x15_1 + 1))) = some (r1, r2) := by first | (rw [hy231]; with_reducible exact H) | (have H2_ := (Option.bind_some _ _).symm.trans H; rw [hy231]; with_reducible exact H2_) | (have H2_ := (Option.bind_some _ _).symm.trans H; with_reducible exact H2_) | with_reducible exact H | (rw [hy231]; exact H) | exact H
   have Ny231 := Aside0.mk hy231
   clear hy231
   have H' := Aside0.mk H
   clear H
   have p230 : 0 ≤ (x15_1 : Int) := of_decide_eq_true (by first | (with_reducible assumption) | assumption)
   have q230 : x15_1 < (l1.length : Int) := of_decide_eq_true (by first | (with_reducible assumption) | assumption)
   obtain ⟨ad230, e230, hx230_0⟩ := Kd.at_int HR1.out x15_1 p230 q230
   cases e230
   replace hx230_0 := (HB.out.cell (World.block_lt_of_cell? w _ hx230_0)).trans hx230_0
   replace p230 := eq_true p230
   replace q230 := eq_true q230
   go_wp2_with (first | ((with_reducible refine gate_builtin (b := .append) (xs := #[.tmp 19, .tmp 23]) rfl ?_); at_builtin; refine Kd.R_append (Kd.int .i64) (w0 := w) w.heap.size rfl (.tmp 19) (.tmp 23) 34 3 (.int .i64 0) 8 rfl Try.underlying34 info3 rfl (by decide) (by omega) u6 x6_1 (wrap64 ((rd l1 x15_1) * a0)) [.int .i64 (wrap64 ((rd l1 x15_1) * a0))] (fun _ => True) (fun _ => False) rfl rfl ?aP (fun _ hk => hk.elim) ?aF ?aO ?aB ?aS ?aL ?_; (case aP => exact rfl); (case aB => exact (bw HB)); (case aF => exact (fun _ _ => trivial)); (case aO => exact (rk HO_6)); (case aS => exact (below_size (bw HB))); (case aL => have := LMc8.out; omega); intro v232 w9 ho hb hg hat; rw [← Ny231.out] at ho; have n0_ := Aside0.mk (hb); have n1_ := Aside0.mk (ho); clear HB; clear HO_6; have HB := n0_; have HO233 := n1_; clear n0_ n1_; clear ho hb hg hat))
   go_roundg k1
   case measure => have := HK1.out; omega
   case rel => exact ⟨(y231), (wrap64 (x15_1 + 1)), (by first | rfl | (simp; done) | (simp [*]; done)), H', ⟨by have := HK1.out; omega⟩, ⟨rk HO233⟩, ⟨bw HB⟩⟩

/-! ### spec_veSum: function 171 -/
def spec_veSum.l0 : Nat → Int → List Int → Int → Int → Option (Int)
 | 0, _, _, _, _ => none
 | k + 1, x3, x6, x7, x8 => if x8 < x7 then (if 0 ≤ x8 then (if x8 < (x6.length : Int) then (spec_veSum.l0 k (wrap64 (x3 + (rd x6 x8))) x6 x7 (wrap64 (x8 + 1))) else (none)) else (none)) else (some x3)
def spec_veSum.f (k : Nat) (l0 : List Int) : Option (Int) := spec_veSum.l0 k 0 l0 (l0.length : Int) 0
theorem spec_veSum.mono_l : ∀ k, (∀ y0 y1 y2 y3, LeO (spec_veSum.l0 k y0 y1 y2 y3) (spec_veSum.l0 (k + 1) y0 y1 y2 y3))
 | 0 => fun _ _ _ _ r h => by simp [spec_veSum.l0] at h
 | k + 1 => by
  have ih0 := spec_veSum.mono_l k
  ·intro y0 y1 y2 y3
   unfold spec_veSum.l0
   repeat' first
   | (with_reducible exact ih0 _ _ _ _)
   | (with_reducible exact LeO.refl _)
   | (with_reducible exact LeO.none _)
   | (with_reducible refine LeO.ite ?_ ?_)
   | (with_reducible refine LeO.bind ?_ (fun _ => ?_))
   | exact ih0 _ _ _ _
   | exact LeO.none _
   | refine LeO.ite ?_ ?_
   | refine LeO.bind ?_ (fun _ => ?_)
theorem spec_veSum.mono : ∀ a0 k, LeO (spec_veSum.f k a0) (spec_veSum.f (k + 1) a0) := by
 intro a0 k
 have ih0 := spec_veSum.mono_l k
 unfold spec_veSum.f
 repeat' first
   | (with_reducible exact ih0 _ _ _ _)
   | (with_reducible exact LeO.refl _)
   | (with_reducible exact LeO.none _)
   | (with_reducible refine LeO.ite ?_ ?_)
   | (with_reducible refine LeO.bind ?_ (fun _ => ?_))
   | exact ih0 _ _ _ _
   | exact LeO.none _
   | refine LeO.ite ?_ ?_
   | refine LeO.bind ?_ (fun _ => ?_)
set_option maxHeartbeats 8000000 in
set_option maxRecDepth 100000 in
theorem spec_veSum.calls (k : Nat) (A0 : Option Addr) (c0 : Nat) (l0 : List Int) (r : Int) (w : World) (hr0 : Kd.C (Kd.int .i64) w A0 l0.length l0) (hc0 : l0.length ≤ c0) (h : spec_veSum.f k l0 = some r) :
  Calls Try.prog 171 #[.slice A0 l0.length c0] w fun e w' => e = .returned (.int .i64 r) ∧ Drawn0 w w' := by
 have HR0 := Aside0.mk hr0
 have HC0 := Aside0.mk hc0
 clear hr0 hc0
 have H : (spec_veSum.l0 k 0 l0 (l0.length : Int) 0) = some r := h
 clear h
 have H' := Aside0.mk H
 clear H
 go_enter Try.func171, Try.ntmps171
 go_wp2
 try simp only [Act.put, List.setIfInBounds_toArray, List.set_cons_zero, List.set_cons_succ]
 go_loopg [3, 8] k (fun kq v3 v8 w' => ∃ (x3_1 : Int) (x8_1 : Int), v3 = .int .i64 x3_1 ∧ v8 = .int .i64 x8_1 ∧ Aside0 (spec_veSum.l0 kq x3_1 l0 (l0.length : Int) x8_1 = some r) ∧ Aside0 (kq ≤ k) ∧ Drawn0 w w')
 case atStart => exact ⟨(0), (0), (by first | rfl | (simp; done) | (simp [*]; done)), (by first | rfl | (simp; done) | (simp [*]; done)), H', ⟨Nat.le_refl _⟩, by repeat (first | exact Drawn0.refl _ | apply Drawn0.step)⟩
 case round =>
  clear H'
  try clear c1
  obtain ⟨x3_1, x8_1, rfl, rfl, HA, HK1, ⟨m1, rfl⟩⟩ := hrel
  cases gk with
  | zero => exact absurd HA.out (by simp [spec_veSum.l0])
  | succ k1 =>
   have H := HA.out
   clear HA
   simp only [spec_veSum.l0] at H
   by_cases c2 : x8_1 < (l0.length : Int)
   rotate_left
   ·rw [if_neg c2] at H
    have c2b0 : decide (x8_1 < (l0.length : Int)) = false := decide_eq_false c2
    clear c2
    obtain rfl := Option.some.inj H
    go_wp2
    go_ret
    exact ⟨by first | rfl | (simp; done) | (simp [*]; done), by repeat (first | exact Drawn0.refl _ | apply Drawn0.step)⟩
   rw [if_pos c2] at H
   have c2b0 : decide (x8_1 < (l0.length : Int)) = true := decide_eq_true c2
   clear c2
   by_cases c3 : 0 ≤ x8_1
   rotate_left
   ·rw [if_neg c3] at H
    exact absurd H (by simp)
   rw [if_pos c3] at H
   have c3b0 : decide (0 ≤ x8_1) = true := decide_eq_true c3
   clear c3
   by_cases c4 : x8_1 < (l0.length : Int)
   rotate_left
   ·rw [if_neg c4] at H
    exact absurd H (by simp)
   rw [if_pos c4] at H
   have c4b0 : decide (x8_1 < (l0.length : Int)) = true := decide_eq_true c4
   clear c4
   have H' := Aside0.mk H
   clear H
   have p235 : 0 ≤ (x8_1 : Int) := of_decide_eq_true (by first | (with_reducible assumption) | assumption)
   have q235 : x8_1 < (l0.length : Int) := of_decide_eq_true (by first | (with_reducible assumption) | assumption)
   obtain ⟨ad235, e235, hx235_0⟩ := Kd.at_int HR0.out x8_1 p235 q235
   cases e235
   replace p235 := eq_true p235
   replace q235 := eq_true q235
   go_wp2
   go_roundg k1
   case measure => have := HK1.out; omega
   case rel => exact ⟨(wrap64 (x3_1 + (rd l0 x8_1))), (wrap64 (x8_1 + 1)), (by first | rfl | (simp; done) | (simp [*]; done)), (by first | rfl | (simp; done) | (simp [*]; done)), H', ⟨by have := HK1.out; omega⟩, by repeat (first | exact Drawn0.refl _ | apply Drawn0.step)⟩

/-! ### spec_RangeOfTips: function 67 -/
def spec_RangeOfTips.f (k : Nat) (a0 : Int) (l1 : List Int) : Option (Int × Int × Bool) := (spec_tbRain.f k a0 l1).bind fun t236 => (if t236 = true then ((spec_veSum.f k l1).bind fun t237 => (some (wrap64 (a0 * t237), wrap64 ((wrap64 ((wrap64 (a0 * t237)) + a0)) - 1), true))) else (some (0, 0, false)))
theorem spec_RangeOfTips.mono : ∀ a0 a1 k, LeO (spec_RangeOfTips.f k a0 a1) (spec_RangeOfTips.f (k + 1) a0 a1) := by
 intro a0 a1 k
 unfold spec_RangeOfTips.f
 repeat' first
   | (with_reducible exact spec_tbRain.mono _ _ _)
   | (with_reducible exact spec_veSum.mono _ _)
   | (with_reducible exact LeO.refl _)
   | (with_reducible exact LeO.none _)
   | (with_reducible refine LeO.ite ?_ ?_)
   | (with_reducible refine LeO.bind ?_ (fun _ => ?_))
   | exact spec_tbRain.mono _ _ _
   | exact spec_veSum.mono _ _
   | exact LeO.none _
   | refine LeO.ite ?_ ?_
   | refine LeO.bind ?_ (fun _ => ?_)
set_option maxHeartbeats 8000000 in
set_option maxRecDepth 100000 in
theorem spec_RangeOfTips.calls (k : Nat) (a0 : Int) (A1 : Option Addr) (c1 : Nat) (l1 : List Int) (r1 : Int) (r2 : Int) (r3 : Bool) (w : World) (hr1 : Kd.C (Kd.int .i64) w A1 l1.length l1) (hc1 : l1.length ≤ c1) (h : spec_RangeOfTips.f k a0 l1 = some (r1, r2, r3)) :
  Calls Try.prog 67 #[.int .i64 a0, .slice A1 l1.length c1] w fun e w' => e = .returned (.tuple #[.int .i64 r1, .int .i64 r2, .bool r3]) ∧ Drawn0 w w' := by
 have HR1 := Aside0.mk hr1
 have HC1 := Aside0.mk hc1
 clear hr1 hc1
 have H : ((spec_tbRain.f k a0 l1).bind fun t236 => (if t236 = true then ((spec_veSum.f k l1).bind fun t237 => (some (wrap64 (a0 * t237), wrap64 ((wrap64 ((wrap64 (a0 * t237)) + a0)) - 1), true))) else (some (0, 0, false)))) = some (r1, r2, r3) := h
 clear h
 replace H := Option.bind_eq_some_iff.mp H
 obtain ⟨t236, A30, H⟩ := H
 replace H : (if t236 = true then ((spec_veSum.f k l1).bind fun t237 => (some (wrap64 (a0 * t237), wrap64 ((wrap64 ((wrap64 (a0 * t237)) + a0)) - 1), true))) else (some (0, 0, false))) = some (r1, r2, r3) := H
 have A3 := Aside0.mk A30
 clear A30
 by_cases c4 : t236 = true
 rotate_left
 ·replace c4 := Bool.eq_false_iff.mpr c4
  subst c4
  have H1 : (some (0, 0, false)) = some (r1, r2, r3) := by rw [if_neg (show ¬ (false = true) by decide)] at H; exact H
  clear H
  have H := H1
  clear H1
  simp only [Option.some.injEq, Prod.mk.injEq] at H
  obtain ⟨rfl, rfl, rfl⟩ := H
  go_enter Try.func67, Try.ntmps67
  go_wp2_with (first | ((with_reducible refine gate_callee (f := 164) rfl ?_); refine gl 10 Try.func164 #[.int .i64 a0, .slice A1 l1.length c1] ?_; (with_reducible refine (spec_tbRain.calls k a0 _ _ l1 false _ ?side1 ?side2 A3.out).mono ?_); (case side1 => repeat (first | exact HR1.out | (with_reducible refine Kd.C_alloc ?_ _) | (with_reducible refine Kd.C_drewN ?_ _) | (with_reducible refine Kd.C_drew ?_))); (case side2 => exact HC1.out); rintro e w' ⟨rfl, ⟨nd, rfl⟩⟩; refine ⟨_, rfl, ?_⟩))
  go_ret3
  exact ⟨by first | rfl | (simp; done) | (simp [*]; done), by repeat (first | exact Drawn0.refl _ | apply Drawn0.step)⟩
 subst c4
 have H1 : ((spec_veSum.f k l1).bind fun t237 => (some (wrap64 (a0 * t237), wrap64 ((wrap64 ((wrap64 (a0 * t237)) + a0)) - 1), true))) = some (r1, r2, r3) := by rw [if_pos rfl] at H; exact H
 clear H
 have H := H1
 clear H1
 replace H := Option.bind_eq_some_iff.mp H
 obtain ⟨t237, A50, H⟩ := H
 replace H : (some (wrap64 (a0 * t237), wrap64 ((wrap64 ((wrap64 (a0 * t237)) + a0)) - 1), true)) = some (r1, r2, r3) := H
 have A5 := Aside0.mk A50
 clear A50
 simp only [Option.some.injEq, Prod.mk.injEq] at H
 obtain ⟨rfl, rfl, rfl⟩ := H
 go_enter Try.func67, Try.ntmps67
 go_wp2_with (first | ((with_reducible refine gate_callee (f := 164) rfl ?_); refine gl 10 Try.func164 #[.int .i64 a0, .slice A1 l1.length c1] ?_; (with_reducible refine (spec_tbRain.calls k a0 _ _ l1 true _ ?side1 ?side2 A3.out).mono ?_); (case side1 => repeat (first | exact HR1.out | (with_reducible refine Kd.C_alloc ?_ _) | (with_reducible refine Kd.C_drewN ?_ _) | (with_reducible refine Kd.C_drew ?_))); (case side2 => exact HC1.out); rintro e w' ⟨rfl, ⟨nd, rfl⟩⟩; refine ⟨_, rfl, ?_⟩) | ((with_reducible refine gate_callee (f := 171) rfl ?_); refine gl 14 Try.func171 #[.slice A1 l1.length c1] ?_; (with_reducible refine (spec_veSum.calls k _ _ l1 t237 _ ?side1 ?side2 A5.out).mono ?_); (case side1 => repeat (first | exact HR1.out | (with_reducible refine Kd.C_alloc ?_ _) | (with_reducible refine Kd.C_drewN ?_ _) | (with_reducible refine Kd.C_drew ?_))); (case side2 => exact HC1.out); rintro e w' ⟨rfl, ⟨nd, rfl⟩⟩; refine ⟨_, rfl, ?_⟩))
 go_ret3
 exact ⟨by first | rfl | (simp; done) | (simp [*]; done), by repeat (first | exact Drawn0.refl _ | apply Drawn0.step)⟩

/-! ### spec_DrawRangeOfTwo: function 68 -/
def spec_DrawRangeOfTwo.f (k : Nat) (l0 : List Int) : Option (Int × Int × List Int × List Int) := (spec_l1Cur_rain.f k l0 0 0).bind fun bt239 => ((spec_l1Cur_among.f l0 bt239.2.2.1 bt239.2.2.2 (([1, 3, 5, 7, 12, 60, 61, 0] : List Int))).bind fun bt248 => ((spec_TipsOfRain.f k bt239.1 bt239.2.1).bind fun bt251 => ((spec_TipsOfRain.f k bt248.1 bt239.2.1).bind fun bt255 => (if bt251.2 = true then (if bt255.2 = true then ((spec_l1Cur_one.f l0 bt248.2.1 bt248.2.2 5).bind fun bt259 => (if bt259.1 = true then ((spec_l1Cur_rain.f k l0 bt259.2.1 bt259.2.2).bind fun bt262 => (some (bt239.1, bt248.1, bt239.2.1, bt262.2.1))) else (some (bt239.1, bt248.1, bt251.1, bt255.1)))) else ((spec_l1Cur_rain.f k l0 bt248.2.1 bt248.2.2).bind fun bt268 => (some (bt239.1, bt248.1, bt239.2.1, bt268.2.1)))) else ((spec_l1Cur_rain.f k l0 bt248.2.1 bt248.2.2).bind fun bt274 => (some (bt239.1, bt248.1, bt239.2.1, bt274.2.1)))))))
theorem spec_DrawRangeOfTwo.mono : ∀ a0 k, LeO (spec_DrawRangeOfTwo.f k a0) (spec_DrawRangeOfTwo.f (k + 1) a0) := by
 intro a0 k
 unfold spec_DrawRangeOfTwo.f
 repeat' first
   | (with_reducible exact spec_TipsOfRain.mono _ _ _)
   | (with_reducible exact spec_l1Cur_rain.mono _ _ _ _)
   | (with_reducible exact LeO.refl _)
   | (with_reducible exact LeO.none _)
   | (with_reducible refine LeO.ite ?_ ?_)
   | (with_reducible refine LeO.bind ?_ (fun _ => ?_))
   | exact spec_TipsOfRain.mono _ _ _
   | exact spec_l1Cur_rain.mono _ _ _ _
   | exact LeO.none _
   | refine LeO.ite ?_ ?_
   | refine LeO.bind ?_ (fun _ => ?_)
set_option maxHeartbeats 8000000 in
set_option maxRecDepth 100000 in
theorem spec_DrawRangeOfTwo.calls (k : Nat) (A0 : Option Addr) (c0 : Nat) (l0 : List Int) (r1 : Int) (r2 : Int) (r3 : List Int) (r4 : List Int) (w : World) (hr0 : Kd.C (Kd.int .u8) w A0 l0.length l0) (hc0 : l0.length ≤ c0) (h : spec_DrawRangeOfTwo.f k l0 = some (r1, r2, r3, r4)) :
  Calls Try.prog 68 #[.slice A0 l0.length c0] w fun e w' => ∃ v2_ v3_ : Value, e = .returned (.tuple #[.int .i64 r1, .int .i64 r2, v2_, v3_]) ∧ Kd.R (Kd.int .i64) 3 w' w.heap.size (fun k_ => some k_ ≠ (v3_ : Value).ownBlock) v2_ r3 ∧ Kd.R (Kd.int .i64) 3 w' w.heap.size (fun k_ => some k_ ≠ (v2_ : Value).ownBlock) v3_ r4 ∧ Below w.heap.size w w' := by
 have hu140 := Try.underlying140
 have HR0 := Aside0.mk hr0
 have HC0 := Aside0.mk hc0
 clear hr0 hc0
 have HB := Aside0.mk (Below.refl w.heap.size w)
 have H : ((spec_l1Cur_rain.f k l0 0 0).bind fun bt239 => ((spec_l1Cur_among.f l0 bt239.2.2.1 bt239.2.2.2 (([1, 3, 5, 7, 12, 60, 61, 0] : List Int))).bind fun bt248 => ((spec_TipsOfRain.f k bt239.1 bt239.2.1).bind fun bt251 => ((spec_TipsOfRain.f k bt248.1 bt239.2.1).bind fun bt255 => (if bt251.2 = true then (if bt255.2 = true then ((spec_l1Cur_one.f l0 bt248.2.1 bt248.2.2 5).bind fun bt259 => (if bt259.1 = true then ((spec_l1Cur_rain.f k l0 bt259.2.1 bt259.2.2).bind fun bt262 => (some (bt239.1, bt248.1, bt239.2.1, bt262.2.1))) else (some (bt239.1, bt248.1, bt251.1, bt255.1)))) else ((spec_l1Cur_rain.f k l0 bt248.2.1 bt248.2.2).bind fun bt268 => (some (bt239.1, bt248.1, bt239.2.1, bt268.2.1)))) else ((spec_l1Cur_rain.f k l0 bt248.2.1 bt248.2.2).bind fun bt274 => (some (bt239.1, bt248.1, bt239.2.1, bt274.2.1)))))))) = some (r1, r2, r3, r4) := h
 clear h
 replace H := Option.bind_eq_some_iff.mp H
 obtain ⟨⟨t239, t240, t243, t244⟩, A20, H⟩ := H
 replace H : ((spec_l1Cur_among.f l0 t243 t244 (([1, 3, 5, 7, 12, 60, 61, 0] : List Int))).bind fun bt248 => ((spec_TipsOfRain.f k t239 t240).bind fun bt251 => ((spec_TipsOfRain.f k bt248.1 t240).bind fun bt255 => (if bt251.2 = true then (if bt255.2 = true then ((spec_l1Cur_one.f l0 bt248.2.1 bt248.2.2 5).bind fun bt259 => (if bt259.1 = true then ((spec_l1Cur_rain.f k l0 bt259.2.1 bt259.2.2).bind fun bt262 => (some (t239, bt248.1, t240, bt262.2.1))) else (some (t239, bt248.1, bt251.1, bt255.1)))) else ((spec_l1Cur_rain.f k l0 bt248.2.1 bt248.2.2).bind fun bt268 => (some (t239, bt248.1, t240, bt268.2.1)))) else ((spec_l1Cur_rain.f k l0 bt248.2.1 bt248.2.2).bind fun bt274 => (some (t239, bt248.1, t240, bt274.2.1))))))) = some (r1, r2, r3, r4) := H
 have A2 := Aside0.mk A20
 clear A20
 obtain ⟨y245, hy245⟩ : ∃ y_ : List Int, y_ = (([1, 3, 5, 7, 12, 60, 61, 0] : List Int)) := ⟨_, rfl⟩
 replace H : ((spec_l1Cur_among.f l0 t243 t244 y245).bind fun bt248 => ((spec_TipsOfRain.f k t239 t240).bind fun bt251 => ((spec_TipsOfRain.f k bt248.1 t240).bind fun bt255 => (if bt251.2 = true then (if bt255.2 = true then ((spec_l1Cur_one.f l0 bt248.2.1 bt248.2.2 5).bind fun bt259 => (if bt259.1 = true then ((spec_l1Cur_rain.f k l0 bt259.2.1 bt259.2.2).bind fun bt262 => (some (t239, bt248.1, t240, bt262.2.1))) else (some (t239, bt248.1, bt251.1, bt255.1)))) else ((spec_l1Cur_rain.f k l0 bt248.2.1 bt248.2.2).bind fun bt268 => (some (t239, bt248.1, t240, bt268.2.1)))) else ((spec_l1Cur_rain.f k l0 bt248.2.1 bt248.2.2).bind fun bt274 => (some (t239, bt248.1, t240, bt274.2.1))))))) = some (r1, r2, r3, r4) := by first | (rw [hy245]; with_reducible exact H) | (have H2_ := (Option.bind_some _ _).symm.trans H; rw [hy245]; with_reducible exact H2_) | (have H2_ := (Option.bind_some _ _).symm.trans H; with_reducible exact H2_) | with_reducible exact H | (rw [hy245]; exact H) | exact H
 have Ny245 := Aside0.mk hy245
 clear hy245
 replace H := Option.bind_eq_some_iff.mp H
 obtain ⟨⟨t248, t249, t250⟩, A30, H⟩ := H
 replace H : ((spec_TipsOfRain.f k t239 t240).bind fun bt251 => ((spec_TipsOfRain.f k t248 t240).bind fun bt255 => (if bt251.2 = true then (if bt255.2 = true then ((spec_l1Cur_one.f l0 t249 t250 5).bind fun bt259 => (if bt259.1 = true then ((spec_l1Cur_rain.f k l0 bt259.2.1 bt259.2.2).bind fun bt262 => (some (t239, t248, t240, bt262.2.1))) else (some (t239, t248, bt251.1, bt255.1)))) else ((spec_l1Cur_rain.f k l0 t249 t250).bind fun bt268 => (some (t239, t248, t240, bt268.2.1)))) else ((spec_l1Cur_rain.f k l0 t249 t250).bind fun bt274 => (some (t239, t248, t240, bt274.2.1)))))) = some (r1, r2, r3, r4) := H
 have A3 := Aside0.mk A30
 clear A30
 replace H := Option.bind_eq_some_iff.mp H
 obtain ⟨⟨t251, t252⟩, A40, H⟩ := H
 replace H : ((spec_TipsOfRain.f k t248 t240).bind fun bt255 => (if t252 = true then (if bt255.2 = true then ((spec_l1Cur_one.f l0 t249 t250 5).bind fun bt259 => (if bt259.1 = true then ((spec_l1Cur_rain.f k l0 bt259.2.1 bt259.2.2).bind fun bt262 => (some (t239, t248, t240, bt262.2.1))) else (some (t239, t248, t251, bt255.1)))) else ((spec_l1Cur_rain.f k l0 t249 t250).bind fun bt268 => (some (t239, t248, t240, bt268.2.1)))) else ((spec_l1Cur_rain.f k l0 t249 t250).bind fun bt274 => (some (t239, t248, t240, bt274.2.1))))) = some (r1, r2, r3, r4) := H
 have A4 := Aside0.mk A40
 clear A40
 replace H := Option.bind_eq_some_iff.mp H
 obtain ⟨⟨t255, t256⟩, A50, H⟩ := H
 replace H : (if t252 = true then (if t256 = true then ((spec_l1Cur_one.f l0 t249 t250 5).bind fun bt259 => (if bt259.1 = true then ((spec_l1Cur_rain.f k l0 bt259.2.1 bt259.2.2).bind fun bt262 => (some (t239, t248, t240, bt262.2.1))) else (some (t239, t248, t251, t255)))) else ((spec_l1Cur_rain.f k l0 t249 t250).bind fun bt268 => (some (t239, t248, t240, bt268.2.1)))) else ((spec_l1Cur_rain.f k l0 t249 t250).bind fun bt274 => (some (t239, t248, t240, bt274.2.1)))) = some (r1, r2, r3, r4) := H
 have A5 := Aside0.mk A50
 clear A50
 by_cases c6 : t252 = true
 rotate_left
 ·replace c6 := Bool.eq_false_iff.mpr c6
  subst c6
  have H1 : ((spec_l1Cur_rain.f k l0 t249 t250).bind fun bt274 => (some (t239, t248, t240, bt274.2.1))) = some (r1, r2, r3, r4) := by rw [if_neg (show ¬ (false = true) by decide)] at H; exact H
  clear H
  have H := H1
  clear H1
  replace H := Option.bind_eq_some_iff.mp H
  obtain ⟨⟨t274, t275, t278, t279⟩, A430, H⟩ := H
  replace H : (some (t239, t248, t240, t275)) = some (r1, r2, r3, r4) := H
  have A43 := Aside0.mk A430
  clear A430
  simp only [Option.some.injEq, Prod.mk.injEq] at H
  obtain ⟨rfl, rfl, rfl, rfl⟩ := H
  go_enter Try.func68, Try.ntmps68
  go_wp2_with (first | ((with_reducible refine gate_dst (N := 18) rfl ?_); refine bx 18 #[.slice A0 l0.length c0, .int .i64 0, .int .u64 0] 140 ?_; intro gb238 hg w44 hbox hb; have HI238 := Aside0.mk ((⟨_, _, hbox, (by rw [hg]; exact (below_size (bw HB)) : w.heap.size ≤ gb238), HR0.out⟩ : IsS140 w _ gb238 l0 0 0)); replace HB := bs HB hb; clear hb hbox hg) | ((with_reducible refine gate_callee (f := 162) rfl ?_); refine gl 21 Try.func162 #[.pointer (some ⟨gb238, 0, none⟩)] ?_; (with_reducible refine (spec_l1Cur_rain.calls k gb238 l0 0 0 t239 t240 t243 t244 w _ ?side1 ?side2 A2.out).mono ?_); (case side1 => repeat (first | (with_reducible first | exact HI238.out | apply IsS140.alloc | apply IsS140.drewN | apply IsS140.drew | apply IsS140.set_1 | apply IsS140.set_2) | exact HI238.out)); (case side2 => repeat (first | (with_reducible first | exact HB.out | apply below_alloc | apply pw_below_drewN | apply below_drew1 | refine below_set ?_ (IsS140.ge HI238.out)) | exact HB.out)); rintro e w45 ⟨v241, rfl, ho0, hi, hb, hk⟩; refine ⟨_, rfl, ?_⟩; have HO242 := Aside0.mk (Kd.R_lower ho0 (below_size (by repeat (first | (with_reducible first | exact HB.out | apply below_alloc | apply pw_below_drewN | apply below_drew1 | refine below_set ?_ (IsS140.ge HI238.out)) | exact HB.out)))); replace HB := Aside0.mk (hb); replace HI238 := Aside0.mk (hi); (try clear hb); (try clear hk); (try clear hi); (try clear ho0)) | ((with_reducible refine gate_dst (N := 25) rfl ?_); refine Kd.R_lit (Kd.int .i64) _ 3 ?hg (N := 25) ?hd (xs := ([1, 3, 5, 7, 12, 60, 61, 0] : List Int)) (inner := [.int .i64 1, .int .i64 3, .int .i64 5, .int .i64 7, .int .i64 12, .int .i64 60, .int .i64 61, .int .i64 0]) (ok := fun _ => True) (okp := fun _ => True) ?hr ?hp (fun _ hk => hk) trivial (Below.refl _ _) (Nat.le_refl _) (by simp) ?_; (case hd => rfl); (case hg => rfl); (case hr => first | (go_simp; done) | (go_simp; rfl)); (case hp => exact (Reps.one (show Kd.M (Kd.int .i64) _ _ _ 1 [.int .i64 1] from rfl) (Reps.one (show Kd.M (Kd.int .i64) _ _ _ 3 [.int .i64 3] from rfl) (Reps.one (show Kd.M (Kd.int .i64) _ _ _ 5 [.int .i64 5] from rfl) (Reps.one (show Kd.M (Kd.int .i64) _ _ _ 7 [.int .i64 7] from rfl) (Reps.one (show Kd.M (Kd.int .i64) _ _ _ 12 [.int .i64 12] from rfl) (Reps.one (show Kd.M (Kd.int .i64) _ _ _ 60 [.int .i64 60] from rfl) (Reps.one (show Kd.M (Kd.int .i64) _ _ _ 61 [.int .i64 61] from rfl) (Reps.one (show Kd.M (Kd.int .i64) _ _ _ 0 [.int .i64 0] from rfl) (Reps.none _ _)))))))))); intro v246 w46 ho47 hb hg_ hnew_; clear hg_ hnew_; (first | rw [← Ny245.out] at ho47 | (simp only [Int.reduceToNat] at ho47; rw [← Ny245.out] at ho47)); have HO247 := Aside0.mk (Kd.R_lower (Kd.R_new' ho47 (Kd.R_lt (rk HO242))) (below_size (by repeat (first | (with_reducible first | exact HB.out | apply below_alloc | apply pw_below_drewN | apply below_drew1 | refine below_set ?_ (IsS140.ge HI238.out)) | exact HB.out)))); replace HO242 := Aside0.mk (Kd.R_elder' (rk HO242) (Kd.R_base ho47) hb); replace HB := Aside0.mk (below_step (by repeat (first | (with_reducible first | exact HB.out | apply below_alloc | apply pw_below_drewN | apply below_drew1 | refine below_set ?_ (IsS140.ge HI238.out)) | exact HB.out)) hb); replace HI238 := Aside0.mk (IsS140.below (by repeat (first | (with_reducible first | exact HI238.out | apply IsS140.alloc | apply IsS140.drewN | apply IsS140.drew | apply IsS140.set_1 | apply IsS140.set_2) | exact HI238.out)) hb); clear hb ho47; obtain ⟨Ao48, co48, eo48⟩ := Kd.R_slice HO247.out; subst eo48) | ((with_reducible refine gate_callee (f := 145) rfl ?_); refine gl 26 Try.func145 #[.pointer (some ⟨gb238, 0, none⟩), .slice Ao48 y245.length co48] ?_; (with_reducible refine (spec_l1Cur_among.calls gb238 l0 t243 t244 _ _ y245 t248 t249 t250 w _ ?side1 ?side2 ?side3 ?side4 ?side5 A3.out).mono ?_); (case side1 => repeat (first | (with_reducible first | exact HI238.out | apply IsS140.alloc | apply IsS140.drewN | apply IsS140.drew | apply IsS140.set_1 | apply IsS140.set_2) | exact HI238.out)); (case side2 => repeat (first | (with_reducible first | exact HB.out | apply below_alloc | apply pw_below_drewN | apply below_drew1 | refine below_set ?_ (IsS140.ge HI238.out)) | exact HB.out)); (case side3 => exact cr HO247); (case side4 => exact (Kd.R_reads' HO247.out).2.1); (case side5 => exact far_slice (IsS140.own_ne HI238.out HO247.out (by decide))); rintro e w49 ⟨rfl, hi, hb, hk⟩; refine ⟨_, rfl, ?_⟩; replace HO242 := Aside0.mk (Kd.R_mono (Kd.R_keep (IsS140.apart (show IsS140 w _ gb238 l0 t243 t244 from by repeat (first | (with_reducible first | exact HI238.out | apply IsS140.alloc | apply IsS140.drewN | apply IsS140.drew | apply IsS140.set_1 | apply IsS140.set_2) | exact HI238.out)) (rk HO242) (by decide)) hk (fun _ h => h.2)) (fun _ h => h.1)); replace HO247 := Aside0.mk (Kd.R_mono (Kd.R_keep (IsS140.apart (show IsS140 w _ gb238 l0 t243 t244 from by repeat (first | (with_reducible first | exact HI238.out | apply IsS140.alloc | apply IsS140.drewN | apply IsS140.drew | apply IsS140.set_1 | apply IsS140.set_2) | exact HI238.out)) (rk HO247) (by decide)) hk (fun _ h => h.2)) (fun _ h => h.1)); replace HB := Aside0.mk (hb); replace HI238 := Aside0.mk (hi); (try clear hb); (try clear hk); (try clear hi); obtain ⟨Ao50, co50, eo50⟩ := Kd.R_slice HO242.out; subst eo50) | ((with_reducible refine gate_callee (f := 56) rfl ?_); refine gl 30 Try.func56 #[.int .i64 t239, .slice Ao50 t240.length co50] ?_; (with_reducible refine (spec_TipsOfRain.calls k t239 _ _ t240 t251 false _ ?side1 ?side2 A4.out).mono ?_); (case side1 => exact cr HO242); (case side2 => exact (Kd.R_reads' HO242.out).2.1); rintro e w51 ⟨v253, rfl, ho0, hb⟩; refine ⟨_, rfl, ?_⟩; have HO254 := Aside0.mk (Kd.R_lower (Kd.R_new' (Kd.R_new' ho0 (Kd.R_lt (rk HO242))) (Kd.R_lt (rk HO247))) (below_size (by repeat (first | (with_reducible first | exact HB.out | apply below_alloc | apply pw_below_drewN | apply below_drew1 | refine below_set ?_ (IsS140.ge HI238.out)) | exact HB.out)))); replace HO242 := Aside0.mk (Kd.R_elder' (rk HO242) (Kd.R_base ho0) hb); replace HO247 := Aside0.mk (Kd.R_elder' (rk HO247) (Kd.R_base ho0) hb); replace HB := Aside0.mk (below_step (by repeat (first | (with_reducible first | exact HB.out | apply below_alloc | apply pw_below_drewN | apply below_drew1 | refine below_set ?_ (IsS140.ge HI238.out)) | exact HB.out)) hb); replace HI238 := Aside0.mk (IsS140.below (by repeat (first | (with_reducible first | exact HI238.out | apply IsS140.alloc | apply IsS140.drewN | apply IsS140.drew | apply IsS140.set_1 | apply IsS140.set_2) | exact HI238.out)) hb); (try clear hb); (try clear ho0)) | ((with_reducible refine gate_callee (f := 56) rfl ?_); refine gl 36 Try.func56 #[.int .i64 t248, .slice Ao50 t240.length co50] ?_; (with_reducible refine (spec_TipsOfRain.calls k t248 _ _ t240 t255 t256 _ ?side1 ?side2 A5.out).mono ?_); (case side1 => exact cr HO242); (case side2 => exact (Kd.R_reads' HO242.out).2.1); rintro e w52 ⟨v257, rfl, ho0, hb⟩; refine ⟨_, rfl, ?_⟩; have HO258 := Aside0.mk (Kd.R_lower (Kd.R_new' (Kd.R_new' (Kd.R_new' ho0 (Kd.R_lt (rk HO242))) (Kd.R_lt (rk HO247))) (Kd.R_lt (rk HO254))) (below_size (by repeat (first | (with_reducible first | exact HB.out | apply below_alloc | apply pw_below_drewN | apply below_drew1 | refine below_set ?_ (IsS140.ge HI238.out)) | exact HB.out)))); replace HO242 := Aside0.mk (Kd.R_elder' (rk HO242) (Kd.R_base ho0) hb); replace HO247 := Aside0.mk (Kd.R_elder' (rk HO247) (Kd.R_base ho0) hb); replace HO254 := Aside0.mk (Kd.R_elder' (rk HO254) (Kd.R_base ho0) hb); replace HB := Aside0.mk (below_step (by repeat (first | (with_reducible first | exact HB.out | apply below_alloc | apply pw_below_drewN | apply below_drew1 | refine below_set ?_ (IsS140.ge HI238.out)) | exact HB.out)) hb); replace HI238 := Aside0.mk (IsS140.below (by repeat (first | (with_reducible first | exact HI238.out | apply IsS140.alloc | apply IsS140.drewN | apply IsS140.drew | apply IsS140.set_1 | apply IsS140.set_2) | exact HI238.out)) hb); (try clear hb); (try clear ho0)) | ((with_reducible refine gate_callee (f := 162) rfl ?_); refine gl 51 Try.func162 #[.pointer (some ⟨gb238, 0, none⟩)] ?_; (with_reducible refine (spec_l1Cur_rain.calls k gb238 l0 t249 t250 t274 t275 t278 t279 w _ ?side1 ?side2 A43.out).mono ?_); (case side1 => repeat (first | (with_reducible first | exact HI238.out | apply IsS140.alloc | apply IsS140.drewN | apply IsS140.drew | apply IsS140.set_1 | apply IsS140.set_2) | exact HI238.out)); (case side2 => repeat (first | (with_reducible first | exact HB.out | apply below_alloc | apply pw_below_drewN | apply below_drew1 | refine below_set ?_ (IsS140.ge HI238.out)) | exact HB.out)); rintro e w53 ⟨v276, rfl, ho0, hi, hb, hk⟩; refine ⟨_, rfl, ?_⟩; have HO277 := Aside0.mk (Kd.R_lower (Kd.R_new' (Kd.R_new' (Kd.R_new' (Kd.R_new' ho0 (Kd.R_lt (rk HO242))) (Kd.R_lt (rk HO247))) (Kd.R_lt (rk HO254))) (Kd.R_lt (rk HO258))) (below_size (by repeat (first | (with_reducible first | exact HB.out | apply below_alloc | apply pw_below_drewN | apply below_drew1 | refine below_set ?_ (IsS140.ge HI238.out)) | exact HB.out)))); replace HO242 := Aside0.mk (Kd.R_mono (Kd.R_told (Kd.R_oldK (IsS140.apart (show IsS140 w _ gb238 l0 t249 t250 from by repeat (first | (with_reducible first | exact HI238.out | apply IsS140.alloc | apply IsS140.drewN | apply IsS140.drew | apply IsS140.set_1 | apply IsS140.set_2) | exact HI238.out)) (rk HO242) (by decide)) hk) (Kd.R_base ho0)) (fun _ h_ => h_.1)); replace HO247 := Aside0.mk (Kd.R_mono (Kd.R_told (Kd.R_oldK (IsS140.apart (show IsS140 w _ gb238 l0 t249 t250 from by repeat (first | (with_reducible first | exact HI238.out | apply IsS140.alloc | apply IsS140.drewN | apply IsS140.drew | apply IsS140.set_1 | apply IsS140.set_2) | exact HI238.out)) (rk HO247) (by decide)) hk) (Kd.R_base ho0)) (fun _ h_ => h_.1)); replace HO254 := Aside0.mk (Kd.R_mono (Kd.R_told (Kd.R_oldK (IsS140.apart (show IsS140 w _ gb238 l0 t249 t250 from by repeat (first | (with_reducible first | exact HI238.out | apply IsS140.alloc | apply IsS140.drewN | apply IsS140.drew | apply IsS140.set_1 | apply IsS140.set_2) | exact HI238.out)) (rk HO254) (by decide)) hk) (Kd.R_base ho0)) (fun _ h_ => h_.1)); replace HO258 := Aside0.mk (Kd.R_mono (Kd.R_told (Kd.R_oldK (IsS140.apart (show IsS140 w _ gb238 l0 t249 t250 from by repeat (first | (with_reducible first | exact HI238.out | apply IsS140.alloc | apply IsS140.drewN | apply IsS140.drew | apply IsS140.set_1 | apply IsS140.set_2) | exact HI238.out)) (rk HO258) (by decide)) hk) (Kd.R_base ho0)) (fun _ h_ => h_.1)); replace HB := Aside0.mk (hb); replace HI238 := Aside0.mk (hi); (try clear hb); (try clear hk); (try clear hi); (try clear ho0)))
  refine bodyPost_ret (results_list (rs := [.tmp 2, .tmp 3, .tmp 4, .tmp 5]) rfl (by simp) (.tmp (.tmp (.tmp (.tmp .nil))))) rfl ?_
  exact ⟨_, _, by first | rfl | (simp [errW_none, errW_some] <;> rfl) | (simp [*, errW_none, errW_some] <;> rfl), by (with_reducible repeat (first | apply Kd.R_alloc | apply Kd.R_drewN | apply Kd.R_drew)); exact Kd.R_mono HO242.out (fun _ hk => hk.2), by (with_reducible repeat (first | apply Kd.R_alloc | apply Kd.R_drewN | apply Kd.R_drew)); exact Kd.R_mono HO277.out (fun _ hk => hk.1.1.1.2), by repeat (first | (with_reducible first | exact HB.out | apply below_alloc | apply pw_below_drewN | apply below_drew1 | refine below_set ?_ (IsS140.ge HI238.out)) | exact HB.out)⟩
 subst c6
 have H1 : (if t256 = true then ((spec_l1Cur_one.f l0 t249 t250 5).bind fun bt259 => (if bt259.1 = true then ((spec_l1Cur_rain.f k l0 bt259.2.1 bt259.2.2).bind fun bt262 => (some (t239, t248, t240, bt262.2.1))) else (some (t239, t248, t251, t255)))) else ((spec_l1Cur_rain.f k l0 t249 t250).bind fun bt268 => (some (t239, t248, t240, bt268.2.1)))) = some (r1, r2, r3, r4) := by rw [if_pos rfl] at H; exact H
 clear H
 have H := H1
 clear H1
 by_cases c7 : t256 = true
 rotate_left
 ·replace c7 := Bool.eq_false_iff.mpr c7
  subst c7
  have H1 : ((spec_l1Cur_rain.f k l0 t249 t250).bind fun bt268 => (some (t239, t248, t240, bt268.2.1))) = some (r1, r2, r3, r4) := by rw [if_neg (show ¬ (false = true) by decide)] at H; exact H
  clear H
  have H := H1
  clear H1
  replace H := Option.bind_eq_some_iff.mp H
  obtain ⟨⟨t268, t269, t272, t273⟩, A320, H⟩ := H
  replace H : (some (t239, t248, t240, t269)) = some (r1, r2, r3, r4) := H
  have A32 := Aside0.mk A320
  clear A320
  simp only [Option.some.injEq, Prod.mk.injEq] at H
  obtain ⟨rfl, rfl, rfl, rfl⟩ := H
  go_enter Try.func68, Try.ntmps68
  go_wp2_with (first | ((with_reducible refine gate_dst (N := 18) rfl ?_); refine bx 18 #[.slice A0 l0.length c0, .int .i64 0, .int .u64 0] 140 ?_; intro gb238 hg w33 hbox hb; have HI238 := Aside0.mk ((⟨_, _, hbox, (by rw [hg]; exact (below_size (bw HB)) : w.heap.size ≤ gb238), HR0.out⟩ : IsS140 w _ gb238 l0 0 0)); replace HB := bs HB hb; clear hb hbox hg) | ((with_reducible refine gate_callee (f := 162) rfl ?_); refine gl 21 Try.func162 #[.pointer (some ⟨gb238, 0, none⟩)] ?_; (with_reducible refine (spec_l1Cur_rain.calls k gb238 l0 0 0 t239 t240 t243 t244 w _ ?side1 ?side2 A2.out).mono ?_); (case side1 => repeat (first | (with_reducible first | exact HI238.out | apply IsS140.alloc | apply IsS140.drewN | apply IsS140.drew | apply IsS140.set_1 | apply IsS140.set_2) | exact HI238.out)); (case side2 => repeat (first | (with_reducible first | exact HB.out | apply below_alloc | apply pw_below_drewN | apply below_drew1 | refine below_set ?_ (IsS140.ge HI238.out)) | exact HB.out)); rintro e w34 ⟨v241, rfl, ho0, hi, hb, hk⟩; refine ⟨_, rfl, ?_⟩; have HO242 := Aside0.mk (Kd.R_lower ho0 (below_size (by repeat (first | (with_reducible first | exact HB.out | apply below_alloc | apply pw_below_drewN | apply below_drew1 | refine below_set ?_ (IsS140.ge HI238.out)) | exact HB.out)))); replace HB := Aside0.mk (hb); replace HI238 := Aside0.mk (hi); (try clear hb); (try clear hk); (try clear hi); (try clear ho0)) | ((with_reducible refine gate_dst (N := 25) rfl ?_); refine Kd.R_lit (Kd.int .i64) _ 3 ?hg (N := 25) ?hd (xs := ([1, 3, 5, 7, 12, 60, 61, 0] : List Int)) (inner := [.int .i64 1, .int .i64 3, .int .i64 5, .int .i64 7, .int .i64 12, .int .i64 60, .int .i64 61, .int .i64 0]) (ok := fun _ => True) (okp := fun _ => True) ?hr ?hp (fun _ hk => hk) trivial (Below.refl _ _) (Nat.le_refl _) (by simp) ?_; (case hd => rfl); (case hg => rfl); (case hr => first | (go_simp; done) | (go_simp; rfl)); (case hp => exact (Reps.one (show Kd.M (Kd.int .i64) _ _ _ 1 [.int .i64 1] from rfl) (Reps.one (show Kd.M (Kd.int .i64) _ _ _ 3 [.int .i64 3] from rfl) (Reps.one (show Kd.M (Kd.int .i64) _ _ _ 5 [.int .i64 5] from rfl) (Reps.one (show Kd.M (Kd.int .i64) _ _ _ 7 [.int .i64 7] from rfl) (Reps.one (show Kd.M (Kd.int .i64) _ _ _ 12 [.int .i64 12] from rfl) (Reps.one (show Kd.M (Kd.int .i64) _ _ _ 60 [.int .i64 60] from rfl) (Reps.one (show Kd.M (Kd.int .i64) _ _ _ 61 [.int .i64 61] from rfl) (Reps.one (show Kd.M (Kd.int .i64) _ _ _ 0 [.int .i64 0] from rfl) (Reps.none _ _)))))))))); intro v246 w35 ho36 hb hg_ hnew_; clear hg_ hnew_; (first | rw [← Ny245.out] at ho36 | (simp only [Int.reduceToNat] at ho36; rw [← Ny245.out] at ho36)); have HO247 := Aside0.mk (Kd.R_lower (Kd.R_new' ho36 (Kd.R_lt (rk HO242))) (below_size (by repeat (first | (with_reducible first | exact HB.out | apply below_alloc | apply pw_below_drewN | apply below_drew1 | refine below_set ?_ (IsS140.ge HI238.out)) | exact HB.out)))); replace HO242 := Aside0.mk (Kd.R_elder' (rk HO242) (Kd.R_base ho36) hb); replace HB := Aside0.mk (below_step (by repeat (first | (with_reducible first | exact HB.out | apply below_alloc | apply pw_below_drewN | apply below_drew1 | refine below_set ?_ (IsS140.ge HI238.out)) | exact HB.out)) hb); replace HI238 := Aside0.mk (IsS140.below (by repeat (first | (with_reducible first | exact HI238.out | apply IsS140.alloc | apply IsS140.drewN | apply IsS140.drew | apply IsS140.set_1 | apply IsS140.set_2) | exact HI238.out)) hb); clear hb ho36; obtain ⟨Ao37, co37, eo37⟩ := Kd.R_slice HO247.out; subst eo37) | ((with_reducible refine gate_callee (f := 145) rfl ?_); refine gl 26 Try.func145 #[.pointer (some ⟨gb238, 0, none⟩), .slice Ao37 y245.length co37] ?_; (with_reducible refine (spec_l1Cur_among.calls gb238 l0 t243 t244 _ _ y245 t248 t249 t250 w _ ?side1 ?side2 ?side3 ?side4 ?side5 A3.out).mono ?_); (case side1 => repeat (first | (with_reducible first | exact HI238.out | apply IsS140.alloc | apply IsS140.drewN | apply IsS140.drew | apply IsS140.set_1 | apply IsS140.set_2) | exact HI238.out)); (case side2 => repeat (first | (with_reducible first | exact HB.out | apply below_alloc | apply pw_below_drewN | apply below_drew1 | refine below_set ?_ (IsS140.ge HI238.out)) | exact HB.out)); (case side3 => exact cr HO247); (case side4 => exact (Kd.R_reads' HO247.out).2.1); (case side5 => exact far_slice (IsS140.own_ne HI238.out HO247.out (by decide))); rintro e w38 ⟨rfl, hi, hb, hk⟩; refine ⟨_, rfl, ?_⟩; replace HO242 := Aside0.mk (Kd.R_mono (Kd.R_keep (IsS140.apart (show IsS140 w _ gb238 l0 t243 t244 from by repeat (first | (with_reducible first | exact HI238.out | apply IsS140.alloc | apply IsS140.drewN | apply IsS140.drew | apply IsS140.set_1 | apply IsS140.set_2) | exact HI238.out)) (rk HO242) (by decide)) hk (fun _ h => h.2)) (fun _ h => h.1)); replace HO247 := Aside0.mk (Kd.R_mono (Kd.R_keep (IsS140.apart (show IsS140 w _ gb238 l0 t243 t244 from by repeat (first | (with_reducible first | exact HI238.out | apply IsS140.alloc | apply IsS140.drewN | apply IsS140.drew | apply IsS140.set_1 | apply IsS140.set_2) | exact HI238.out)) (rk HO247) (by decide)) hk (fun _ h => h.2)) (fun _ h => h.1)); replace HB := Aside0.mk (hb); replace HI238 := Aside0.mk (hi); (try clear hb); (try clear hk); (try clear hi); obtain ⟨Ao39, co39, eo39⟩ := Kd.R_slice HO242.out; subst eo39) | ((with_reducible refine gate_callee (f := 56) rfl ?_); refine gl 30 Try.func56 #[.int .i64 t239, .slice Ao39 t240.length co39] ?_; (with_reducible refine (spec_TipsOfRain.calls k t239 _ _ t240 t251 true _ ?side1 ?side2 A4.out).mono ?_); (case side1 => exact cr HO242); (case side2 => exact (Kd.R_reads' HO242.out).2.1); rintro e w40 ⟨v253, rfl, ho0, hb⟩; refine ⟨_, rfl, ?_⟩; have HO254 := Aside0.mk (Kd.R_lower (Kd.R_new' (Kd.R_new' ho0 (Kd.R_lt (rk HO242))) (Kd.R_lt (rk HO247))) (below_size (by repeat (first | (with_reducible first | exact HB.out | apply below_alloc | apply pw_below_drewN | apply below_drew1 | refine below_set ?_ (IsS140.ge HI238.out)) | exact HB.out)))); replace HO242 := Aside0.mk (Kd.R_elder' (rk HO242) (Kd.R_base ho0) hb); replace HO247 := Aside0.mk (Kd.R_elder' (rk HO247) (Kd.R_base ho0) hb); replace HB := Aside0.mk (below_step (by repeat (first | (with_reducible first | exact HB.out | apply below_alloc | apply pw_below_drewN | apply below_drew1 | refine below_set ?_ (IsS140.ge HI238.out)) | exact HB.out)) hb); replace HI238 := Aside0.mk (IsS140.below (by repeat (first | (with_reducible first | exact HI238.out | apply IsS140.alloc | apply IsS140.drewN | apply IsS140.drew | apply IsS140.set_1 | apply IsS140.set_2) | exact HI238.out)) hb); (try clear hb); (try clear ho0)) | ((with_reducible refine gate_callee (f := 56) rfl ?_); refine gl 36 Try.func56 #[.int .i64 t248, .slice Ao39 t240.length co39] ?_; (with_reducible refine (spec_TipsOfRain.calls k t248 _ _ t240 t255 false _ ?side1 ?side2 A5.out).mono ?_); (case side1 => exact cr HO242); (case side2 => exact (Kd.R_reads' HO242.out).2.1); rintro e w41 ⟨v257, rfl, ho0, hb⟩; refine ⟨_, rfl, ?_⟩; have HO258 := Aside0.mk (Kd.R_lower (Kd.R_new' (Kd.R_new' (Kd.R_new' ho0 (Kd.R_lt (rk HO242))) (Kd.R_lt (rk HO247))) (Kd.R_lt (rk HO254))) (below_size (by repeat (first | (with_reducible first | exact HB.out | apply below_alloc | apply pw_below_drewN | apply below_drew1 | refine below_set ?_ (IsS140.ge HI238.out)) | exact HB.out)))); replace HO242 := Aside0.mk (Kd.R_elder' (rk HO242) (Kd.R_base ho0) hb); replace HO247 := Aside0.mk (Kd.R_elder' (rk HO247) (Kd.R_base ho0) hb); replace HO254 := Aside0.mk (Kd.R_elder' (rk HO254) (Kd.R_base ho0) hb); replace HB := Aside0.mk (below_step (by repeat (first | (with_reducible first | exact HB.out | apply below_alloc | apply pw_below_drewN | apply below_drew1 | refine below_set ?_ (IsS140.ge HI238.out)) | exact HB.out)) hb); replace HI238 := Aside0.mk (IsS140.below (by repeat (first | (with_reducible first | exact HI238.out | apply IsS140.alloc | apply IsS140.drewN | apply IsS140.drew | apply IsS140.set_1 | apply IsS140.set_2) | exact HI238.out)) hb); (try clear hb); (try clear ho0)) | ((with_reducible refine gate_callee (f := 162) rfl ?_); refine gl 51 Try.func162 #[.pointer (some ⟨gb238, 0, none⟩)] ?_; (with_reducible refine (spec_l1Cur_rain.calls k gb238 l0 t249 t250 t268 t269 t272 t273 w _ ?side1 ?side2 A32.out).mono ?_); (case side1 => repeat (first | (with_reducible first | exact HI238.out | apply IsS140.alloc | apply IsS140.drewN | apply IsS140.drew | apply IsS140.set_1 | apply IsS140.set_2) | exact HI238.out)); (case side2 => repeat (first | (with_reducible first | exact HB.out | apply below_alloc | apply pw_below_drewN | apply below_drew1 | refine below_set ?_ (IsS140.ge HI238.out)) | exact HB.out)); rintro e w42 ⟨v270, rfl, ho0, hi, hb, hk⟩; refine ⟨_, rfl, ?_⟩; have HO271 := Aside0.mk (Kd.R_lower (Kd.R_new' (Kd.R_new' (Kd.R_new' (Kd.R_new' ho0 (Kd.R_lt (rk HO242))) (Kd.R_lt (rk HO247))) (Kd.R_lt (rk HO254))) (Kd.R_lt (rk HO258))) (below_size (by repeat (first | (with_reducible first | exact HB.out | apply below_alloc | apply pw_below_drewN | apply below_drew1 | refine below_set ?_ (IsS140.ge HI238.out)) | exact HB.out)))); replace HO242 := Aside0.mk (Kd.R_mono (Kd.R_told (Kd.R_oldK (IsS140.apart (show IsS140 w _ gb238 l0 t249 t250 from by repeat (first | (with_reducible first | exact HI238.out | apply IsS140.alloc | apply IsS140.drewN | apply IsS140.drew | apply IsS140.set_1 | apply IsS140.set_2) | exact HI238.out)) (rk HO242) (by decide)) hk) (Kd.R_base ho0)) (fun _ h_ => h_.1)); replace HO247 := Aside0.mk (Kd.R_mono (Kd.R_told (Kd.R_oldK (IsS140.apart (show IsS140 w _ gb238 l0 t249 t250 from by repeat (first | (with_reducible first | exact HI238.out | apply IsS140.alloc | apply IsS140.drewN | apply IsS140.drew | apply IsS140.set_1 | apply IsS140.set_2) | exact HI238.out)) (rk HO247) (by decide)) hk) (Kd.R_base ho0)) (fun _ h_ => h_.1)); replace HO254 := Aside0.mk (Kd.R_mono (Kd.R_told (Kd.R_oldK (IsS140.apart (show IsS140 w _ gb238 l0 t249 t250 from by repeat (first | (with_reducible first | exact HI238.out | apply IsS140.alloc | apply IsS140.drewN | apply IsS140.drew | apply IsS140.set_1 | apply IsS140.set_2) | exact HI238.out)) (rk HO254) (by decide)) hk) (Kd.R_base ho0)) (fun _ h_ => h_.1)); replace HO258 := Aside0.mk (Kd.R_mono (Kd.R_told (Kd.R_oldK (IsS140.apart (show IsS140 w _ gb238 l0 t249 t250 from by repeat (first | (with_reducible first | exact HI238.out | apply IsS140.alloc | apply IsS140.drewN | apply IsS140.drew | apply IsS140.set_1 | apply IsS140.set_2) | exact HI238.out)) (rk HO258) (by decide)) hk) (Kd.R_base ho0)) (fun _ h_ => h_.1)); replace HB := Aside0.mk (hb); replace HI238 := Aside0.mk (hi); (try clear hb); (try clear hk); (try clear hi); (try clear ho0)))
  refine bodyPost_ret (results_list (rs := [.tmp 2, .tmp 3, .tmp 4, .tmp 5]) rfl (by simp) (.tmp (.tmp (.tmp (.tmp .nil))))) rfl ?_
  exact ⟨_, _, by first | rfl | (simp [errW_none, errW_some] <;> rfl) | (simp [*, errW_none, errW_some] <;> rfl), by (with_reducible repeat (first | apply Kd.R_alloc | apply Kd.R_drewN | apply Kd.R_drew)); exact Kd.R_mono HO242.out (fun _ hk => hk.2), by (with_reducible repeat (first | apply Kd.R_alloc | apply Kd.R_drewN | apply Kd.R_drew)); exact Kd.R_mono HO271.out (fun _ hk => hk.1.1.1.2), by repeat (first | (with_reducible first | exact HB.out | apply below_alloc | apply pw_below_drewN | apply below_drew1 | refine below_set ?_ (IsS140.ge HI238.out)) | exact HB.out)⟩
 subst c7
 have H1 : ((spec_l1Cur_one.f l0 t249 t250 5).bind fun bt259 => (if bt259.1 = true then ((spec_l1Cur_rain.f k l0 bt259.2.1 bt259.2.2).bind fun bt262 => (some (t239, t248, t240, bt262.2.1))) else (some (t239, t248, t251, t255)))) = some (r1, r2, r3, r4) := by rw [if_pos rfl] at H; exact H
 clear H
 have H := H1
 clear H1
 replace H := Option.bind_eq_some_iff.mp H
 obtain ⟨⟨t259, t260, t261⟩, A80, H⟩ := H
 replace H : (if t259 = true then ((spec_l1Cur_rain.f k l0 t260 t261).bind fun bt262 => (some (t239, t248, t240, bt262.2.1))) else (some (t239, t248, t251, t255))) = some (r1, r2, r3, r4) := H
 have A8 := Aside0.mk A80
 clear A80
 by_cases c9 : t259 = true
 rotate_left
 ·replace c9 := Bool.eq_false_iff.mpr c9
  subst c9
  have H1 : (some (t239, t248, t251, t255)) = some (r1, r2, r3, r4) := by rw [if_neg (show ¬ (false = true) by decide)] at H; exact H
  clear H
  have H := H1
  clear H1
  simp only [Option.some.injEq, Prod.mk.injEq] at H
  obtain ⟨rfl, rfl, rfl, rfl⟩ := H
  go_enter Try.func68, Try.ntmps68
  go_wp2_with (first | ((with_reducible refine gate_dst (N := 18) rfl ?_); refine bx 18 #[.slice A0 l0.length c0, .int .i64 0, .int .u64 0] 140 ?_; intro gb238 hg w22 hbox hb; have HI238 := Aside0.mk ((⟨_, _, hbox, (by rw [hg]; exact (below_size (bw HB)) : w.heap.size ≤ gb238), HR0.out⟩ : IsS140 w _ gb238 l0 0 0)); replace HB := bs HB hb; clear hb hbox hg) | ((with_reducible refine gate_callee (f := 162) rfl ?_); refine gl 21 Try.func162 #[.pointer (some ⟨gb238, 0, none⟩)] ?_; (with_reducible refine (spec_l1Cur_rain.calls k gb238 l0 0 0 t239 t240 t243 t244 w _ ?side1 ?side2 A2.out).mono ?_); (case side1 => repeat (first | (with_reducible first | exact HI238.out | apply IsS140.alloc | apply IsS140.drewN | apply IsS140.drew | apply IsS140.set_1 | apply IsS140.set_2) | exact HI238.out)); (case side2 => repeat (first | (with_reducible first | exact HB.out | apply below_alloc | apply pw_below_drewN | apply below_drew1 | refine below_set ?_ (IsS140.ge HI238.out)) | exact HB.out)); rintro e w23 ⟨v241, rfl, ho0, hi, hb, hk⟩; refine ⟨_, rfl, ?_⟩; have HO242 := Aside0.mk (Kd.R_lower ho0 (below_size (by repeat (first | (with_reducible first | exact HB.out | apply below_alloc | apply pw_below_drewN | apply below_drew1 | refine below_set ?_ (IsS140.ge HI238.out)) | exact HB.out)))); replace HB := Aside0.mk (hb); replace HI238 := Aside0.mk (hi); (try clear hb); (try clear hk); (try clear hi); (try clear ho0)) | ((with_reducible refine gate_dst (N := 25) rfl ?_); refine Kd.R_lit (Kd.int .i64) _ 3 ?hg (N := 25) ?hd (xs := ([1, 3, 5, 7, 12, 60, 61, 0] : List Int)) (inner := [.int .i64 1, .int .i64 3, .int .i64 5, .int .i64 7, .int .i64 12, .int .i64 60, .int .i64 61, .int .i64 0]) (ok := fun _ => True) (okp := fun _ => True) ?hr ?hp (fun _ hk => hk) trivial (Below.refl _ _) (Nat.le_refl _) (by simp) ?_; (case hd => rfl); (case hg => rfl); (case hr => first | (go_simp; done) | (go_simp; rfl)); (case hp => exact (Reps.one (show Kd.M (Kd.int .i64) _ _ _ 1 [.int .i64 1] from rfl) (Reps.one (show Kd.M (Kd.int .i64) _ _ _ 3 [.int .i64 3] from rfl) (Reps.one (show Kd.M (Kd.int .i64) _ _ _ 5 [.int .i64 5] from rfl) (Reps.one (show Kd.M (Kd.int .i64) _ _ _ 7 [.int .i64 7] from rfl) (Reps.one (show Kd.M (Kd.int .i64) _ _ _ 12 [.int .i64 12] from rfl) (Reps.one (show Kd.M (Kd.int .i64) _ _ _ 60 [.int .i64 60] from rfl) (Reps.one (show Kd.M (Kd.int .i64) _ _ _ 61 [.int .i64 61] from rfl) (Reps.one (show Kd.M (Kd.int .i64) _ _ _ 0 [.int .i64 0] from rfl) (Reps.none _ _)))))))))); intro v246 w24 ho25 hb hg_ hnew_; clear hg_ hnew_; (first | rw [← Ny245.out] at ho25 | (simp only [Int.reduceToNat] at ho25; rw [← Ny245.out] at ho25)); have HO247 := Aside0.mk (Kd.R_lower (Kd.R_new' ho25 (Kd.R_lt (rk HO242))) (below_size (by repeat (first | (with_reducible first | exact HB.out | apply below_alloc | apply pw_below_drewN | apply below_drew1 | refine below_set ?_ (IsS140.ge HI238.out)) | exact HB.out)))); replace HO242 := Aside0.mk (Kd.R_elder' (rk HO242) (Kd.R_base ho25) hb); replace HB := Aside0.mk (below_step (by repeat (first | (with_reducible first | exact HB.out | apply below_alloc | apply pw_below_drewN | apply below_drew1 | refine below_set ?_ (IsS140.ge HI238.out)) | exact HB.out)) hb); replace HI238 := Aside0.mk (IsS140.below (by repeat (first | (with_reducible first | exact HI238.out | apply IsS140.alloc | apply IsS140.drewN | apply IsS140.drew | apply IsS140.set_1 | apply IsS140.set_2) | exact HI238.out)) hb); clear hb ho25; obtain ⟨Ao26, co26, eo26⟩ := Kd.R_slice HO247.out; subst eo26) | ((with_reducible refine gate_callee (f := 145) rfl ?_); refine gl 26 Try.func145 #[.pointer (some ⟨gb238, 0, none⟩), .slice Ao26 y245.length co26] ?_; (with_reducible refine (spec_l1Cur_among.calls gb238 l0 t243 t244 _ _ y245 t248 t249 t250 w _ ?side1 ?side2 ?side3 ?side4 ?side5 A3.out).mono ?_); (case side1 => repeat (first | (with_reducible first | exact HI238.out | apply IsS140.alloc | apply IsS140.drewN | apply IsS140.drew | apply IsS140.set_1 | apply IsS140.set_2) | exact HI238.out)); (case side2 => repeat (first | (with_reducible first | exact HB.out | apply below_alloc | apply pw_below_drewN | apply below_drew1 | refine below_set ?_ (IsS140.ge HI238.out)) | exact HB.out)); (case side3 => exact cr HO247); (case side4 => exact (Kd.R_reads' HO247.out).2.1); (case side5 => exact far_slice (IsS140.own_ne HI238.out HO247.out (by decide))); rintro e w27 ⟨rfl, hi, hb, hk⟩; refine ⟨_, rfl, ?_⟩; replace HO242 := Aside0.mk (Kd.R_mono (Kd.R_keep (IsS140.apart (show IsS140 w _ gb238 l0 t243 t244 from by repeat (first | (with_reducible first | exact HI238.out | apply IsS140.alloc | apply IsS140.drewN | apply IsS140.drew | apply IsS140.set_1 | apply IsS140.set_2) | exact HI238.out)) (rk HO242) (by decide)) hk (fun _ h => h.2)) (fun _ h => h.1)); replace HO247 := Aside0.mk (Kd.R_mono (Kd.R_keep (IsS140.apart (show IsS140 w _ gb238 l0 t243 t244 from by repeat (first | (with_reducible first | exact HI238.out | apply IsS140.alloc | apply IsS140.drewN | apply IsS140.drew | apply IsS140.set_1 | apply IsS140.set_2) | exact HI238.out)) (rk HO247) (by decide)) hk (fun _ h => h.2)) (fun _ h => h.1)); replace HB := Aside0.mk (hb); replace HI238 := Aside0.mk (hi); (try clear hb); (try clear hk); (try clear hi); obtain ⟨Ao28, co28, eo28⟩ := Kd.R_slice HO242.out; subst eo28) | ((with_reducible refine gate_callee (f := 56) rfl ?_); refine gl 30 Try.func56 #[.int .i64 t239, .slice Ao28 t240.length co28] ?_; (with_reducible refine (spec_TipsOfRain.calls k t239 _ _ t240 t251 true _ ?side1 ?side2 A4.out).mono ?_); (case side1 => exact cr HO242); (case side2 => exact (Kd.R_reads' HO242.out).2.1); rintro e w29 ⟨v253, rfl, ho0, hb⟩; refine ⟨_, rfl, ?_⟩; have HO254 := Aside0.mk (Kd.R_lower (Kd.R_new' (Kd.R_new' ho0 (Kd.R_lt (rk HO242))) (Kd.R_lt (rk HO247))) (below_size (by repeat (first | (with_reducible first | exact HB.out | apply below_alloc | apply pw_below_drewN | apply below_drew1 | refine below_set ?_ (IsS140.ge HI238.out)) | exact HB.out)))); replace HO242 := Aside0.mk (Kd.R_elder' (rk HO242) (Kd.R_base ho0) hb); replace HO247 := Aside0.mk (Kd.R_elder' (rk HO247) (Kd.R_base ho0) hb); replace HB := Aside0.mk (below_step (by repeat (first | (with_reducible first | exact HB.out | apply below_alloc | apply pw_below_drewN | apply below_drew1 | refine below_set ?_ (IsS140.ge HI238.out)) | exact HB.out)) hb); replace HI238 := Aside0.mk (IsS140.below (by repeat (first | (with_reducible first | exact HI238.out | apply IsS140.alloc | apply IsS140.drewN | apply IsS140.drew | apply IsS140.set_1 | apply IsS140.set_2) | exact HI238.out)) hb); (try clear hb); (try clear ho0)) | ((with_reducible refine gate_callee (f := 56) rfl ?_); refine gl 36 Try.func56 #[.int .i64 t248, .slice Ao28 t240.length co28] ?_; (with_reducible refine (spec_TipsOfRain.calls k t248 _ _ t240 t255 true _ ?side1 ?side2 A5.out).mono ?_); (case side1 => exact cr HO242); (case side2 => exact (Kd.R_reads' HO242.out).2.1); rintro e w30 ⟨v257, rfl, ho0, hb⟩; refine ⟨_, rfl, ?_⟩; have HO258 := Aside0.mk (Kd.R_lower (Kd.R_new' (Kd.R_new' (Kd.R_new' ho0 (Kd.R_lt (rk HO242))) (Kd.R_lt (rk HO247))) (Kd.R_lt (rk HO254))) (below_size (by repeat (first | (with_reducible first | exact HB.out | apply below_alloc | apply pw_below_drewN | apply below_drew1 | refine below_set ?_ (IsS140.ge HI238.out)) | exact HB.out)))); replace HO242 := Aside0.mk (Kd.R_elder' (rk HO242) (Kd.R_base ho0) hb); replace HO247 := Aside0.mk (Kd.R_elder' (rk HO247) (Kd.R_base ho0) hb); replace HO254 := Aside0.mk (Kd.R_elder' (rk HO254) (Kd.R_base ho0) hb); replace HB := Aside0.mk (below_step (by repeat (first | (with_reducible first | exact HB.out | apply below_alloc | apply pw_below_drewN | apply below_drew1 | refine below_set ?_ (IsS140.ge HI238.out)) | exact HB.out)) hb); replace HI238 := Aside0.mk (IsS140.below (by repeat (first | (with_reducible first | exact HI238.out | apply IsS140.alloc | apply IsS140.drewN | apply IsS140.drew | apply IsS140.set_1 | apply IsS140.set_2) | exact HI238.out)) hb); (try clear hb); (try clear ho0)) | (go_at_call 172; (with_reducible refine (spec_l1Cur_one.calls gb238 l0 t249 t250 5 false t260 t261 w _ ?side1 ?side2 A8.out).mono ?_); (case side1 => repeat (first | (with_reducible first | exact HI238.out | apply IsS140.alloc | apply IsS140.drewN | apply IsS140.drew | apply IsS140.set_1 | apply IsS140.set_2) | exact HI238.out)); (case side2 => repeat (first | (with_reducible first | exact HB.out | apply below_alloc | apply pw_below_drewN | apply below_drew1 | refine below_set ?_ (IsS140.ge HI238.out)) | exact HB.out)); rintro e w31 ⟨rfl, hi, hb, hk⟩; replace HO242 := Aside0.mk (Kd.R_mono (Kd.R_keep (IsS140.apart (show IsS140 w _ gb238 l0 t249 t250 from by repeat (first | (with_reducible first | exact HI238.out | apply IsS140.alloc | apply IsS140.drewN | apply IsS140.drew | apply IsS140.set_1 | apply IsS140.set_2) | exact HI238.out)) (rk HO242) (by decide)) hk (fun _ h => h.2)) (fun _ h => h.1)); replace HO247 := Aside0.mk (Kd.R_mono (Kd.R_keep (IsS140.apart (show IsS140 w _ gb238 l0 t249 t250 from by repeat (first | (with_reducible first | exact HI238.out | apply IsS140.alloc | apply IsS140.drewN | apply IsS140.drew | apply IsS140.set_1 | apply IsS140.set_2) | exact HI238.out)) (rk HO247) (by decide)) hk (fun _ h => h.2)) (fun _ h => h.1)); replace HO254 := Aside0.mk (Kd.R_mono (Kd.R_keep (IsS140.apart (show IsS140 w _ gb238 l0 t249 t250 from by repeat (first | (with_reducible first | exact HI238.out | apply IsS140.alloc | apply IsS140.drewN | apply IsS140.drew | apply IsS140.set_1 | apply IsS140.set_2) | exact HI238.out)) (rk HO254) (by decide)) hk (fun _ h => h.2)) (fun _ h => h.1)); replace HO258 := Aside0.mk (Kd.R_mono (Kd.R_keep (IsS140.apart (show IsS140 w _ gb238 l0 t249 t250 from by repeat (first | (with_reducible first | exact HI238.out | apply IsS140.alloc | apply IsS140.drewN | apply IsS140.drew | apply IsS140.set_1 | apply IsS140.set_2) | exact HI238.out)) (rk HO258) (by decide)) hk (fun _ h => h.2)) (fun _ h => h.1)); replace HB := Aside0.mk (hb); replace HI238 := Aside0.mk (hi); (try clear hb); (try clear hk); (try clear hi)))
  refine bodyPost_ret (results_list (rs := [.tmp 2, .tmp 3, .tmp 4, .tmp 5]) rfl (by simp) (.tmp (.tmp (.tmp (.tmp .nil))))) rfl ?_
  exact ⟨_, _, by first | rfl | (simp [errW_none, errW_some] <;> rfl) | (simp [*, errW_none, errW_some] <;> rfl), by (with_reducible repeat (first | apply Kd.R_alloc | apply Kd.R_drewN | apply Kd.R_drew)); exact Kd.R_mono HO254.out (fun _ hk => hk.2), by (with_reducible repeat (first | apply Kd.R_alloc | apply Kd.R_drewN | apply Kd.R_drew)); exact Kd.R_mono HO258.out (fun _ hk => hk.2), by repeat (first | (with_reducible first | exact HB.out | apply below_alloc | apply pw_below_drewN | apply below_drew1 | refine below_set ?_ (IsS140.ge HI238.out)) | exact HB.out)⟩
 subst c9
 have H1 : ((spec_l1Cur_rain.f k l0 t260 t261).bind fun bt262 => (some (t239, t248, t240, bt262.2.1))) = some (r1, r2, r3, r4) := by rw [if_pos rfl] at H; exact H
 clear H
 have H := H1
 clear H1
 replace H := Option.bind_eq_some_iff.mp H
 obtain ⟨⟨t262, t263, t266, t267⟩, A100, H⟩ := H
 replace H : (some (t239, t248, t240, t263)) = some (r1, r2, r3, r4) := H
 have A10 := Aside0.mk A100
 clear A100
 simp only [Option.some.injEq, Prod.mk.injEq] at H
 obtain ⟨rfl, rfl, rfl, rfl⟩ := H
 go_enter Try.func68, Try.ntmps68
 go_wp2_with (first | ((with_reducible refine gate_dst (N := 18) rfl ?_); refine bx 18 #[.slice A0 l0.length c0, .int .i64 0, .int .u64 0] 140 ?_; intro gb238 hg w11 hbox hb; have HI238 := Aside0.mk ((⟨_, _, hbox, (by rw [hg]; exact (below_size (bw HB)) : w.heap.size ≤ gb238), HR0.out⟩ : IsS140 w _ gb238 l0 0 0)); replace HB := bs HB hb; clear hb hbox hg) | ((with_reducible refine gate_callee (f := 162) rfl ?_); refine gl 21 Try.func162 #[.pointer (some ⟨gb238, 0, none⟩)] ?_; (with_reducible refine (spec_l1Cur_rain.calls k gb238 l0 0 0 t239 t240 t243 t244 w _ ?side1 ?side2 A2.out).mono ?_); (case side1 => repeat (first | (with_reducible first | exact HI238.out | apply IsS140.alloc | apply IsS140.drewN | apply IsS140.drew | apply IsS140.set_1 | apply IsS140.set_2) | exact HI238.out)); (case side2 => repeat (first | (with_reducible first | exact HB.out | apply below_alloc | apply pw_below_drewN | apply below_drew1 | refine below_set ?_ (IsS140.ge HI238.out)) | exact HB.out)); rintro e w12 ⟨v241, rfl, ho0, hi, hb, hk⟩; refine ⟨_, rfl, ?_⟩; have HO242 := Aside0.mk (Kd.R_lower ho0 (below_size (by repeat (first | (with_reducible first | exact HB.out | apply below_alloc | apply pw_below_drewN | apply below_drew1 | refine below_set ?_ (IsS140.ge HI238.out)) | exact HB.out)))); replace HB := Aside0.mk (hb); replace HI238 := Aside0.mk (hi); (try clear hb); (try clear hk); (try clear hi); (try clear ho0)) | ((with_reducible refine gate_dst (N := 25) rfl ?_); refine Kd.R_lit (Kd.int .i64) _ 3 ?hg (N := 25) ?hd (xs := ([1, 3, 5, 7, 12, 60, 61, 0] : List Int)) (inner := [.int .i64 1, .int .i64 3, .int .i64 5, .int .i64 7, .int .i64 12, .int .i64 60, .int .i64 61, .int .i64 0]) (ok := fun _ => True) (okp := fun _ => True) ?hr ?hp (fun _ hk => hk) trivial (Below.refl _ _) (Nat.le_refl _) (by simp) ?_; (case hd => rfl); (case hg => rfl); (case hr => first | (go_simp; done) | (go_simp; rfl)); (case hp => exact (Reps.one (show Kd.M (Kd.int .i64) _ _ _ 1 [.int .i64 1] from rfl) (Reps.one (show Kd.M (Kd.int .i64) _ _ _ 3 [.int .i64 3] from rfl) (Reps.one (show Kd.M (Kd.int .i64) _ _ _ 5 [.int .i64 5] from rfl) (Reps.one (show Kd.M (Kd.int .i64) _ _ _ 7 [.int .i64 7] from rfl) (Reps.one (show Kd.M (Kd.int .i64) _ _ _ 12 [.int .i64 12] from rfl) (Reps.one (show Kd.M (Kd.int .i64) _ _ _ 60 [.int .i64 60] from rfl) (Reps.one (show Kd.M (Kd.int .i64) _ _ _ 61 [.int .i64 61] from rfl) (Reps.one (show Kd.M (Kd.int .i64) _ _ _ 0 [.int .i64 0] from rfl) (Reps.none _ _)))))))))); intro v246 w13 ho14 hb hg_ hnew_; clear hg_ hnew_; (first | rw [← Ny245.out] at ho14 | (simp only [Int.reduceToNat] at ho14; rw [← Ny245.out] at ho14)); have HO247 := Aside0.mk (Kd.R_lower (Kd.R_new' ho14 (Kd.R_lt (rk HO242))) (below_size (by repeat (first | (with_reducible first | exact HB.out | apply below_alloc | apply pw_below_drewN | apply below_drew1 | refine below_set ?_ (IsS140.ge HI238.out)) | exact HB.out)))); replace HO242 := Aside0.mk (Kd.R_elder' (rk HO242) (Kd.R_base ho14) hb); replace HB := Aside0.mk (below_step (by repeat (first | (with_reducible first | exact HB.out | apply below_alloc | apply pw_below_drewN | apply below_drew1 | refine below_set ?_ (IsS140.ge HI238.out)) | exact HB.out)) hb); replace HI238 := Aside0.mk (IsS140.below (by repeat (first | (with_reducible first | exact HI238.out | apply IsS140.alloc | apply IsS140.drewN | apply IsS140.drew | apply IsS140.set_1 | apply IsS140.set_2) | exact HI238.out)) hb); clear hb ho14; obtain ⟨Ao15, co15, eo15⟩ := Kd.R_slice HO247.out; subst eo15) | ((with_reducible refine gate_callee (f := 145) rfl ?_); refine gl 26 Try.func145 #[.pointer (some ⟨gb238, 0, none⟩), .slice Ao15 y245.length co15] ?_; (with_reducible refine (spec_l1Cur_among.calls gb238 l0 t243 t244 _ _ y245 t248 t249 t250 w _ ?side1 ?side2 ?side3 ?side4 ?side5 A3.out).mono ?_); (case side1 => repeat (first | (with_reducible first | exact HI238.out | apply IsS140.alloc | apply IsS140.drewN | apply IsS140.drew | apply IsS140.set_1 | apply IsS140.set_2) | exact HI238.out)); (case side2 => repeat (first | (with_reducible first | exact HB.out | apply below_alloc | apply pw_below_drewN | apply below_drew1 | refine below_set ?_ (IsS140.ge HI238.out)) | exact HB.out)); (case side3 => exact cr HO247); (case side4 => exact (Kd.R_reads' HO247.out).2.1); (case side5 => exact far_slice (IsS140.own_ne HI238.out HO247.out (by decide))); rintro e w16 ⟨rfl, hi, hb, hk⟩; refine ⟨_, rfl, ?_⟩; replace HO242 := Aside0.mk (Kd.R_mono (Kd.R_keep (IsS140.apart (show IsS140 w _ gb238 l0 t243 t244 from by repeat (first | (with_reducible first | exact HI238.out | apply IsS140.alloc | apply IsS140.drewN | apply IsS140.drew | apply IsS140.set_1 | apply IsS140.set_2) | exact HI238.out)) (rk HO242) (by decide)) hk (fun _ h => h.2)) (fun _ h => h.1)); replace HO247 := Aside0.mk (Kd.R_mono (Kd.R_keep (IsS140.apart (show IsS140 w _ gb238 l0 t243 t244 from by repeat (first | (with_reducible first | exact HI238.out | apply IsS140.alloc | apply IsS140.drewN | apply IsS140.drew | apply IsS140.set_1 | apply IsS140.set_2) | exact HI238.out)) (rk HO247) (by decide)) hk (fun _ h => h.2)) (fun _ h => h.1)); replace HB := Aside0.mk (hb); replace HI238 := Aside0.mk (hi); (try clear hb); (try clear hk); (try clear hi); obtain ⟨Ao17, co17, eo17⟩ := Kd.R_slice HO242.out; subst eo17) | ((with_reducible refine gate_callee (f := 56) rfl ?_); refine gl 30 Try.func56 #[.int .i64 t239, .slice Ao17 t240.length co17] ?_; (with_reducible refine (spec_TipsOfRain.calls k t239 _ _ t240 t251 true _ ?side1 ?side2 A4.out).mono ?_); (case side1 => exact cr HO242); (case side2 => exact (Kd.R_reads' HO242.out).2.1); rintro e w18 ⟨v253, rfl, ho0, hb⟩; refine ⟨_, rfl, ?_⟩; have HO254 := Aside0.mk (Kd.R_lower (Kd.R_new' (Kd.R_new' ho0 (Kd.R_lt (rk HO242))) (Kd.R_lt (rk HO247))) (below_size (by repeat (first | (with_reducible first | exact HB.out | apply below_alloc | apply pw_below_drewN | apply below_drew1 | refine below_set ?_ (IsS140.ge HI238.out)) | exact HB.out)))); replace HO242 := Aside0.mk (Kd.R_elder' (rk HO242) (Kd.R_base ho0) hb); replace HO247 := Aside0.mk (Kd.R_elder' (rk HO247) (Kd.R_base ho0) hb); replace HB := Aside0.mk (below_step (by repeat (first | (with_reducible first | exact HB.out | apply below_alloc | apply pw_below_drewN | apply below_drew1 | refine below_set ?_ (IsS140.ge HI238.out)) | exact HB.out)) hb); replace HI238 := Aside0.mk (IsS140.below (by repeat (first | (with_reducible first | exact HI238.out | apply IsS140.alloc | apply IsS140.drewN | apply IsS140.drew | apply IsS140.set_1 | apply IsS140.set_2) | exact HI238.out)) hb); (try clear hb); (try clear ho0)) | ((with_reducible refine gate_callee (f := 56) rfl ?_); refine gl 36 Try.func56 #[.int .i64 t248, .slice Ao17 t240.length co17] ?_; (with_reducible refine (spec_TipsOfRain.calls k t248 _ _ t240 t255 true _ ?side1 ?side2 A5.out).mono ?_); (case side1 => exact cr HO242); (case side2 => exact (Kd.R_reads' HO242.out).2.1); rintro e w19 ⟨v257, rfl, ho0, hb⟩; refine ⟨_, rfl, ?_⟩; have HO258 := Aside0.mk (Kd.R_lower (Kd.R_new' (Kd.R_new' (Kd.R_new' ho0 (Kd.R_lt (rk HO242))) (Kd.R_lt (rk HO247))) (Kd.R_lt (rk HO254))) (below_size (by repeat (first | (with_reducible first | exact HB.out | apply below_alloc | apply pw_below_drewN | apply below_drew1 | refine below_set ?_ (IsS140.ge HI238.out)) | exact HB.out)))); replace HO242 := Aside0.mk (Kd.R_elder' (rk HO242) (Kd.R_base ho0) hb); replace HO247 := Aside0.mk (Kd.R_elder' (rk HO247) (Kd.R_base ho0) hb); replace HO254 := Aside0.mk (Kd.R_elder' (rk HO254) (Kd.R_base ho0) hb); replace HB := Aside0.mk (below_step (by repeat (first | (with_reducible first | exact HB.out | apply below_alloc | apply pw_below_drewN | apply below_drew1 | refine below_set ?_ (IsS140.ge HI238.out)) | exact HB.out)) hb); replace HI238 := Aside0.mk (IsS140.below (by repeat (first | (with_reducible first | exact HI238.out | apply IsS140.alloc | apply IsS140.drewN | apply IsS140.drew | apply IsS140.set_1 | apply IsS140.set_2) | exact HI238.out)) hb); (try clear hb); (try clear ho0)) | (go_at_call 172; (with_reducible refine (spec_l1Cur_one.calls gb238 l0 t249 t250 5 true t260 t261 w _ ?side1 ?side2 A8.out).mono ?_); (case side1 => repeat (first | (with_reducible first | exact HI238.out | apply IsS140.alloc | apply IsS140.drewN | apply IsS140.drew | apply IsS140.set_1 | apply IsS140.set_2) | exact HI238.out)); (case side2 => repeat (first | (with_reducible first | exact HB.out | apply below_alloc | apply pw_below_drewN | apply below_drew1 | refine below_set ?_ (IsS140.ge HI238.out)) | exact HB.out)); rintro e w20 ⟨rfl, hi, hb, hk⟩; replace HO242 := Aside0.mk (Kd.R_mono (Kd.R_keep (IsS140.apart (show IsS140 w _ gb238 l0 t249 t250 from by repeat (first | (with_reducible first | exact HI238.out | apply IsS140.alloc | apply IsS140.drewN | apply IsS140.drew | apply IsS140.set_1 | apply IsS140.set_2) | exact HI238.out)) (rk HO242) (by decide)) hk (fun _ h => h.2)) (fun _ h => h.1)); replace HO247 := Aside0.mk (Kd.R_mono (Kd.R_keep (IsS140.apart (show IsS140 w _ gb238 l0 t249 t250 from by repeat (first | (with_reducible first | exact HI238.out | apply IsS140.alloc | apply IsS140.drewN | apply IsS140.drew | apply IsS140.set_1 | apply IsS140.set_2) | exact HI238.out)) (rk HO247) (by decide)) hk (fun _ h => h.2)) (fun _ h => h.1)); replace HO254 := Aside0.mk (Kd.R_mono (Kd.R_keep (IsS140.apart (show IsS140 w _ gb238 l0 t249 t250 from by repeat (first | (with_reducible first | exact HI238.out | apply IsS140.alloc | apply IsS140.drewN | apply IsS140.drew | apply IsS140.set_1 | apply IsS140.set_2) | exact HI238.out)) (rk HO254) (by decide)) hk (fun _ h => h.2)) (fun _ h => h.1)); replace HO258 := Aside0.mk (Kd.R_mono (Kd.R_keep (IsS140.apart (show IsS140 w _ gb238 l0 t249 t250 from by repeat (first | (with_reducible first | exact HI238.out | apply IsS140.alloc | apply IsS140.drewN | apply IsS140.drew | apply IsS140.set_1 | apply IsS140.set_2) | exact HI238.out)) (rk HO258) (by decide)) hk (fun _ h => h.2)) (fun _ h => h.1)); replace HB := Aside0.mk (hb); replace HI238 := Aside0.mk (hi); (try clear hb); (try clear hk); (try clear hi)) | ((with_reducible refine gate_callee (f := 162) rfl ?_); refine gl 51 Try.func162 #[.pointer (some ⟨gb238, 0, none⟩)] ?_; (with_reducible refine (spec_l1Cur_rain.calls k gb238 l0 t260 t261 t262 t263 t266 t267 w _ ?side1 ?side2 A10.out).mono ?_); (case side1 => repeat (first | (with_reducible first | exact HI238.out | apply IsS140.alloc | apply IsS140.drewN | apply IsS140.drew | apply IsS140.set_1 | apply IsS140.set_2) | exact HI238.out)); (case side2 => repeat (first | (with_reducible first | exact HB.out | apply below_alloc | apply pw_below_drewN | apply below_drew1 | refine below_set ?_ (IsS140.ge HI238.out)) | exact HB.out)); rintro e w21 ⟨v264, rfl, ho0, hi, hb, hk⟩; refine ⟨_, rfl, ?_⟩; have HO265 := Aside0.mk (Kd.R_lower (Kd.R_new' (Kd.R_new' (Kd.R_new' (Kd.R_new' ho0 (Kd.R_lt (rk HO242))) (Kd.R_lt (rk HO247))) (Kd.R_lt (rk HO254))) (Kd.R_lt (rk HO258))) (below_size (by repeat (first | (with_reducible first | exact HB.out | apply below_alloc | apply pw_below_drewN | apply below_drew1 | refine below_set ?_ (IsS140.ge HI238.out)) | exact HB.out)))); replace HO242 := Aside0.mk (Kd.R_mono (Kd.R_told (Kd.R_oldK (IsS140.apart (show IsS140 w _ gb238 l0 t260 t261 from by repeat (first | (with_reducible first | exact HI238.out | apply IsS140.alloc | apply IsS140.drewN | apply IsS140.drew | apply IsS140.set_1 | apply IsS140.set_2) | exact HI238.out)) (rk HO242) (by decide)) hk) (Kd.R_base ho0)) (fun _ h_ => h_.1)); replace HO247 := Aside0.mk (Kd.R_mono (Kd.R_told (Kd.R_oldK (IsS140.apart (show IsS140 w _ gb238 l0 t260 t261 from by repeat (first | (with_reducible first | exact HI238.out | apply IsS140.alloc | apply IsS140.drewN | apply IsS140.drew | apply IsS140.set_1 | apply IsS140.set_2) | exact HI238.out)) (rk HO247) (by decide)) hk) (Kd.R_base ho0)) (fun _ h_ => h_.1)); replace HO254 := Aside0.mk (Kd.R_mono (Kd.R_told (Kd.R_oldK (IsS140.apart (show IsS140 w _ gb238 l0 t260 t261 from by repeat (first | (with_reducible first | exact HI238.out | apply IsS140.alloc | apply IsS140.drewN | apply IsS140.drew | apply IsS140.set_1 | apply IsS140.set_2) | exact HI238.out)) (rk HO254) (by decide)) hk) (Kd.R_base ho0)) (fun _ h_ => h_.1)); replace HO258 := Aside0.mk (Kd.R_mono (Kd.R_told (Kd.R_oldK (IsS140.apart (show IsS140 w _ gb238 l0 t260 t261 from by repeat (first | (with_reducible first | exact HI238.out | apply IsS140.alloc | apply IsS140.drewN | apply IsS140.drew | apply IsS140.set_1 | apply IsS140.set_2) | exact HI238.out)) (rk HO258) (by decide)) hk) (Kd.R_base ho0)) (fun _ h_ => h_.1)); replace HB := Aside0.mk (hb); replace HI238 := Aside0.mk (hi); (try clear hb); (try clear hk); (try clear hi); (try clear ho0)))
 refine bodyPost_ret (results_list (rs := [.tmp 2, .tmp 3, .tmp 4, .tmp 5]) rfl (by simp) (.tmp (.tmp (.tmp (.tmp .nil))))) rfl ?_
 exact ⟨_, _, by first | rfl | (simp [errW_none, errW_some] <;> rfl) | (simp [*, errW_none, errW_some] <;> rfl), by (with_reducible repeat (first | apply Kd.R_alloc | apply Kd.R_drewN | apply Kd.R_drew)); exact Kd.R_mono HO242.out (fun _ hk => hk.2), by (with_reducible repeat (first | apply Kd.R_alloc | apply Kd.R_drewN | apply Kd.R_drew)); exact Kd.R_mono HO265.out (fun _ hk => hk.1.1.1.2), by repeat (first | (with_reducible first | exact HB.out | apply below_alloc | apply pw_below_drewN | apply below_drew1 | refine below_set ?_ (IsS140.ge HI238.out)) | exact HB.out)⟩

/-! ### spec_l1Most: function 173 -/
def spec_l1Most.f (a0 : Int) (a1 : Int) : Option (Int) := if a0 > a1 then (some a0) else (some a1)
set_option maxHeartbeats 8000000 in
set_option maxRecDepth 100000 in
theorem spec_l1Most.calls (a0 : Int) (a1 : Int) (r : Int) (w : World) (h : spec_l1Most.f a0 a1 = some r) :
  Calls Try.prog 173 #[.int .i64 a0, .int .i64 a1] w fun e w' => e = .returned (.int .i64 r) ∧ Drawn0 w w' := by
 have H : (if a0 > a1 then (some a0) else (some a1)) = some r := h
 clear h
 by_cases c3 : a0 > a1
 rotate_left
 ·rw [if_neg c3] at H
  have c3b0 : decide (a1 < a0) = false := decide_eq_false c3
  clear c3
  obtain rfl := Option.some.inj H
  go_enter Try.func173, Try.ntmps173
  go_wp2
  go_ret
  exact ⟨by first | rfl | (simp; done) | (simp [*]; done), by repeat (first | exact Drawn0.refl _ | apply Drawn0.step)⟩
 rw [if_pos c3] at H
 have c3b0 : decide (a1 < a0) = true := decide_eq_true c3
 clear c3
 obtain rfl := Option.some.inj H
 go_enter Try.func173, Try.ntmps173
 go_wp2
 go_ret
 exact ⟨by first | rfl | (simp; done) | (simp [*]; done), by repeat (first | exact Drawn0.refl _ | apply Drawn0.step)⟩

/-! ### spec_l1Least: function 174 -/
def spec_l1Least.f (a0 : Int) (a1 : Int) : Option (Int) := if a0 < a1 then (some a0) else (some a1)
set_option maxHeartbeats 8000000 in
set_option maxRecDepth 100000 in
theorem spec_l1Least.calls (a0 : Int) (a1 : Int) (r : Int) (w : World) (h : spec_l1Least.f a0 a1 = some r) :
  Calls Try.prog 174 #[.int .i64 a0, .int .i64 a1] w fun e w' => e = .returned (.int .i64 r) ∧ Drawn0 w w' := by
 have H : (if a0 < a1 then (some a0) else (some a1)) = some r := h
 clear h
 by_cases c3 : a0 < a1
 rotate_left
 ·rw [if_neg c3] at H
  have c3b0 : decide (a0 < a1) = false := decide_eq_false c3
  clear c3
  obtain rfl := Option.some.inj H
  go_enter Try.func174, Try.ntmps174
  go_wp2
  go_ret
  exact ⟨by first | rfl | (simp; done) | (simp [*]; done), by repeat (first | exact Drawn0.refl _ | apply Drawn0.step)⟩
 rw [if_pos c3] at H
 have c3b0 : decide (a0 < a1) = true := decide_eq_true c3
 clear c3
 obtain rfl := Option.some.inj H
 go_enter Try.func174, Try.ntmps174
 go_wp2
 go_ret
 exact ⟨by first | rfl | (simp; done) | (simp [*]; done), by repeat (first | exact Drawn0.refl _ | apply Drawn0.step)⟩

/-! ### spec_RangeOfTwo: function 69 -/
def spec_RangeOfTwo.j0 : Nat → Int → Int → List Int → List Int → Bool → Option (Int × Int × Bool)
 | 0, _, _, _, _, _ => none
 | k + 1, x0, x1, x2, x3, x22 => if x22 = true then (some (0, 0, false)) else ((spec_veSum.f k x2).bind fun t282 => ((spec_veSum.f k x3).bind fun t283 => ((spec_l1Most.f (wrap64 (x0 * t282)) (wrap64 (x1 * t283))).bind fun t284 => ((spec_veSum.f k x2).bind fun t285 => ((spec_veSum.f k x3).bind fun t286 => ((spec_l1Least.f (wrap64 ((wrap64 (x0 * t285)) + x0)) (wrap64 ((wrap64 (x1 * t286)) + x1))).bind fun t287 => (if t284 > (wrap64 (t287 - 1)) then (some (0, 0, false)) else (some (t284, wrap64 (t287 - 1), true)))))))))
def spec_RangeOfTwo.f (k : Nat) (a0 : Int) (a1 : Int) (l2 : List Int) (l3 : List Int) : Option (Int × Int × Bool) := (spec_tbRain.f k a0 l2).bind fun t280 => (if t280 = true then ((spec_tbRain.f k a1 l3).bind fun t281 => (spec_RangeOfTwo.j0 k a0 a1 l2 l3 (!t281))) else (spec_RangeOfTwo.j0 k a0 a1 l2 l3 true))
theorem spec_RangeOfTwo.mono_l : ∀ k, (∀ y0 y1 y2 y3 y4, LeO (spec_RangeOfTwo.j0 k y0 y1 y2 y3 y4) (spec_RangeOfTwo.j0 (k + 1) y0 y1 y2 y3 y4))
 | 0 => fun _ _ _ _ _ r h => by simp [spec_RangeOfTwo.j0] at h
 | k + 1 => by
  have ih0 := spec_RangeOfTwo.mono_l k
  ·intro y0 y1 y2 y3 y4
   unfold spec_RangeOfTwo.j0
   repeat' first
   | (with_reducible exact ih0 _ _ _ _ _)
   | (with_reducible exact spec_tbRain.mono _ _ _)
   | (with_reducible exact spec_veSum.mono _ _)
   | (with_reducible exact LeO.refl _)
   | (with_reducible exact LeO.none _)
   | (with_reducible refine LeO.ite ?_ ?_)
   | (with_reducible refine LeO.bind ?_ (fun _ => ?_))
   | exact ih0 _ _ _ _ _
   | exact spec_tbRain.mono _ _ _
   | exact spec_veSum.mono _ _
   | exact LeO.none _
   | refine LeO.ite ?_ ?_
   | refine LeO.bind ?_ (fun _ => ?_)
theorem spec_RangeOfTwo.mono : ∀ a0 a1 a2 a3 k, LeO (spec_RangeOfTwo.f k a0 a1 a2 a3) (spec_RangeOfTwo.f (k + 1) a0 a1 a2 a3) := by
 intro a0 a1 a2 a3 k
 have ih0 := spec_RangeOfTwo.mono_l k
 unfold spec_RangeOfTwo.f
 repeat' first
   | (with_reducible exact ih0 _ _ _ _ _)
   | (with_reducible exact spec_tbRain.mono _ _ _)
   | (with_reducible exact spec_veSum.mono _ _)
   | (with_reducible exact LeO.refl _)
   | (with_reducible exact LeO.none _)
   | (with_reducible refine LeO.ite ?_ ?_)
   | (with_reducible refine LeO.bind ?_ (fun _ => ?_))
   | exact ih0 _ _ _ _ _
   | exact spec_tbRain.mono _ _ _
   | exact spec_veSum.mono _ _
   | exact LeO.none _
   | refine LeO.ite ?_ ?_
   | refine LeO.bind ?_ (fun _ => ?_)
set_option maxHeartbeats 8000000 in
set_option maxRecDepth 100000 in
theorem spec_RangeOfTwo.calls (k : Nat) (a0 : Int) (a1 : Int) (A2 : Option Addr) (c2 : Nat) (l2 : List Int) (A3 : Option Addr) (c3 : Nat) (l3 : List Int) (r1 : Int) (r2 : Int) (r3 : Bool) (w : World) (hr2 : Kd.C (Kd.int .i64) w A2 l2.length l2) (hc2 : l2.length ≤ c2) (hr3 : Kd.C (Kd.int .i64) w A3 l3.length l3) (hc3 : l3.length ≤ c3) (h : spec_RangeOfTwo.f k a0 a1 l2 l3 = some (r1, r2, r3)) :
  Calls Try.prog 69 #[.int .i64 a0, .int .i64 a1, .slice A2 l2.length c2, .slice A3 l3.length c3] w fun e w' => e = .returned (.tuple #[.int .i64 r1, .int .i64 r2, .bool r3]) ∧ Drawn0 w w' := by
 have HR2 := Aside0.mk hr2
 have HC2 := Aside0.mk hc2
 clear hr2 hc2
 have HR3 := Aside0.mk hr3
 have HC3 := Aside0.mk hc3
 clear hr3 hc3
 have H : ((spec_tbRain.f k a0 l2).bind fun t280 => (if t280 = true then ((spec_tbRain.f k a1 l3).bind fun t281 => (spec_RangeOfTwo.j0 k a0 a1 l2 l3 (!t281))) else (spec_RangeOfTwo.j0 k a0 a1 l2 l3 true))) = some (r1, r2, r3) := h
 clear h
 have HC5 := Aside0.mk H
 clear H
 go_enter Try.func69, Try.ntmps69
 go_upto_region 1 with (fail)
 go_cut [22] (fun v22 wc => ∃ (kq : Nat) (x22_4 : Bool), v22 = .bool x22_4 ∧ Aside0 (spec_RangeOfTwo.j0 kq a0 a1 l2 l3 x22_4 = some (r1, r2, r3)) ∧ Aside0 (kq ≤ k) ∧ Drawn0 w wc)
 case first =>
  have H := HC5.out
  clear HC5
  replace H := Option.bind_eq_some_iff.mp H
  obtain ⟨t280, A60, H⟩ := H
  replace H : (if t280 = true then ((spec_tbRain.f k a1 l3).bind fun t281 => (spec_RangeOfTwo.j0 k a0 a1 l2 l3 (!t281))) else (spec_RangeOfTwo.j0 k a0 a1 l2 l3 true)) = some (r1, r2, r3) := H
  have A6 := Aside0.mk A60
  clear A60
  by_cases c7 : t280 = true
  rotate_left
  ·replace c7 := Bool.eq_false_iff.mpr c7
   subst c7
   have H1 : (spec_RangeOfTwo.j0 k a0 a1 l2 l3 true) = some (r1, r2, r3) := by rw [if_neg (show ¬ (false = true) by decide)] at H; exact H
   clear H
   have H := H1
   clear H1
   have H' := Aside0.mk H
   clear H
   go_wp2_with (first | ((with_reducible refine gate_callee (f := 164) rfl ?_); refine gl 15 Try.func164 #[.int .i64 a0, .slice A2 l2.length c2] ?_; (with_reducible refine (spec_tbRain.calls k a0 _ _ l2 false _ ?side1 ?side2 A6.out).mono ?_); (case side1 => repeat (first | exact HR2.out | (with_reducible refine Kd.C_alloc ?_ _) | (with_reducible refine Kd.C_drewN ?_ _) | (with_reducible refine Kd.C_drew ?_))); (case side2 => exact HC2.out); rintro e w' ⟨rfl, ⟨nd, rfl⟩⟩; refine ⟨_, rfl, ?_⟩))
   go_meet
   case rel => exact ⟨_, (true), (by first | rfl | (simp; done) | (simp [*]; done)), H', ⟨by first | omega | exact Nat.le_refl _⟩, by repeat (first | exact Drawn0.refl _ | apply Drawn0.step)⟩
  subst c7
  have H1 : ((spec_tbRain.f k a1 l3).bind fun t281 => (spec_RangeOfTwo.j0 k a0 a1 l2 l3 (!t281))) = some (r1, r2, r3) := by rw [if_pos rfl] at H; exact H
  clear H
  have H := H1
  clear H1
  replace H := Option.bind_eq_some_iff.mp H
  obtain ⟨t281, A80, H⟩ := H
  replace H : (spec_RangeOfTwo.j0 k a0 a1 l2 l3 (!t281)) = some (r1, r2, r3) := H
  have A8 := Aside0.mk A80
  clear A80
  have H' := Aside0.mk H
  clear H
  go_wp2_with (first | ((with_reducible refine gate_callee (f := 164) rfl ?_); refine gl 15 Try.func164 #[.int .i64 a0, .slice A2 l2.length c2] ?_; (with_reducible refine (spec_tbRain.calls k a0 _ _ l2 true _ ?side1 ?side2 A6.out).mono ?_); (case side1 => repeat (first | exact HR2.out | (with_reducible refine Kd.C_alloc ?_ _) | (with_reducible refine Kd.C_drewN ?_ _) | (with_reducible refine Kd.C_drew ?_))); (case side2 => exact HC2.out); rintro e w' ⟨rfl, ⟨nd, rfl⟩⟩; refine ⟨_, rfl, ?_⟩) | (go_at_call 164; (with_reducible refine (spec_tbRain.calls k a1 _ _ l3 t281 _ ?side1 ?side2 A8.out).mono ?_); (case side1 => repeat (first | exact HR3.out | (with_reducible refine Kd.C_alloc ?_ _) | (with_reducible refine Kd.C_drewN ?_ _) | (with_reducible refine Kd.C_drew ?_))); (case side2 => exact HC3.out); rintro e w' ⟨rfl, ⟨nd, rfl⟩⟩))
  go_meet
  case rel => exact ⟨_, (!t281), (by first | rfl | (simp; done) | (simp [*]; done)), H', ⟨by first | omega | exact Nat.le_refl _⟩, by repeat (first | exact Drawn0.refl _ | apply Drawn0.step)⟩
 case rest =>
  clear HC5
  try clear c1
  try clear c2
  try clear p2
  try clear c3
  try clear c6
  try clear c7
  obtain ⟨kq, x22_4, rfl, HA, HJ4, ⟨mc4, rfl⟩⟩ := hcut
  cases kq with
  | zero => exact absurd HA.out (by simp [spec_RangeOfTwo.j0])
  | succ kj4 =>
   have H := HA.out
   clear HA
   simp only [spec_RangeOfTwo.j0] at H
   by_cases c9 : x22_4 = true
   ·subst c9
    have H1 : (some (0, 0, false)) = some (r1, r2, r3) := by rw [if_pos rfl] at H; exact H
    clear H
    have H := H1
    clear H1
    simp only [Option.some.injEq, Prod.mk.injEq] at H
    obtain ⟨rfl, rfl, rfl⟩ := H
    go_wp2
    go_ret3
    exact ⟨by first | rfl | (simp; done) | (simp [*]; done), by repeat (first | exact Drawn0.refl _ | apply Drawn0.step)⟩
   replace c9 := Bool.eq_false_iff.mpr c9
   subst c9
   have H1 : ((spec_veSum.f kj4 l2).bind fun t282 => ((spec_veSum.f kj4 l3).bind fun t283 => ((spec_l1Most.f (wrap64 (a0 * t282)) (wrap64 (a1 * t283))).bind fun t284 => ((spec_veSum.f kj4 l2).bind fun t285 => ((spec_veSum.f kj4 l3).bind fun t286 => ((spec_l1Least.f (wrap64 ((wrap64 (a0 * t285)) + a0)) (wrap64 ((wrap64 (a1 * t286)) + a1))).bind fun t287 => (if t284 > (wrap64 (t287 - 1)) then (some (0, 0, false)) else (some (t284, wrap64 (t287 - 1), true))))))))) = some (r1, r2, r3) := by rw [if_neg (show ¬ (false = true) by decide)] at H; exact H
   clear H
   have H := H1
   clear H1
   replace H := Option.bind_eq_some_iff.mp H
   obtain ⟨t282, A100, H⟩ := H
   replace H : ((spec_veSum.f kj4 l3).bind fun t283 => ((spec_l1Most.f (wrap64 (a0 * t282)) (wrap64 (a1 * t283))).bind fun t284 => ((spec_veSum.f kj4 l2).bind fun t285 => ((spec_veSum.f kj4 l3).bind fun t286 => ((spec_l1Least.f (wrap64 ((wrap64 (a0 * t285)) + a0)) (wrap64 ((wrap64 (a1 * t286)) + a1))).bind fun t287 => (if t284 > (wrap64 (t287 - 1)) then (some (0, 0, false)) else (some (t284, wrap64 (t287 - 1), true)))))))) = some (r1, r2, r3) := H
   have A10 := Aside0.mk A100
   clear A100
   replace H := Option.bind_eq_some_iff.mp H
   obtain ⟨t283, A110, H⟩ := H
   replace H : ((spec_l1Most.f (wrap64 (a0 * t282)) (wrap64 (a1 * t283))).bind fun t284 => ((spec_veSum.f kj4 l2).bind fun t285 => ((spec_veSum.f kj4 l3).bind fun t286 => ((spec_l1Least.f (wrap64 ((wrap64 (a0 * t285)) + a0)) (wrap64 ((wrap64 (a1 * t286)) + a1))).bind fun t287 => (if t284 > (wrap64 (t287 - 1)) then (some (0, 0, false)) else (some (t284, wrap64 (t287 - 1), true))))))) = some (r1, r2, r3) := H
   have A11 := Aside0.mk A110
   clear A110
   replace H := Option.bind_eq_some_iff.mp H
   obtain ⟨t284, A120, H⟩ := H
   replace H : ((spec_veSum.f kj4 l2).bind fun t285 => ((spec_veSum.f kj4 l3).bind fun t286 => ((spec_l1Least.f (wrap64 ((wrap64 (a0 * t285)) + a0)) (wrap64 ((wrap64 (a1 * t286)) + a1))).bind fun t287 => (if t284 > (wrap64 (t287 - 1)) then (some (0, 0, false)) else (some (t284, wrap64 (t287 - 1), true)))))) = some (r1, r2, r3) := H
   have A12 := Aside0.mk A120
   clear A120
   replace H := Option.bind_eq_some_iff.mp H
   obtain ⟨t285, A130, H⟩ := H
   replace H : ((spec_veSum.f kj4 l3).bind fun t286 => ((spec_l1Least.f (wrap64 ((wrap64 (a0 * t285)) + a0)) (wrap64 ((wrap64 (a1 * t286)) + a1))).bind fun t287 => (if t284 > (wrap64 (t287 - 1)) then (some (0, 0, false)) else (some (t284, wrap64 (t287 - 1), true))))) = some (r1, r2, r3) := H
   have A13 := Aside0.mk A130
   clear A130
   replace H := Option.bind_eq_some_iff.mp H
   obtain ⟨t286, A140, H⟩ := H
   replace H : ((spec_l1Least.f (wrap64 ((wrap64 (a0 * t285)) + a0)) (wrap64 ((wrap64 (a1 * t286)) + a1))).bind fun t287 => (if t284 > (wrap64 (t287 - 1)) then (some (0, 0, false)) else (some (t284, wrap64 (t287 - 1), true)))) = some (r1, r2, r3) := H
   have A14 := Aside0.mk A140
   clear A140
   replace H := Option.bind_eq_some_iff.mp H
   obtain ⟨t287, A150, H⟩ := H
   replace H : (if t284 > (wrap64 (t287 - 1)) then (some (0, 0, false)) else (some (t284, wrap64 (t287 - 1), true))) = some (r1, r2, r3) := H
   have A15 := Aside0.mk A150
   clear A150
   by_cases c16 : t284 > (wrap64 (t287 - 1))
   rotate_left
   ·rw [if_neg c16] at H
    have c16b0 : decide ((wrap64 (t287 - 1)) < t284) = false := decide_eq_false c16
    clear c16
    simp only [Option.some.injEq, Prod.mk.injEq] at H
    obtain ⟨rfl, rfl, rfl⟩ := H
    go_wp2_with (first | ((with_reducible refine gate_callee (f := 171) rfl ?_); refine gl 25 Try.func171 #[.slice A2 l2.length c2] ?_; (with_reducible refine (spec_veSum.calls kj4 _ _ l2 t282 _ ?side1 ?side2 A10.out).mono ?_); (case side1 => repeat (first | exact HR2.out | (with_reducible refine Kd.C_alloc ?_ _) | (with_reducible refine Kd.C_drewN ?_ _) | (with_reducible refine Kd.C_drew ?_))); (case side2 => exact HC2.out); rintro e w' ⟨rfl, ⟨nd, rfl⟩⟩; refine ⟨_, rfl, ?_⟩) | ((with_reducible refine gate_callee (f := 171) rfl ?_); refine gl 29 Try.func171 #[.slice A3 l3.length c3] ?_; (with_reducible refine (spec_veSum.calls kj4 _ _ l3 t283 _ ?side1 ?side2 A11.out).mono ?_); (case side1 => repeat (first | exact HR3.out | (with_reducible refine Kd.C_alloc ?_ _) | (with_reducible refine Kd.C_drewN ?_ _) | (with_reducible refine Kd.C_drew ?_))); (case side2 => exact HC3.out); rintro e w' ⟨rfl, ⟨nd, rfl⟩⟩; refine ⟨_, rfl, ?_⟩) | ((with_reducible refine gate_callee (f := 173) rfl ?_); refine gl 31 Try.func173 #[.int .i64 (wrap64 (a0 * t282)), .int .i64 (wrap64 (a1 * t283))] ?_; (with_reducible refine (spec_l1Most.calls (wrap64 (a0 * t282)) (wrap64 (a1 * t283)) t284 _ A12.out).mono ?_); rintro e w' ⟨rfl, ⟨nd, rfl⟩⟩; refine ⟨_, rfl, ?_⟩) | ((with_reducible refine gate_callee (f := 171) rfl ?_); refine gl 34 Try.func171 #[.slice A2 l2.length c2] ?_; (with_reducible refine (spec_veSum.calls kj4 _ _ l2 t285 _ ?side1 ?side2 A13.out).mono ?_); (case side1 => repeat (first | exact HR2.out | (with_reducible refine Kd.C_alloc ?_ _) | (with_reducible refine Kd.C_drewN ?_ _) | (with_reducible refine Kd.C_drew ?_))); (case side2 => exact HC2.out); rintro e w' ⟨rfl, ⟨nd, rfl⟩⟩; refine ⟨_, rfl, ?_⟩) | ((with_reducible refine gate_callee (f := 171) rfl ?_); refine gl 40 Try.func171 #[.slice A3 l3.length c3] ?_; (with_reducible refine (spec_veSum.calls kj4 _ _ l3 t286 _ ?side1 ?side2 A14.out).mono ?_); (case side1 => repeat (first | exact HR3.out | (with_reducible refine Kd.C_alloc ?_ _) | (with_reducible refine Kd.C_drewN ?_ _) | (with_reducible refine Kd.C_drew ?_))); (case side2 => exact HC3.out); rintro e w' ⟨rfl, ⟨nd, rfl⟩⟩; refine ⟨_, rfl, ?_⟩) | ((with_reducible refine gate_callee (f := 174) rfl ?_); refine gl 44 Try.func174 #[.int .i64 (wrap64 ((wrap64 (a0 * t285)) + a0)), .int .i64 (wrap64 ((wrap64 (a1 * t286)) + a1))] ?_; (with_reducible refine (spec_l1Least.calls (wrap64 ((wrap64 (a0 * t285)) + a0)) (wrap64 ((wrap64 (a1 * t286)) + a1)) t287 _ A15.out).mono ?_); rintro e w' ⟨rfl, ⟨nd, rfl⟩⟩; refine ⟨_, rfl, ?_⟩))
    go_ret3
    exact ⟨by first | rfl | (simp; done) | (simp [*]; done), by repeat (first | exact Drawn0.refl _ | apply Drawn0.step)⟩
   rw [if_pos c16] at H
   have c16b0 : decide ((wrap64 (t287 - 1)) < t284) = true := decide_eq_true c16
   clear c16
   simp only [Option.some.injEq, Prod.mk.injEq] at H
   obtain ⟨rfl, rfl, rfl⟩ := H
   go_wp2_with (first | ((with_reducible refine gate_callee (f := 171) rfl ?_); refine gl 25 Try.func171 #[.slice A2 l2.length c2] ?_; (with_reducible refine (spec_veSum.calls kj4 _ _ l2 t282 _ ?side1 ?side2 A10.out).mono ?_); (case side1 => repeat (first | exact HR2.out | (with_reducible refine Kd.C_alloc ?_ _) | (with_reducible refine Kd.C_drewN ?_ _) | (with_reducible refine Kd.C_drew ?_))); (case side2 => exact HC2.out); rintro e w' ⟨rfl, ⟨nd, rfl⟩⟩; refine ⟨_, rfl, ?_⟩) | ((with_reducible refine gate_callee (f := 171) rfl ?_); refine gl 29 Try.func171 #[.slice A3 l3.length c3] ?_; (with_reducible refine (spec_veSum.calls kj4 _ _ l3 t283 _ ?side1 ?side2 A11.out).mono ?_); (case side1 => repeat (first | exact HR3.out | (with_reducible refine Kd.C_alloc ?_ _) | (with_reducible refine Kd.C_drewN ?_ _) | (with_reducible refine Kd.C_drew ?_))); (case side2 => exact HC3.out); rintro e w' ⟨rfl, ⟨nd, rfl⟩⟩; refine ⟨_, rfl, ?_⟩) | ((with_reducible refine gate_callee (f := 173) rfl ?_); refine gl 31 Try.func173 #[.int .i64 (wrap64 (a0 * t282)), .int .i64 (wrap64 (a1 * t283))] ?_; (with_reducible refine (spec_l1Most.calls (wrap64 (a0 * t282)) (wrap64 (a1 * t283)) t284 _ A12.out).mono ?_); rintro e w' ⟨rfl, ⟨nd, rfl⟩⟩; refine ⟨_, rfl, ?_⟩) | ((with_reducible refine gate_callee (f := 171) rfl ?_); refine gl 34 Try.func171 #[.slice A2 l2.length c2] ?_; (with_reducible refine (spec_veSum.calls kj4 _ _ l2 t285 _ ?side1 ?side2 A13.out).mono ?_); (case side1 => repeat (first | exact HR2.out | (with_reducible refine Kd.C_alloc ?_ _) | (with_reducible refine Kd.C_drewN ?_ _) | (with_reducible refine Kd.C_drew ?_))); (case side2 => exact HC2.out); rintro e w' ⟨rfl, ⟨nd, rfl⟩⟩; refine ⟨_, rfl, ?_⟩) | ((with_reducible refine gate_callee (f := 171) rfl ?_); refine gl 40 Try.func171 #[.slice A3 l3.length c3] ?_; (with_reducible refine (spec_veSum.calls kj4 _ _ l3 t286 _ ?side1 ?side2 A14.out).mono ?_); (case side1 => repeat (first | exact HR3.out | (with_reducible refine Kd.C_alloc ?_ _) | (with_reducible refine Kd.C_drewN ?_ _) | (with_reducible refine Kd.C_drew ?_))); (case side2 => exact HC3.out); rintro e w' ⟨rfl, ⟨nd, rfl⟩⟩; refine ⟨_, rfl, ?_⟩) | ((with_reducible refine gate_callee (f := 174) rfl ?_); refine gl 44 Try.func174 #[.int .i64 (wrap64 ((wrap64 (a0 * t285)) + a0)), .int .i64 (wrap64 ((wrap64 (a1 * t286)) + a1))] ?_; (with_reducible refine (spec_l1Least.calls (wrap64 ((wrap64 (a0 * t285)) + a0)) (wrap64 ((wrap64 (a1 * t286)) + a1)) t287 _ A15.out).mono ?_); rintro e w' ⟨rfl, ⟨nd, rfl⟩⟩; refine ⟨_, rfl, ?_⟩))
   go_ret3
   exact ⟨by first | rfl | (simp; done) | (simp [*]; done), by repeat (first | exact Drawn0.refl _ | apply Drawn0.step)⟩

/-! ### laws_FnRainMeasured: function 5 -/
mutual
def laws_FnRainMeasured.j0 : Nat → List Int → Int → List Int → List Int → Bool → Int → Int → Bool → Bool → Option (Bool)
 | 0, _, _, _, _, _, _, _, _, _ => none
 | k + 1, x1, x5, x6, x7, x8, x11, x15, x16, x139 => if x139 = true then (some false) else (if x8 = true then ((impl_RangeOfTips.f k x5 x7).bind fun bt311 => ((laws_eSum.f k x6).bind fun t314 => (if (x7.length : Int) = (x6.length : Int) then ((laws_eSum.f k x7).bind fun t315 => (if (wrap64 ((wrap64 (t315 * x5)) + x11)) = t314 then (if x11 < 0 then (laws_FnRainMeasured.j1 k x1 x5 x6 x7 x15 x16 bt311.1 bt311.2.1 t314 true) else (if x11 ≥ x5 then (laws_FnRainMeasured.j1 k x1 x5 x6 x7 x15 x16 bt311.1 bt311.2.1 t314 true) else (if bt311.2.2 = true then (if t314 < bt311.1 then (laws_FnRainMeasured.j1 k x1 x5 x6 x7 x15 x16 bt311.1 bt311.2.1 t314 true) else (if t314 > bt311.2.1 then (laws_FnRainMeasured.j1 k x1 x5 x6 x7 x15 x16 bt311.1 bt311.2.1 t314 true) else (laws_FnRainMeasured.j1 k x1 x5 x6 x7 x15 x16 bt311.1 bt311.2.1 t314 ((wrap64 (bt311.2.1 - bt311.1)) != (wrap64 (x5 - 1)))))) else (laws_FnRainMeasured.j1 k x1 x5 x6 x7 x15 x16 bt311.1 bt311.2.1 t314 true)))) else (laws_FnRainMeasured.j1 k x1 x5 x6 x7 x15 x16 bt311.1 bt311.2.1 t314 true))) else (laws_FnRainMeasured.j1 k x1 x5 x6 x7 x15 x16 bt311.1 bt311.2.1 t314 true)))) else (laws_FnRainMeasured.j3 k x1))
def laws_FnRainMeasured.j3 : Nat → List Int → Option (Bool)
 | 0, _ => none
 | k + 1, x1 => (spec_DrawRainOfTips.f k x1).bind fun bt329 => ((impl_RainOfTips.f k bt329.1 bt329.2).bind fun bt333 => ((spec_RainOfTips.f k bt329.1 bt329.2).bind fun bt337 => ((impl_RangeOfTips.f k bt329.1 bt329.2).bind fun bt341 => ((spec_RangeOfTips.f k bt329.1 bt329.2).bind fun bt344 => ((spec_DrawRangeOfTwo.f k x1).bind fun bt347 => ((impl_RangeOfTwo.f k bt347.1 bt347.2.1 bt347.2.2.1 bt347.2.2.2).bind fun bt355 => ((spec_RangeOfTwo.f k bt347.1 bt347.2.1 bt347.2.2.1 bt347.2.2.2).bind fun bt358 => (if (bt333.2 != bt337.2) = true then (laws_FnRainMeasured.j4 k bt329.1 bt329.2 bt333.1 bt333.2 bt341.1 true) else ((laws_eSame.f k bt333.1 bt337.1).bind fun t361 => (if t361 = true then (if (bt341.2.2 != bt344.2.2) = true then (laws_FnRainMeasured.j4 k bt329.1 bt329.2 bt333.1 bt333.2 bt341.1 true) else (if bt341.1 = bt344.1 then (if bt341.2.1 = bt344.2.1 then (if (bt355.2.2 != bt358.2.2) = true then (laws_FnRainMeasured.j4 k bt329.1 bt329.2 bt333.1 bt333.2 bt341.1 true) else (if bt355.1 = bt358.1 then (if bt355.2.1 = bt358.2.1 then (if bt333.2 = true then (if bt341.2.2 = true then (if bt355.2.2 = true then (laws_FnRainMeasured.j4 k bt329.1 bt329.2 bt333.1 bt333.2 bt341.1 (decide (bt355.1 > bt355.2.1))) else (laws_FnRainMeasured.j4 k bt329.1 bt329.2 bt333.1 bt333.2 bt341.1 false)) else (laws_FnRainMeasured.j4 k bt329.1 bt329.2 bt333.1 bt333.2 bt341.1 true)) else (if bt355.2.2 = true then (laws_FnRainMeasured.j4 k bt329.1 bt329.2 bt333.1 bt333.2 bt341.1 (decide (bt355.1 > bt355.2.1))) else (laws_FnRainMeasured.j4 k bt329.1 bt329.2 bt333.1 bt333.2 bt341.1 false))) else (laws_FnRainMeasured.j4 k bt329.1 bt329.2 bt333.1 bt333.2 bt341.1 true)) else (laws_FnRainMeasured.j4 k bt329.1 bt329.2 bt333.1 bt333.2 bt341.1 true))) else (laws_FnRainMeasured.j4 k bt329.1 bt329.2 bt333.1 bt333.2 bt341.1 true)) else (laws_FnRainMeasured.j4 k bt329.1 bt329.2 bt333.1 bt333.2 bt341.1 true))) else (laws_FnRainMeasured.j4 k bt329.1 bt329.2 bt333.1 bt333.2 bt341.1 true)))))))))))
def laws_FnRainMeasured.j4 : Nat → Int → List Int → List Int → Bool → Int → Bool → Option (Bool)
 | 0, _, _, _, _, _, _ => none
 | k + 1, x28, x29, x30, x31, x34, x361 => if x361 = true then (some false) else (if x31 = true then ((impl_TipsOfRain.f k x28 x30).bind fun bt362 => (if bt362.2 = true then ((laws_eSame.f k bt362.1 x29).bind fun t366 => (if t366 = true then ((laws_eSum.f k x30).bind fun t367 => (some (t367 == x34))) else (some false))) else (some false))) else (some true))
def laws_FnRainMeasured.j1 : Nat → List Int → Int → List Int → List Int → Int → Bool → Int → Int → Int → Bool → Option (Bool)
 | 0, _, _, _, _, _, _, _, _, _, _ => none
 | k + 1, x1, x5, x6, x7, x15, x16, x19, x20, x22, x195 => if x195 = true then (some false) else (if x16 = true then (if 0 ≤ (wrap64 (x15 - 1)) then (if (wrap64 (x15 - 1)) < (x7.length : Int) then (if (rd x7 (wrap64 (x15 - 1))) = 0 then (laws_FnRainMeasured.j2 k x1 x5 x6 x7 x19 x20 x22 true) else (if (wrap64 (x15 - 1)) ≤ (x7.length : Int) then ((laws_eSum.f k (x7.take ((wrap64 (x15 - 1)) : Int).toNat)).bind fun t321 => (laws_FnRainMeasured.j2 k x1 x5 x6 x7 x19 x20 x22 (t321 != 0))) else (none))) else (none)) else (none)) else (laws_FnRainMeasured.j2 k x1 x5 x6 x7 x19 x20 x22 false))
def laws_FnRainMeasured.j2 : Nat → List Int → Int → List Int → List Int → Int → Int → Int → Bool → Option (Bool)
 | 0, _, _, _, _, _, _, _, _ => none
 | k + 1, x1, x5, x6, x7, x19, x20, x22, x212 => if x212 = true then (some false) else ((impl_TipsOfRain.f k 7 x6).bind fun bt322 => ((impl_RangeOfTwo.f k x5 7 x7 bt322.1).bind fun bt326 => (if bt322.2 = true then (if bt326.2.2 = true then (if x22 < bt326.1 then (some false) else (if x22 > bt326.2.1 then (some false) else (if bt326.1 < x19 then (some false) else (if bt326.2.1 > x20 then (some false) else (laws_FnRainMeasured.j3 k x1))))) else (some false)) else (some false))))
end
def laws_FnRainMeasured.f (k : Nat) (l0 : List Int) (l1 : List Int) : Option (Bool) := (laws_big.f l0 l1).bind fun t288 => (if t288 = true then (some true) else ((spec_DrawTipsOfRain.f k l0).bind fun bt289 => ((impl_TipsOfRain.f k bt289.1 bt289.2).bind fun bt293 => ((spec_TipsOfRain.f k bt289.1 bt289.2).bind fun bt297 => ((impl_RestOfRain.f k bt289.1 bt289.2).bind fun bt301 => ((spec_RestOfRain.f k bt289.1 bt289.2).bind fun bt303 => ((impl_FirstTip.f k bt289.1 bt289.2).bind fun bt305 => ((spec_FirstTip.f k bt289.1 bt289.2).bind fun bt307 => (if (bt293.2 != bt297.2) = true then (laws_FnRainMeasured.j0 k l1 bt289.1 bt289.2 bt293.1 bt293.2 bt301.1 bt305.1 bt305.2 true) else ((laws_eSame.f k bt293.1 bt297.1).bind fun t309 => (if t309 = true then (if (bt301.2 != bt303.2) = true then (laws_FnRainMeasured.j0 k l1 bt289.1 bt289.2 bt293.1 bt293.2 bt301.1 bt305.1 bt305.2 true) else (if bt301.1 = bt303.1 then (if (bt305.2 != bt307.2) = true then (laws_FnRainMeasured.j0 k l1 bt289.1 bt289.2 bt293.1 bt293.2 bt301.1 bt305.1 bt305.2 true) else (if bt305.1 = bt307.1 then (if (bt301.2 != bt293.2) = true then (laws_FnRainMeasured.j0 k l1 bt289.1 bt289.2 bt293.1 bt293.2 bt301.1 bt305.1 bt305.2 true) else (if bt293.2 = true then ((laws_eSum.f k bt293.1).bind fun t310 => (laws_FnRainMeasured.j0 k l1 bt289.1 bt289.2 bt293.1 bt293.2 bt301.1 bt305.1 bt305.2 (bt305.2 != (decide (t310 > 0))))) else (laws_FnRainMeasured.j0 k l1 bt289.1 bt289.2 bt293.1 bt293.2 bt301.1 bt305.1 bt305.2 (bt305.2 != false)))) else (laws_FnRainMeasured.j0 k l1 bt289.1 bt289.2 bt293.1 bt293.2 bt301.1 bt305.1 bt305.2 true))) else (laws_FnRainMeasured.j0 k l1 bt289.1 bt289.2 bt293.1 bt293.2 bt301.1 bt305.1 bt305.2 true))) else (laws_FnRainMeasured.j0 k l1 bt289.1 bt289.2 bt293.1 bt293.2 bt301.1 bt305.1 bt305.2 true))))))))))))
theorem laws_FnRainMeasured.mono_l : ∀ k, (∀ y0 y1 y2 y3 y4 y5 y6 y7 y8, LeO (laws_FnRainMeasured.j0 k y0 y1 y2 y3 y4 y5 y6 y7 y8) (laws_FnRainMeasured.j0 (k + 1) y0 y1 y2 y3 y4 y5 y6 y7 y8)) ∧ (∀ y0, LeO (laws_FnRainMeasured.j3 k y0) (laws_FnRainMeasured.j3 (k + 1) y0)) ∧ (∀ y0 y1 y2 y3 y4 y5, LeO (laws_FnRainMeasured.j4 k y0 y1 y2 y3 y4 y5) (laws_FnRainMeasured.j4 (k + 1) y0 y1 y2 y3 y4 y5)) ∧ (∀ y0 y1 y2 y3 y4 y5 y6 y7 y8 y9, LeO (laws_FnRainMeasured.j1 k y0 y1 y2 y3 y4 y5 y6 y7 y8 y9) (laws_FnRainMeasured.j1 (k + 1) y0 y1 y2 y3 y4 y5 y6 y7 y8 y9)) ∧ (∀ y0 y1 y2 y3 y4 y5 y6 y7, LeO (laws_FnRainMeasured.j2 k y0 y1 y2 y3 y4 y5 y6 y7) (laws_FnRainMeasured.j2 (k + 1) y0 y1 y2 y3 y4 y5 y6 y7))
 | 0 => ⟨fun _ _ _ _ _ _ _ _ _ r h => by simp [laws_FnRainMeasured.j0] at h, fun _ r h => by simp [laws_FnRainMeasured.j3] at h, fun _ _ _ _ _ _ r h => by simp [laws_FnRainMeasured.j4] at h, fun _ _ _ _ _ _ _ _ _ _ r h => by simp [laws_FnRainMeasured.j1] at h, fun _ _ _ _ _ _ _ _ r h => by simp [laws_FnRainMeasured.j2] at h⟩
 | k + 1 => by
  obtain ⟨ih0, ih1, ih2, ih3, ih4⟩ := laws_FnRainMeasured.mono_l k
  refine ⟨?_, ?_, ?_, ?_, ?_⟩
  ·intro y0 y1 y2 y3 y4 y5 y6 y7 y8
   unfold laws_FnRainMeasured.j0
   repeat' first
   | (with_reducible exact ih0 _ _ _ _ _ _ _ _ _)
   | (with_reducible exact ih1 _)
   | (with_reducible exact ih2 _ _ _ _ _ _)
   | (with_reducible exact ih3 _ _ _ _ _ _ _ _ _ _)
   | (with_reducible exact ih4 _ _ _ _ _ _ _ _)
   | (with_reducible exact impl_FirstTip.mono _ _ _)
   | (with_reducible exact impl_RainOfTips.mono _ _ _)
   | (with_reducible exact impl_RangeOfTips.mono _ _ _)
   | (with_reducible exact impl_RangeOfTwo.mono _ _ _ _ _)
   | (with_reducible exact impl_RestOfRain.mono _ _ _)
   | (with_reducible exact impl_TipsOfRain.mono _ _ _)
   | (with_reducible exact laws_eSame.mono _ _ _)
   | (with_reducible exact laws_eSum.mono _ _)
   | (with_reducible exact spec_DrawRainOfTips.mono _ _)
   | (with_reducible exact spec_DrawRangeOfTwo.mono _ _)
   | (with_reducible exact spec_DrawTipsOfRain.mono _ _)
   | (with_reducible exact spec_FirstTip.mono _ _ _)
   | (with_reducible exact spec_RainOfTips.mono _ _ _)
   | (with_reducible exact spec_RangeOfTips.mono _ _ _)
   | (with_reducible exact spec_RangeOfTwo.mono _ _ _ _ _)
   | (with_reducible exact spec_RestOfRain.mono _ _ _)
   | (with_reducible exact spec_TipsOfRain.mono _ _ _)
   | (with_reducible exact LeO.refl _)
   | (with_reducible exact LeO.none _)
   | (with_reducible refine LeO.ite ?_ ?_)
   | (with_reducible refine LeO.bind ?_ (fun _ => ?_))
   | exact ih0 _ _ _ _ _ _ _ _ _
   | exact ih1 _
   | exact ih2 _ _ _ _ _ _
   | exact ih3 _ _ _ _ _ _ _ _ _ _
   | exact ih4 _ _ _ _ _ _ _ _
   | exact impl_FirstTip.mono _ _ _
   | exact impl_RainOfTips.mono _ _ _
   | exact impl_RangeOfTips.mono _ _ _
   | exact impl_RangeOfTwo.mono _ _ _ _ _
   | exact impl_RestOfRain.mono _ _ _
   | exact impl_TipsOfRain.mono _ _ _
   | exact laws_eSame.mono _ _ _
   | exact laws_eSum.mono _ _
   | exact spec_DrawRainOfTips.mono _ _
   | exact spec_DrawRangeOfTwo.mono _ _
   | exact spec_DrawTipsOfRain.mono _ _
   | exact spec_FirstTip.mono _ _ _
   | exact spec_RainOfTips.mono _ _ _
   | exact spec_RangeOfTips.mono _ _ _
   | exact spec_RangeOfTwo.mono _ _ _ _ _
   | exact spec_RestOfRain.mono _ _ _
   | exact spec_TipsOfRain.mono _ _ _
   | exact LeO.none _
   | refine LeO.ite ?_ ?_
   | refine LeO.bind ?_ (fun _ => ?_)
  ·intro y0
   unfold laws_FnRainMeasured.j3
   repeat' first
   | (with_reducible exact ih0 _ _ _ _ _ _ _ _ _)
   | (with_reducible exact ih1 _)
   | (with_reducible exact ih2 _ _ _ _ _ _)
   | (with_reducible exact ih3 _ _ _ _ _ _ _ _ _ _)
   | (with_reducible exact ih4 _ _ _ _ _ _ _ _)
   | (with_reducible exact impl_FirstTip.mono _ _ _)
   | (with_reducible exact impl_RainOfTips.mono _ _ _)
   | (with_reducible exact impl_RangeOfTips.mono _ _ _)
   | (with_reducible exact impl_RangeOfTwo.mono _ _ _ _ _)
   | (with_reducible exact impl_RestOfRain.mono _ _ _)
   | (with_reducible exact impl_TipsOfRain.mono _ _ _)
   | (with_reducible exact laws_eSame.mono _ _ _)
   | (with_reducible exact laws_eSum.mono _ _)
   | (with_reducible exact spec_DrawRainOfTips.mono _ _)
   | (with_reducible exact spec_DrawRangeOfTwo.mono _ _)
   | (with_reducible exact spec_DrawTipsOfRain.mono _ _)
   | (with_reducible exact spec_FirstTip.mono _ _ _)
   | (with_reducible exact spec_RainOfTips.mono _ _ _)
   | (with_reducible exact spec_RangeOfTips.mono _ _ _)
   | (with_reducible exact spec_RangeOfTwo.mono _ _ _ _ _)
   | (with_reducible exact spec_RestOfRain.mono _ _ _)
   | (with_reducible exact spec_TipsOfRain.mono _ _ _)
   | (with_reducible exact LeO.refl _)
   | (with_reducible exact LeO.none _)
   | (with_reducible refine LeO.ite ?_ ?_)
   | (with_reducible refine LeO.bind ?_ (fun _ => ?_))
   | exact ih0 _ _ _ _ _ _ _ _ _
   | exact ih1 _
   | exact ih2 _ _ _ _ _ _
   | exact ih3 _ _ _ _ _ _ _ _ _ _
   | exact ih4 _ _ _ _ _ _ _ _
   | exact impl_FirstTip.mono _ _ _
   | exact impl_RainOfTips.mono _ _ _
   | exact impl_RangeOfTips.mono _ _ _
   | exact impl_RangeOfTwo.mono _ _ _ _ _
   | exact impl_RestOfRain.mono _ _ _
   | exact impl_TipsOfRain.mono _ _ _
   | exact laws_eSame.mono _ _ _
   | exact laws_eSum.mono _ _
   | exact spec_DrawRainOfTips.mono _ _
   | exact spec_DrawRangeOfTwo.mono _ _
   | exact spec_DrawTipsOfRain.mono _ _
   | exact spec_FirstTip.mono _ _ _
   | exact spec_RainOfTips.mono _ _ _
   | exact spec_RangeOfTips.mono _ _ _
   | exact spec_RangeOfTwo.mono _ _ _ _ _
   | exact spec_RestOfRain.mono _ _ _
   | exact spec_TipsOfRain.mono _ _ _
   | exact LeO.none _
   | refine LeO.ite ?_ ?_
   | refine LeO.bind ?_ (fun _ => ?_)
  ·intro y0 y1 y2 y3 y4 y5
   unfold laws_FnRainMeasured.j4
   repeat' first
   | (with_reducible exact ih0 _ _ _ _ _ _ _ _ _)
   | (with_reducible exact ih1 _)
   | (with_reducible exact ih2 _ _ _ _ _ _)
   | (with_reducible exact ih3 _ _ _ _ _ _ _ _ _ _)
   | (with_reducible exact ih4 _ _ _ _ _ _ _ _)
   | (with_reducible exact impl_FirstTip.mono _ _ _)
   | (with_reducible exact impl_RainOfTips.mono _ _ _)
   | (with_reducible exact impl_RangeOfTips.mono _ _ _)
   | (with_reducible exact impl_RangeOfTwo.mono _ _ _ _ _)
   | (with_reducible exact impl_RestOfRain.mono _ _ _)
   | (with_reducible exact impl_TipsOfRain.mono _ _ _)
   | (with_reducible exact laws_eSame.mono _ _ _)
   | (with_reducible exact laws_eSum.mono _ _)
   | (with_reducible exact spec_DrawRainOfTips.mono _ _)
   | (with_reducible exact spec_DrawRangeOfTwo.mono _ _)
   | (with_reducible exact spec_DrawTipsOfRain.mono _ _)
   | (with_reducible exact spec_FirstTip.mono _ _ _)
   | (with_reducible exact spec_RainOfTips.mono _ _ _)
   | (with_reducible exact spec_RangeOfTips.mono _ _ _)
   | (with_reducible exact spec_RangeOfTwo.mono _ _ _ _ _)
   | (with_reducible exact spec_RestOfRain.mono _ _ _)
   | (with_reducible exact spec_TipsOfRain.mono _ _ _)
   | (with_reducible exact LeO.refl _)
   | (with_reducible exact LeO.none _)
   | (with_reducible refine LeO.ite ?_ ?_)
   | (with_reducible refine LeO.bind ?_ (fun _ => ?_))
   | exact ih0 _ _ _ _ _ _ _ _ _
   | exact ih1 _
   | exact ih2 _ _ _ _ _ _
   | exact ih3 _ _ _ _ _ _ _ _ _ _
   | exact ih4 _ _ _ _ _ _ _ _
   | exact impl_FirstTip.mono _ _ _
   | exact impl_RainOfTips.mono _ _ _
   | exact impl_RangeOfTips.mono _ _ _
   | exact impl_RangeOfTwo.mono _ _ _ _ _
   | exact impl_RestOfRain.mono _ _ _
   | exact impl_TipsOfRain.mono _ _ _
   | exact laws_eSame.mono _ _ _
   | exact laws_eSum.mono _ _
   | exact spec_DrawRainOfTips.mono _ _
   | exact spec_DrawRangeOfTwo.mono _ _
   | exact spec_DrawTipsOfRain.mono _ _
   | exact spec_FirstTip.mono _ _ _
   | exact spec_RainOfTips.mono _ _ _
   | exact spec_RangeOfTips.mono _ _ _
   | exact spec_RangeOfTwo.mono _ _ _ _ _
   | exact spec_RestOfRain.mono _ _ _
   | exact spec_TipsOfRain.mono _ _ _
   | exact LeO.none _
   | refine LeO.ite ?_ ?_
   | refine LeO.bind ?_ (fun _ => ?_)
  ·intro y0 y1 y2 y3 y4 y5 y6 y7 y8 y9
   unfold laws_FnRainMeasured.j1
   repeat' first
   | (with_reducible exact ih0 _ _ _ _ _ _ _ _ _)
   | (with_reducible exact ih1 _)
   | (with_reducible exact ih2 _ _ _ _ _ _)
   | (with_reducible exact ih3 _ _ _ _ _ _ _ _ _ _)
   | (with_reducible exact ih4 _ _ _ _ _ _ _ _)
   | (with_reducible exact impl_FirstTip.mono _ _ _)
   | (with_reducible exact impl_RainOfTips.mono _ _ _)
   | (with_reducible exact impl_RangeOfTips.mono _ _ _)
   | (with_reducible exact impl_RangeOfTwo.mono _ _ _ _ _)
   | (with_reducible exact impl_RestOfRain.mono _ _ _)
   | (with_reducible exact impl_TipsOfRain.mono _ _ _)
   | (with_reducible exact laws_eSame.mono _ _ _)
   | (with_reducible exact laws_eSum.mono _ _)
   | (with_reducible exact spec_DrawRainOfTips.mono _ _)
   | (with_reducible exact spec_DrawRangeOfTwo.mono _ _)
   | (with_reducible exact spec_DrawTipsOfRain.mono _ _)
   | (with_reducible exact spec_FirstTip.mono _ _ _)
   | (with_reducible exact spec_RainOfTips.mono _ _ _)
   | (with_reducible exact spec_RangeOfTips.mono _ _ _)
   | (with_reducible exact spec_RangeOfTwo.mono _ _ _ _ _)
   | (with_reducible exact spec_RestOfRain.mono _ _ _)
   | (with_reducible exact spec_TipsOfRain.mono _ _ _)
   | (with_reducible exact LeO.refl _)
   | (with_reducible exact LeO.none _)
   | (with_reducible refine LeO.ite ?_ ?_)
   | (with_reducible refine LeO.bind ?_ (fun _ => ?_))
   | exact ih0 _ _ _ _ _ _ _ _ _
   | exact ih1 _
   | exact ih2 _ _ _ _ _ _
   | exact ih3 _ _ _ _ _ _ _ _ _ _
   | exact ih4 _ _ _ _ _ _ _ _
   | exact impl_FirstTip.mono _ _ _
   | exact impl_RainOfTips.mono _ _ _
   | exact impl_RangeOfTips.mono _ _ _
   | exact impl_RangeOfTwo.mono _ _ _ _ _
   | exact impl_RestOfRain.mono _ _ _
   | exact impl_TipsOfRain.mono _ _ _
   | exact laws_eSame.mono _ _ _
   | exact laws_eSum.mono _ _
   | exact spec_DrawRainOfTips.mono _ _
   | exact spec_DrawRangeOfTwo.mono _ _
   | exact spec_DrawTipsOfRain.mono _ _
   | exact spec_FirstTip.mono _ _ _
   | exact spec_RainOfTips.mono _ _ _
   | exact spec_RangeOfTips.mono _ _ _
   | exact spec_RangeOfTwo.mono _ _ _ _ _
   | exact spec_RestOfRain.mono _ _ _
   | exact spec_TipsOfRain.mono _ _ _
   | exact LeO.none _
   | refine LeO.ite ?_ ?_
   | refine LeO.bind ?_ (fun _ => ?_)
  ·intro y0 y1 y2 y3 y4 y5 y6 y7
   unfold laws_FnRainMeasured.j2
   repeat' first
   | (with_reducible exact ih0 _ _ _ _ _ _ _ _ _)
   | (with_reducible exact ih1 _)
   | (with_reducible exact ih2 _ _ _ _ _ _)
   | (with_reducible exact ih3 _ _ _ _ _ _ _ _ _ _)
   | (with_reducible exact ih4 _ _ _ _ _ _ _ _)
   | (with_reducible exact impl_FirstTip.mono _ _ _)
   | (with_reducible exact impl_RainOfTips.mono _ _ _)
   | (with_reducible exact impl_RangeOfTips.mono _ _ _)
   | (with_reducible exact impl_RangeOfTwo.mono _ _ _ _ _)
   | (with_reducible exact impl_RestOfRain.mono _ _ _)
   | (with_reducible exact impl_TipsOfRain.mono _ _ _)
   | (with_reducible exact laws_eSame.mono _ _ _)
   | (with_reducible exact laws_eSum.mono _ _)
   | (with_reducible exact spec_DrawRainOfTips.mono _ _)
   | (with_reducible exact spec_DrawRangeOfTwo.mono _ _)
   | (with_reducible exact spec_DrawTipsOfRain.mono _ _)
   | (with_reducible exact spec_FirstTip.mono _ _ _)
   | (with_reducible exact spec_RainOfTips.mono _ _ _)
   | (with_reducible exact spec_RangeOfTips.mono _ _ _)
   | (with_reducible exact spec_RangeOfTwo.mono _ _ _ _ _)
   | (with_reducible exact spec_RestOfRain.mono _ _ _)
   | (with_reducible exact spec_TipsOfRain.mono _ _ _)
   | (with_reducible exact LeO.refl _)
   | (with_reducible exact LeO.none _)
   | (with_reducible refine LeO.ite ?_ ?_)
   | (with_reducible refine LeO.bind ?_ (fun _ => ?_))
   | exact ih0 _ _ _ _ _ _ _ _ _
   | exact ih1 _
   | exact ih2 _ _ _ _ _ _
   | exact ih3 _ _ _ _ _ _ _ _ _ _
   | exact ih4 _ _ _ _ _ _ _ _
   | exact impl_FirstTip.mono _ _ _
   | exact impl_RainOfTips.mono _ _ _
   | exact impl_RangeOfTips.mono _ _ _
   | exact impl_RangeOfTwo.mono _ _ _ _ _
   | exact impl_RestOfRain.mono _ _ _
   | exact impl_TipsOfRain.mono _ _ _
   | exact laws_eSame.mono _ _ _
   | exact laws_eSum.mono _ _
   | exact spec_DrawRainOfTips.mono _ _
   | exact spec_DrawRangeOfTwo.mono _ _
   | exact spec_DrawTipsOfRain.mono _ _
   | exact spec_FirstTip.mono _ _ _
   | exact spec_RainOfTips.mono _ _ _
   | exact spec_RangeOfTips.mono _ _ _
   | exact spec_RangeOfTwo.mono _ _ _ _ _
   | exact spec_RestOfRain.mono _ _ _
   | exact spec_TipsOfRain.mono _ _ _
   | exact LeO.none _
   | refine LeO.ite ?_ ?_
   | refine LeO.bind ?_ (fun _ => ?_)
theorem laws_FnRainMeasured.mono : ∀ a0 a1 k, LeO (laws_FnRainMeasured.f k a0 a1) (laws_FnRainMeasured.f (k + 1) a0 a1) := by
 intro a0 a1 k
 obtain ⟨ih0, ih1, ih2, ih3, ih4⟩ := laws_FnRainMeasured.mono_l k
 unfold laws_FnRainMeasured.f
 repeat' first
   | (with_reducible exact ih0 _ _ _ _ _ _ _ _ _)
   | (with_reducible exact ih1 _)
   | (with_reducible exact ih2 _ _ _ _ _ _)
   | (with_reducible exact ih3 _ _ _ _ _ _ _ _ _ _)
   | (with_reducible exact ih4 _ _ _ _ _ _ _ _)
   | (with_reducible exact impl_FirstTip.mono _ _ _)
   | (with_reducible exact impl_RainOfTips.mono _ _ _)
   | (with_reducible exact impl_RangeOfTips.mono _ _ _)
   | (with_reducible exact impl_RangeOfTwo.mono _ _ _ _ _)
   | (with_reducible exact impl_RestOfRain.mono _ _ _)
   | (with_reducible exact impl_TipsOfRain.mono _ _ _)
   | (with_reducible exact laws_eSame.mono _ _ _)
   | (with_reducible exact laws_eSum.mono _ _)
   | (with_reducible exact spec_DrawRainOfTips.mono _ _)
   | (with_reducible exact spec_DrawRangeOfTwo.mono _ _)
   | (with_reducible exact spec_DrawTipsOfRain.mono _ _)
   | (with_reducible exact spec_FirstTip.mono _ _ _)
   | (with_reducible exact spec_RainOfTips.mono _ _ _)
   | (with_reducible exact spec_RangeOfTips.mono _ _ _)
   | (with_reducible exact spec_RangeOfTwo.mono _ _ _ _ _)
   | (with_reducible exact spec_RestOfRain.mono _ _ _)
   | (with_reducible exact spec_TipsOfRain.mono _ _ _)
   | (with_reducible exact LeO.refl _)
   | (with_reducible exact LeO.none _)
   | (with_reducible refine LeO.ite ?_ ?_)
   | (with_reducible refine LeO.bind ?_ (fun _ => ?_))
   | exact ih0 _ _ _ _ _ _ _ _ _
   | exact ih1 _
   | exact ih2 _ _ _ _ _ _
   | exact ih3 _ _ _ _ _ _ _ _ _ _
   | exact ih4 _ _ _ _ _ _ _ _
   | exact impl_FirstTip.mono _ _ _
   | exact impl_RainOfTips.mono _ _ _
   | exact impl_RangeOfTips.mono _ _ _
   | exact impl_RangeOfTwo.mono _ _ _ _ _
   | exact impl_RestOfRain.mono _ _ _
   | exact impl_TipsOfRain.mono _ _ _
   | exact laws_eSame.mono _ _ _
   | exact laws_eSum.mono _ _
   | exact spec_DrawRainOfTips.mono _ _
   | exact spec_DrawRangeOfTwo.mono _ _
   | exact spec_DrawTipsOfRain.mono _ _
   | exact spec_FirstTip.mono _ _ _
   | exact spec_RainOfTips.mono _ _ _
   | exact spec_RangeOfTips.mono _ _ _
   | exact spec_RangeOfTwo.mono _ _ _ _ _
   | exact spec_RestOfRain.mono _ _ _
   | exact spec_TipsOfRain.mono _ _ _
   | exact LeO.none _
   | refine LeO.ite ?_ ?_
   | refine LeO.bind ?_ (fun _ => ?_)

end Go.Proofs.Ytmlkdkeocbhajaa.R
