-- Functions of the program as plain functions, and that the calls come to them. Written by a program (ownprint.py); nothing here is trusted: Lean checks it.
import Derived.Test.YtmlkdkeocbhajaaBx0
import Derived.Test.YtmlkdkeocbhajaaBx1
import Derived.Test.YtmlkdkeocbhajaaBx2
namespace Go.Proofs.Ytmlkdkeocbhajaa.B
open Go.RowKit Go.Proofs.YtmlkdkeocbhajaaW.PrintWords Go.Proofs.YtmlkdkeocbhajaaW.PrintLast Go.Proofs.YtmlkdkeocbhajaaW.PrintMore Go.Proofs.Ytmlkdkeocbhajaa.Sq
attribute [local go_sem] max2_int min2_int max_two min_two max_three min_three max_four min_four   -- for this text's walks alone
set_option linter.unusedVariables false
set_option linter.unusedSimpArgs false

/-! ### spec_BackDrops: function 97 -/
def spec_BackDrops.j0 : Nat → List Int → List Int → Int → Bool → Option (List Int × Bool)
 | 0, _, _, _, _ => none
 | k + 1, x0, x1, x2, x17 => if x17 = true then (some (([] : List Int), false)) else ((spec_tbRound.f k x0).bind fun t329 => ((spec_tbNumber.f k x0 x1).bind fun t330 => (if t329 = 0 then (none) else ((spec_tbHeld.f k x0 (wrap64 ((wrap64 (t330 + t329)) - (Int.tmod x2 t329)))).bind fun t331 => (some (t331, true))))))
def spec_BackDrops.f (k : Nat) (l0 : List Int) (l1 : List Int) (a2 : Int) : Option (List Int × Bool) := (spec_tbHolds.f k l0 l1).bind fun t327 => (if t327 = true then ((spec_tbDrops.f a2).bind fun t328 => (spec_BackDrops.j0 k l0 l1 a2 (!t328))) else (spec_BackDrops.j0 k l0 l1 a2 true))
theorem spec_BackDrops.mono_l : ∀ k, (∀ y0 y1 y2 y3, LeO (spec_BackDrops.j0 k y0 y1 y2 y3) (spec_BackDrops.j0 (k + 1) y0 y1 y2 y3))
 | 0 => fun _ _ _ _ r h => by simp [spec_BackDrops.j0] at h
 | k + 1 => by
  have ih0 := spec_BackDrops.mono_l k
  ·intro y0 y1 y2 y3
   unfold spec_BackDrops.j0
   repeat' first
   | (with_reducible exact ih0 _ _ _ _)
   | (with_reducible exact spec_tbHeld.mono _ _ _)
   | (with_reducible exact spec_tbHolds.mono _ _ _)
   | (with_reducible exact spec_tbNumber.mono _ _ _)
   | (with_reducible exact spec_tbRound.mono _ _)
   | (with_reducible exact LeO.refl _)
   | (with_reducible exact LeO.none _)
   | (with_reducible refine LeO.ite ?_ ?_)
   | (with_reducible refine LeO.bind ?_ (fun _ => ?_))
   | exact ih0 _ _ _ _
   | exact spec_tbHeld.mono _ _ _
   | exact spec_tbHolds.mono _ _ _
   | exact spec_tbNumber.mono _ _ _
   | exact spec_tbRound.mono _ _
   | exact LeO.none _
   | refine LeO.ite ?_ ?_
   | refine LeO.bind ?_ (fun _ => ?_)
theorem spec_BackDrops.mono : ∀ a0 a1 a2 k, LeO (spec_BackDrops.f k a0 a1 a2) (spec_BackDrops.f (k + 1) a0 a1 a2) := by
 intro a0 a1 a2 k
 have ih0 := spec_BackDrops.mono_l k
 unfold spec_BackDrops.f
 repeat' first
   | (with_reducible exact ih0 _ _ _ _)
   | (with_reducible exact spec_tbHeld.mono _ _ _)
   | (with_reducible exact spec_tbHolds.mono _ _ _)
   | (with_reducible exact spec_tbNumber.mono _ _ _)
   | (with_reducible exact spec_tbRound.mono _ _)
   | (with_reducible exact LeO.refl _)
   | (with_reducible exact LeO.none _)
   | (with_reducible refine LeO.ite ?_ ?_)
   | (with_reducible refine LeO.bind ?_ (fun _ => ?_))
   | exact ih0 _ _ _ _
   | exact spec_tbHeld.mono _ _ _
   | exact spec_tbHolds.mono _ _ _
   | exact spec_tbNumber.mono _ _ _
   | exact spec_tbRound.mono _ _
   | exact LeO.none _
   | refine LeO.ite ?_ ?_
   | refine LeO.bind ?_ (fun _ => ?_)
def spec_BackDrops.T4 : Bool × List (List Nat × List Nat) := (true, [([], []), ([], []), ([], []), ([1, 2], [1, 2]), ([], []), ([3, 4], [3, 4]), ([], []), ([], []), ([6, 7], [6, 7]), ([5, 8], [5, 8]), ([0, 9, 3], [0, 9]), ([10, 10, 0, 1, 2, 3, 4, 5, 6, 7, 8, 9, 10], [10]), ([11, 0, 1, 2, 3, 4, 5, 6, 7, 8, 9, 10, 11], [])])
def spec_BackDrops.B4 : List Nat := [0, 0, 0, 6, 0, 30, 0, 0, 192, 510, 1023, 2047, 4095]
theorem spec_BackDrops.tab4 : rtab .any (opsOf Try.f97 4) = spec_BackDrops.T4 := by kernel_rfl
theorem spec_BackDrops.bits4 : waitsOk spec_BackDrops.T4.2 spec_BackDrops.B4 = true := by kernel_rfl
set_option maxHeartbeats 8000000 in
set_option maxRecDepth 100000 in
theorem spec_BackDrops.calls (k : Nat) (A0 : Option Addr) (c0 : Nat) (l0 : List Int) (A1 : Option Addr) (c1 : Nat) (l1 : List Int) (a2 : Int) (r1 : List Int) (r2 : Bool) (w : World) (hr0 : Kd.C (Kd.int .i64) w A0 l0.length l0) (hc0 : l0.length ≤ c0) (hr1 : Kd.C (Kd.int .i64) w A1 l1.length l1) (hc1 : l1.length ≤ c1) (h : spec_BackDrops.f k l0 l1 a2 = some (r1, r2)) :
  Calls Try.prog 97 #[.slice A0 l0.length c0, .slice A1 l1.length c1, .int .i64 a2] w fun e w' => ∃ v0_ : Value, e = .returned (.tuple #[v0_, .bool r2]) ∧ Kd.R (Kd.int .i64) 3 w' w.heap.size (fun _ => True) v0_ r1 ∧ Below w.heap.size w w' := by
 have HR0 := Aside0.mk hr0
 have HC0 := Aside0.mk hc0
 clear hr0 hc0
 have HR1 := Aside0.mk hr1
 have HC1 := Aside0.mk hc1
 clear hr1 hc1
 have HB := Aside0.mk (Below.refl w.heap.size w)
 have H : ((spec_tbHolds.f k l0 l1).bind fun t327 => (if t327 = true then ((spec_tbDrops.f a2).bind fun t328 => (spec_BackDrops.j0 k l0 l1 a2 (!t328))) else (spec_BackDrops.j0 k l0 l1 a2 true))) = some (r1, r2) := h
 clear h
 have HC4 := Aside0.mk H
 clear H
 go_enter Try.func97, Try.ntmps97
 go_upto_region 1 with (fail)
 go_cut [17] (fun v17 wc => ∃ (kq : Nat) (x17_3 : Bool), v17 = .bool x17_3 ∧ Aside0 (spec_BackDrops.j0 kq l0 l1 a2 x17_3 = some (r1, r2)) ∧ Aside0 (kq ≤ k) ∧ Aside0 (Below w.heap.size w wc))
 case first =>
  have H := HC4.out
  clear HC4
  replace H := Option.bind_eq_some_iff.mp H
  obtain ⟨t327, A50, H⟩ := H
  replace H : (if t327 = true then ((spec_tbDrops.f a2).bind fun t328 => (spec_BackDrops.j0 k l0 l1 a2 (!t328))) else (spec_BackDrops.j0 k l0 l1 a2 true)) = some (r1, r2) := H
  have A5 := Aside0.mk A50
  clear A50
  by_cases c6 : t327 = true
  rotate_left
  ·replace c6 := Bool.eq_false_iff.mpr c6
   subst c6
   have H1 : (spec_BackDrops.j0 k l0 l1 a2 true) = some (r1, r2) := by rw [if_neg (show ¬ (false = true) by decide)] at H; exact H
   clear H
   have H := H1
   clear H1
   have H' := Aside0.mk H
   clear H
   go_wp2_with (first | ((with_reducible refine gate_callee (f := 202) rfl ?_); refine gl 11 Try.func202 #[.slice A0 l0.length c0, .slice A1 l1.length c1] ?_; (with_reducible refine (spec_tbHolds.calls k _ _ l0 _ _ l1 false _ ?side1 ?side2 ?side3 ?side4 A5.out).mono ?_); (case side1 => exact ck HR0 HB); (case side2 => exact HC0.out); (case side3 => exact ck HR1 HB); (case side4 => exact HC1.out); rintro e w' ⟨rfl, ⟨nd, rfl⟩⟩; refine ⟨_, rfl, ?_⟩))
   go_meet
   case rel => exact ⟨_, (true), (by first | rfl | (simp; done) | (simp [*]; done)), H', ⟨by first | omega | exact Nat.le_refl _⟩, ⟨bw HB⟩⟩
  subst c6
  have H1 : ((spec_tbDrops.f a2).bind fun t328 => (spec_BackDrops.j0 k l0 l1 a2 (!t328))) = some (r1, r2) := by rw [if_pos rfl] at H; exact H
  clear H
  have H := H1
  clear H1
  replace H := Option.bind_eq_some_iff.mp H
  obtain ⟨t328, A70, H⟩ := H
  replace H : (spec_BackDrops.j0 k l0 l1 a2 (!t328)) = some (r1, r2) := H
  have A7 := Aside0.mk A70
  clear A70
  have H' := Aside0.mk H
  clear H
  go_wp2_with (first | ((with_reducible refine gate_callee (f := 202) rfl ?_); refine gl 11 Try.func202 #[.slice A0 l0.length c0, .slice A1 l1.length c1] ?_; (with_reducible refine (spec_tbHolds.calls k _ _ l0 _ _ l1 true _ ?side1 ?side2 ?side3 ?side4 A5.out).mono ?_); (case side1 => exact ck HR0 HB); (case side2 => exact HC0.out); (case side3 => exact ck HR1 HB); (case side4 => exact HC1.out); rintro e w' ⟨rfl, ⟨nd, rfl⟩⟩; refine ⟨_, rfl, ?_⟩) | (go_at_call 193; (with_reducible refine (spec_tbDrops.calls a2 t328 _ A7.out).mono ?_); rintro e w' ⟨rfl, ⟨nd, rfl⟩⟩))
  go_meet
  case rel => exact ⟨_, (!t328), (by first | rfl | (simp; done) | (simp [*]; done)), H', ⟨by first | omega | exact Nat.le_refl _⟩, ⟨bw HB⟩⟩
 case rest =>
  clear HC4
  try clear c1
  try clear c2
  try clear p2
  try clear c6
  obtain ⟨kq, x17_3, rfl, HA, HJ3, HB⟩ := hcut
  cases kq with
  | zero => exact absurd HA.out (by simp [spec_BackDrops.j0])
  | succ kj3 =>
   have H := HA.out
   clear HA
   simp only [spec_BackDrops.j0] at H
   by_cases c8 : x17_3 = true
   ·subst c8
    have H1 : (some (([] : List Int), false)) = some (r1, r2) := by rw [if_pos rfl] at H; exact H
    clear H
    have H := H1
    clear H1
    simp only [Option.some.injEq, Prod.mk.injEq] at H
    obtain ⟨rfl, rfl⟩ := H
    go_wp2
    go_ret2
    exact ⟨_, by first | rfl | (simp [errW_none, errW_some] <;> rfl) | (simp [*, errW_none, errW_some] <;> rfl), by first | exact Kd.R_nil _ _ _ _ _ | exact Kd.N_nil _ _ _ _ _ | exact Kd.V_nil _ _ _ _ _ | exact Kd.Q_nil _ _ _ _ _ | exact Kd.S_nil _ _ _ _ _, bw HB⟩
   replace c8 := Bool.eq_false_iff.mpr c8
   subst c8
   have H1 : ((spec_tbRound.f kj3 l0).bind fun t329 => ((spec_tbNumber.f kj3 l0 l1).bind fun t330 => (if t329 = 0 then (none) else ((spec_tbHeld.f kj3 l0 (wrap64 ((wrap64 (t330 + t329)) - (Int.tmod a2 t329)))).bind fun t331 => (some (t331, true)))))) = some (r1, r2) := by rw [if_neg (show ¬ (false = true) by decide)] at H; exact H
   clear H
   have H := H1
   clear H1
   replace H := Option.bind_eq_some_iff.mp H
   obtain ⟨t329, A90, H⟩ := H
   replace H : ((spec_tbNumber.f kj3 l0 l1).bind fun t330 => (if t329 = 0 then (none) else ((spec_tbHeld.f kj3 l0 (wrap64 ((wrap64 (t330 + t329)) - (Int.tmod a2 t329)))).bind fun t331 => (some (t331, true))))) = some (r1, r2) := H
   have A9 := Aside0.mk A90
   clear A90
   replace H := Option.bind_eq_some_iff.mp H
   obtain ⟨t330, A100, H⟩ := H
   replace H : (if t329 = 0 then (none) else ((spec_tbHeld.f kj3 l0 (wrap64 ((wrap64 (t330 + t329)) - (Int.tmod a2 t329)))).bind fun t331 => (some (t331, true)))) = some (r1, r2) := H
   have A10 := Aside0.mk A100
   clear A100
   by_cases c11 : t329 = 0
   ·rw [if_pos c11] at H
    exact absurd H (by simp)
   rw [if_neg c11] at H
   have c11b0 : (t329 == 0) = false := beq_eq_false_iff_ne.mpr c11
   have c11b1 : (t329 != 0) = true := bne_iff_ne.mpr c11
   replace H := Option.bind_eq_some_iff.mp H
   obtain ⟨t331, A120, H⟩ := H
   replace H : (some (t331, true)) = some (r1, r2) := H
   have A12 := Aside0.mk A120
   clear A120
   simp only [Option.some.injEq, Prod.mk.injEq] at H
   obtain ⟨rfl, rfl⟩ := H
   try go_wp2_with (first | ((with_reducible refine gate_callee (f := 196) rfl ?_); refine gl 19 Try.func196 #[.slice A0 l0.length c0] ?_; (with_reducible refine (spec_tbRound.calls kj3 _ _ l0 t329 _ ?side1 ?side2 A9.out).mono ?_); (case side1 => exact ck HR0 HB); (case side2 => exact HC0.out); rintro e w' ⟨rfl, ⟨nd, rfl⟩⟩; refine ⟨_, rfl, ?_⟩))
   (try (rw [drewN_self wc]; generalize hq_ : World.drewN wc _ = wc; have n0_ : Aside0 (Below w.heap.size w wc) := ⟨by rw [← hq_]; exact (bw HB)⟩; clear HB hq_; have HB := n0_; clear n0_))
   replace HB := Aside0.mk (below_drew1 HB.out)
   refine start_ (n := 13) (S := fun w' => True) (ds := []) (bl 13 0) (by kernel_rfl) rfl rfl trivial (fun hHeld => ?_); refine with_tabW spec_BackDrops.tab4 spec_BackDrops.bits4 (fun HT_ HW_ => ?_)
   generalize wc.drew = w13 at HB hHeld ⊢
   refine pu 0 20 (bl 13 1) HT_.out (v := ?_) (a' := ?_) ?_ ?_ ?_
   rotate_left
   ·intro w'
    go_simp
    with_reducible rfl
   rotate_left
   ·simp only [Act.put, List.setIfInBounds_toArray, List.set_cons_zero, List.set_cons_succ, i64_w, i32_w]
    rfl
   refine pu 1 21 (bl 13 3) HT_.out (v := ?_) (a' := ?_) ?_ ?_ ?_
   rotate_left
   ·intro w'
    go_simp
    with_reducible rfl
   rotate_left
   ·simp only [Act.put, List.setIfInBounds_toArray, List.set_cons_zero, List.set_cons_succ, i64_w, i32_w]
    rfl
   refine pu 2 22 (bl 13 7) HT_.out (v := ?_) (a' := ?_) ?_ ?_ ?_
   rotate_left
   ·intro w'
    go_simp
    with_reducible rfl
   rotate_left
   ·simp only [Act.put, List.setIfInBounds_toArray, List.set_cons_zero, List.set_cons_succ, i64_w, i32_w]
    rfl
   refine pu 4 24 (bl 13 23) HT_.out (v := ?_) (a' := ?_) ?_ ?_ ?_
   rotate_left
   ·intro w'
    go_simp
    with_reducible rfl
   rotate_left
   ·simp only [Act.put, List.setIfInBounds_toArray, List.set_cons_zero, List.set_cons_succ, i64_w, i32_w]
    rfl
   refine pu 6 26 (bl 13 87) HT_.out (v := ?_) (a' := ?_) ?_ ?_ ?_
   rotate_left
   ·intro w'
    go_simp
    with_reducible rfl
   rotate_left
   ·simp only [Act.put, List.setIfInBounds_toArray, List.set_cons_zero, List.set_cons_succ, i64_w, i32_w]
    rfl
   refine pu 7 27 (bl 13 215) HT_.out (v := ?_) (a' := ?_) ?_ ?_ ?_
   rotate_left
   ·intro w'
    go_simp
    with_reducible rfl
   rotate_left
   ·simp only [Act.put, List.setIfInBounds_toArray, List.set_cons_zero, List.set_cons_succ, i64_w, i32_w]
    rfl
   refine pu 8 28 (bl 13 471) HT_.out (v := ?_) (a' := ?_) ?_ ?_ ?_
   rotate_left
   ·intro w'
    go_simp
    with_reducible rfl
   rotate_left
   ·simp only [Act.put, List.setIfInBounds_toArray, List.set_cons_zero, List.set_cons_succ, i64_w, i32_w]
    rfl
   refine on 3 23 (bl 13 479) HT_.out (fun K hK => ?_)
   refine gs Try.func203 #[.slice A0 l0.length c0, .slice A1 l1.length c1] ?_
   with_reducible refine (spec_tbNumber.calls kj3 _ _ l0 _ _ l1 t330 _ ?side1 ?side2 ?side3 ?side4 A10.out).mono ?_
   (case side1 => exact ck HR0 HB)
   (case side2 => exact HC0.out)
   (case side3 => exact ck HR1 HB)
   (case side4 => exact HC1.out)
   rintro e w' ⟨rfl, ⟨nd, rfl⟩⟩
   refine ⟨_, rfl, ?_⟩
   refine hK.out _ _ trivial (fun hHeld => ?_)
   clear hK K
   refine norm_ (a' := ?_) ?_ ?_
   rotate_left
   ·show Act.put _ (some 23) _ = _
    simp only [Act.put, List.setIfInBounds_toArray, List.set_cons_zero, List.set_cons_succ, i64_w, i32_w]
    rfl
   refine pu 5 25 (bl 13 511) HT_.out (v := ?_) (a' := ?_) ?_ ?_ ?_
   rotate_left
   ·intro w'
    go_simp
    with_reducible rfl
   rotate_left
   ·simp only [Act.put, List.setIfInBounds_toArray, List.set_cons_zero, List.set_cons_succ, i64_w, i32_w]
    rfl
   refine pu 9 29 (bl 13 1023) HT_.out (v := ?_) (a' := ?_) ?_ ?_ ?_
   rotate_left
   ·intro w'
    go_simp
    with_reducible rfl
   rotate_left
   ·simp only [Act.put, List.setIfInBounds_toArray, List.set_cons_zero, List.set_cons_succ, i64_w, i32_w]
    rfl
   refine on 10 30 (bl 13 2047) HT_.out (fun K hK => ?_)
   refine gs Try.func194 #[.slice A0 l0.length c0, .int .i64 (wrap64 ((wrap64 (t330 + t329)) - (Int.tmod a2 t329)))] ?_
   with_reducible refine (spec_tbHeld.calls kj3 _ _ l0 (wrap64 ((wrap64 (t330 + t329)) - (Int.tmod a2 t329))) t331 _ ?side1 ?side2 A12.out).mono ?_
   (case side1 => repeat (first | exact (Kd.C_below HR0.out (bw HB)) | (with_reducible refine Kd.C_alloc ?_ _) | (with_reducible refine Kd.C_drewN ?_ _) | (with_reducible refine Kd.C_drew ?_)))
   (case side2 => exact HC0.out)
   rintro e w14 ⟨v332, rfl, ho0, hb⟩
   refine ⟨_, rfl, ?_⟩
   have HO333 := lo ho0 HB
   replace HB := bs HB hb
   (try clear hb)
   (try clear hb2)
   (try clear hk)
   (try clear hi)
   (try clear ho0)
   refine hK.out _ _ trivial (fun hHeld => ?_)
   clear hK K
   refine norm_ (a' := ?_) ?_ ?_
   rotate_left
   ·show Act.put _ (some 30) _ = _
    simp only [Act.put, List.setIfInBounds_toArray, List.set_cons_zero, List.set_cons_succ, i64_w, i32_w]
    rfl
   refine pu 11 6 (bl 13 4095) HT_.out (v := ?_) (a' := ?_) ?_ ?_ ?_
   rotate_left
   ·intro w'
    go_simp
    with_reducible rfl
   rotate_left
   ·simp only [Act.put, List.setIfInBounds_toArray, List.set_cons_zero, List.set_cons_succ, i64_w, i32_w]
    rfl
   refine pu 12 7 (bl 13 8191) HT_.out (v := ?_) (a' := ?_) ?_ ?_ ?_
   rotate_left
   ·intro w'
    go_simp
    with_reducible rfl
   rotate_left
   ·simp only [Act.put, List.setIfInBounds_toArray, List.set_cons_zero, List.set_cons_succ, i64_w, i32_w]
    rfl
   refine done_ (done_of HT_.out (by kernel_rfl)) ?_
   try go_wp2
   go_ret2
   exact ⟨_, by first | rfl | (simp [errW_none, errW_some] <;> rfl) | (simp [*, errW_none, errW_some] <;> rfl), rk HO333, bw HB⟩

end Go.Proofs.Ytmlkdkeocbhajaa.B
