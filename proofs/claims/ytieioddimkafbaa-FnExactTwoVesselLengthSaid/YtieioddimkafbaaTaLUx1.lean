-- Functions of the program as plain functions, and that the calls come to them. Written by a program (ownprint.py); nothing here is trusted: Lean checks it.
import Derived.Test.YtieioddimkafbaaTaVx
import Derived.Test.YtieioddimkafbaaTaVsU
import Derived.Test.YtieioddimkafbaaTaViA
namespace Go.Proofs.Ytieioddimkafbaa.V
open Go.RowKit Go.Proofs.YtieioddimkafbaaW.PrintWords Go.Proofs.YtieioddimkafbaaW.PrintLast Go.Proofs.YtieioddimkafbaaW.PrintMore Go.Proofs.Ytieioddimkafbaa.Sq
attribute [local go_sem] max2_int min2_int max_two min_two max_three min_three max_four min_four   -- for this text's walks alone
set_option linter.unusedVariables false
set_option linter.unusedSimpArgs false
def impl_TwoVesselPlan.f (k : Nat) (a0 : Int) (a1 : Int) (a2 : Int) : Option ((List (S55)) × Bool) := (impl_PlanToAmount.f k (([a0, a1] : List Int)) (([0, 0] : List Int)) a2 false).bind fun bt126 => (some (bt126.1, bt126.2))
set_option maxHeartbeats 8000000 in
set_option maxRecDepth 100000 in
theorem impl_TwoVesselPlan.calls (k : Nat) (a0 : Int) (a1 : Int) (a2 : Int) (r1 : List (S55)) (r2 : Bool) (w : World) (h : impl_TwoVesselPlan.f k a0 a1 a2 = some (r1, r2)) :
  Calls Try.prog 14 #[.int .i64 a0, .int .i64 a1, .int .i64 a2] w fun e w' => ∃ v0_ : Value, e = .returned (.tuple #[v0_, .bool r2]) ∧ Kd.R k55 55 w' w.heap.size (fun _ => True) v0_ r1 ∧ Below w.heap.size w w' := by
 have hu35 := Try.underlying35
 have HB := Aside0.mk (Below.refl w.heap.size w)
 have H : ((impl_PlanToAmount.f k (([a0, a1] : List Int)) (([0, 0] : List Int)) a2 false).bind fun bt126 => (some (bt126.1, bt126.2))) = some (r1, r2) := h
 clear h
 obtain ⟨y120, hy120⟩ : ∃ y_ : List Int, y_ = (([a0, a1] : List Int)) := ⟨_, rfl⟩
 replace H : ((impl_PlanToAmount.f k y120 (([0, 0] : List Int)) a2 false).bind fun bt126 => (some (bt126.1, bt126.2))) = some (r1, r2) := by first | (rw [hy120]; with_reducible exact H) | (have H2_ := (Option.bind_some _ _).symm.trans H; rw [hy120]; with_reducible exact H2_) | (have H2_ := (Option.bind_some _ _).symm.trans H; with_reducible exact H2_) | with_reducible exact H | (rw [hy120]; exact H) | exact H
 have Ny120 := Aside0.mk hy120
 clear hy120
 obtain ⟨y123, hy123⟩ : ∃ y_ : List Int, y_ = (([0, 0] : List Int)) := ⟨_, rfl⟩
 replace H : ((impl_PlanToAmount.f k y120 y123 a2 false).bind fun bt126 => (some (bt126.1, bt126.2))) = some (r1, r2) := by first | (rw [hy123]; with_reducible exact H) | (have H2_ := (Option.bind_some _ _).symm.trans H; rw [hy123]; with_reducible exact H2_) | (have H2_ := (Option.bind_some _ _).symm.trans H; with_reducible exact H2_) | with_reducible exact H | (rw [hy123]; exact H) | exact H
 have Ny123 := Aside0.mk hy123
 clear hy123
 replace H := Option.bind_eq_some_iff.mp H
 obtain ⟨⟨t126, t129⟩, A40, H⟩ := H
 (try dsimp only at H)
 have A4 := Aside0.mk A40
 clear A40
 simp only [Option.some.injEq, Prod.mk.injEq] at H
 obtain ⟨rfl, rfl⟩ := H
 go_enter Try.func14, Try.ntmps14
 go_wp2_with (first | ((with_reducible refine gate_dst (N := 10) rfl ?_); refine Kd.R_lit (Kd.int .i64) _ 3 ?hg (N := 10) ?hd (xs := ([a0, a1] : List Int)) (inner := [.int .i64 a0, .int .i64 a1]) (ok := fun _ => True) (okp := fun _ => True) ?hr ?hp (fun _ hk => hk) trivial (Below.refl _ _) (Nat.le_refl _) (by simp) ?_; (case hd => rfl); (case hg => rfl); (case hr => first | (go_simp; done) | (go_simp; rfl)); (case hp => exact (Reps.one (show Kd.M (Kd.int .i64) _ _ _ a0 [.int .i64 a0] from rfl) (Reps.one (show Kd.M (Kd.int .i64) _ _ _ a1 [.int .i64 a1] from rfl) (Reps.none _ _)))); intro v121 w5 ho6 hb hg_ hnew_; clear hg_ hnew_; (first | rw [← Ny120.out] at ho6 | (simp only [Int.reduceToNat] at ho6; rw [← Ny120.out] at ho6)); have HO122 := lo ho6 HB; replace HB := bs HB hb; clear hb ho6) | ((with_reducible refine gate_dst (N := 11) rfl ?_); refine Kd.R_lit (Kd.int .i64) _ 3 ?hg (N := 11) ?hd (xs := ([0, 0] : List Int)) (inner := [.int .i64 0, .int .i64 0]) (ok := fun _ => True) (okp := fun _ => True) ?hr ?hp (fun _ hk => hk) trivial (Below.refl _ _) (Nat.le_refl _) (by simp) ?_; (case hd => rfl); (case hg => rfl); (case hr => first | (go_simp; done) | (go_simp; rfl)); (case hp => exact (Reps.one (show Kd.M (Kd.int .i64) _ _ _ 0 [.int .i64 0] from rfl) (Reps.one (show Kd.M (Kd.int .i64) _ _ _ 0 [.int .i64 0] from rfl) (Reps.none _ _)))); intro v124 w7 ho8 hb hg_ hnew_; clear hg_ hnew_; (first | rw [← Ny123.out] at ho8 | (simp only [Int.reduceToNat] at ho8; rw [← Ny123.out] at ho8)); have HO125 := Aside0.mk (Kd.R_lower (Kd.R_new' ho8 (Kd.R_lt (rk HO122))) (below_size (bw HB))); replace HO122 := Aside0.mk (Kd.R_elder' (rk HO122) (Kd.R_base ho8) hb); replace HB := bs HB hb; clear hb ho8; obtain ⟨Ao9, co9, eo9⟩ := Kd.R_slice HO125.out; subst eo9; obtain ⟨Ao10, co10, eo10⟩ := Kd.R_slice HO122.out; subst eo10) | ((with_reducible refine gate_callee (f := 21) rfl ?_); refine gl 14 Try.func21 #[.agg #[.slice Ao10 y120.length co10, .slice Ao9 y123.length co9], .int .i64 a2, .bool false] ?_; (with_reducible refine (impl_PlanToAmount.calls k _ _ y120 _ _ y123 a2 false t126 t129 _ ?side1 ?side2 ?side3 ?side4 A4.out).mono ?_); (case side1 => exact cr HO122); (case side2 => exact (Kd.R_reads' HO122.out).2.1); (case side3 => exact cr HO125); (case side4 => exact (Kd.R_reads' HO125.out).2.1); rintro e w11 ⟨v127, rfl, ho0, hb⟩; refine ⟨_, rfl, ?_⟩; replace HO122 := rb HO122 hb; replace HO125 := rb HO125 hb; have HO128 := lo ho0 HB; replace HB := bs HB hb; (try clear hb); (try clear ho0)))
 go_ret2
 exact ⟨_, by first | rfl | (simp [errW_none, errW_some] <;> rfl) | (simp [*, errW_none, errW_some] <;> rfl), rk HO128, bw HB⟩
mutual
def laws_FnExactTwoVesselPlan.j0 : Nat → Int → Int → Int → List (S55) → Bool → List (S55) → Bool → Option (Bool)
 | 0, _, _, _, _, _, _, _ => none
 | k + 1, x0, x1, x2, x7, x8, x9, x37 => if x37 = true then (some false) else ((laws_markMoveS.f k x9 1).bind fun bt139 => ((laws_heldMoveS.f k bt139.2 1).bind fun t141 => (if t141 < 0 then (some false) else (if t141 = bt139.1 then ((impl_TwoVesselPlan.f k x0 x1 x2).bind fun bt142 => ((laws_eqMoveS.f k bt142.1 x7).bind fun t146 => (if t146 = true then (laws_FnExactTwoVesselPlan.j1 k bt139.2 bt139.1 (bt142.2 != x8)) else (laws_FnExactTwoVesselPlan.j1 k bt139.2 bt139.1 true)))) else (some false)))))
def laws_FnExactTwoVesselPlan.j1 : Nat → List (S55) → Int → Bool → Option (Bool)
 | 0, _, _, _ => none
 | k + 1, x9, x11, x64 => if x64 = true then (some false) else ((laws_heldMoveS.f k x9 1).bind fun t147 => (if t147 < 0 then (some false) else (if t147 = x11 then (some true) else (some false))))
end
def laws_FnExactTwoVesselPlan.f (k : Nat) (a0 : Int) (a1 : Int) (a2 : Int) : Option (Bool) := (spec_TwoVesselPlan.f k a0 a1 a2).bind fun bt130 => ((impl_TwoVesselPlan.f k a0 a1 a2).bind fun bt134 => ((laws_eqMoveS.f k bt134.1 bt130.1).bind fun t138 => (if t138 = true then (laws_FnExactTwoVesselPlan.j0 k a0 a1 a2 bt130.1 bt130.2 bt134.1 (bt134.2 != bt130.2)) else (laws_FnExactTwoVesselPlan.j0 k a0 a1 a2 bt130.1 bt130.2 bt134.1 true))))
set_option maxHeartbeats 8000000 in
set_option maxRecDepth 100000 in
theorem laws_FnExactTwoVesselPlan.calls (k : Nat) (a0 : Int) (a1 : Int) (a2 : Int) (r : Bool) (w : World) (hrt : Aside0 (r = true)) (h : laws_FnExactTwoVesselPlan.f k a0 a1 a2 = some r) :
  Calls Try.prog 4 #[.int .i64 a0, .int .i64 a1, .int .i64 a2] w fun e w' => e = .returned (.bool r) ∧ Below w.heap.size w w' := by
 have HB := Aside0.mk (Below.refl w.heap.size w)
 have H : ((spec_TwoVesselPlan.f k a0 a1 a2).bind fun bt130 => ((impl_TwoVesselPlan.f k a0 a1 a2).bind fun bt134 => ((laws_eqMoveS.f k bt134.1 bt130.1).bind fun t138 => (if t138 = true then (laws_FnExactTwoVesselPlan.j0 k a0 a1 a2 bt130.1 bt130.2 bt134.1 (bt134.2 != bt130.2)) else (laws_FnExactTwoVesselPlan.j0 k a0 a1 a2 bt130.1 bt130.2 bt134.1 true))))) = some r := h
 clear h
 replace H := Option.bind_eq_some_iff.mp H
 obtain ⟨⟨t130, t131⟩, A40, H⟩ := H
 (try dsimp only at H)
 have A4 := Aside0.mk A40
 clear A40
 replace H := Option.bind_eq_some_iff.mp H
 obtain ⟨⟨t134, t135⟩, A50, H⟩ := H
 (try dsimp only at H)
 have A5 := Aside0.mk A50
 clear A50
 have HC6 := Aside0.mk H
 clear H
 go_enter Try.func4, Try.ntmps4
 go_upto_region 3 with (first | ((with_reducible refine gate_callee (f := 13) rfl ?_); refine gl 19 Try.func13 #[.int .i64 a0, .int .i64 a1, .int .i64 a2] ?_; (with_reducible refine (spec_TwoVesselPlan.calls k a0 a1 a2 t130 t131 _ A4.out).mono ?_); rintro e w7 ⟨v132, rfl, ho0, hb⟩; refine ⟨_, rfl, ?_⟩; have HO133 := lo ho0 HB; replace HB := bs HB hb; (try clear hb); (try clear ho0)) | ((with_reducible refine gate_callee (f := 14) rfl ?_); refine gl 26 Try.func14 #[.int .i64 a0, .int .i64 a1, .int .i64 a2] ?_; (with_reducible refine (impl_TwoVesselPlan.calls k a0 a1 a2 t134 t135 _ A5.out).mono ?_); rintro e w8 ⟨v136, rfl, ho0, hb⟩; refine ⟨_, rfl, ?_⟩; have HO137 := Aside0.mk (Kd.R_lower (Kd.R_new' ho0 (Kd.R_lt (rk HO133))) (below_size (bw HB))); replace HO133 := Aside0.mk (Kd.R_elder' (rk HO133) (Kd.R_base ho0) hb); replace HB := bs HB hb; (try clear hb); (try clear ho0)))
 (try simp only [Act.put, List.setIfInBounds_toArray, List.set_cons_zero, List.set_cons_succ])
 go_cut [37] (fun v37 wc => ∃ (kq : Nat) (x37_5 : Bool), v37 = .bool x37_5 ∧ Aside0 (laws_FnExactTwoVesselPlan.j0 kq a0 a1 a2 t130 t131 t134 x37_5 = some r) ∧ Aside0 (kq ≤ k) ∧ Aside0 (Kd.R k55 55 wc w.heap.size (fun k_ => some k_ ≠ (v136 : Value).ownBlock) v132 t130) ∧ Aside0 (Kd.R k55 55 wc w.heap.size (fun k_ => some k_ ≠ (v132 : Value).ownBlock) v136 t134) ∧ Aside0 (Below w.heap.size w wc))
 case first =>
  have H := HC6.out
  clear HC6
  replace H := Option.bind_eq_some_iff.mp H
  obtain ⟨t138, A90, H⟩ := H
  (try dsimp only at H)
  have A9 := Aside0.mk A90
  clear A90
  by_cases c10 : t138 = true
  rotate_left
  ·replace c10 := Bool.eq_false_iff.mpr c10
   subst c10
   have H1 : (laws_FnExactTwoVesselPlan.j0 k a0 a1 a2 t130 t131 t134 true) = some r := by rw [if_neg (show ¬ (false = true) by decide)] at H; exact H
   clear H
   have H := H1
   clear H1
   exact absurd H (by rw [hrt.out]; cases k <;> simp [laws_FnExactTwoVesselPlan.j0])
  subst c10
  have H1 : (laws_FnExactTwoVesselPlan.j0 k a0 a1 a2 t130 t131 t134 (t135 != t131)) = some r := by rw [if_pos rfl] at H; exact H
  clear H
  have H := H1
  clear H1
  have H' := Aside0.mk H
  clear H
  obtain ⟨Ao11, co11, eo11⟩ := Kd.R_slice HO137.out
  subst eo11
  obtain ⟨Ao12, co12, eo12⟩ := Kd.R_slice HO133.out
  subst eo12
  go_wp2_with (first | ((with_reducible refine gate_callee (f := 15) rfl ?_); refine gl 31 Try.func15 #[.slice Ao11 t134.length co11, .slice Ao12 t130.length co12] ?_; (with_reducible refine (laws_eqMoveS.calls k _ _ t134 _ _ t130 true _ ?side1 ?side2 ?side3 ?side4 A9.out).mono ?_); (case side1 => exact cr HO137); (case side2 => exact (Kd.R_reads' HO137.out).2.1); (case side3 => exact cr HO133); (case side4 => exact (Kd.R_reads' HO133.out).2.1); rintro e w13 ⟨rfl, hb⟩; refine ⟨_, rfl, ?_⟩; replace HO133 := rb HO133 hb; replace HO137 := rb HO137 hb; replace HB := bs HB hb; (try clear hb)))
  go_meet
  case rel => exact ⟨_, ((t135 != t131)), (by first | rfl | (simp; done) | (simp [*]; done)), H', ⟨by first | omega | exact Nat.le_refl _⟩, ⟨by exact Kd.R_mono HO133.out (fun _ hk => hk.2)⟩, ⟨by exact Kd.R_mono HO137.out (fun _ hk => hk.2)⟩, ⟨bw HB⟩⟩
 case rest =>
  clear HC6
  try clear c1
  try clear p2
  try clear c4
  try clear c10
  try clear c13
  obtain ⟨kq, x37_5, rfl, HA, HJ5, HO_7, HO_9, HB⟩ := hcut
  cases kq with
  | zero => exact absurd HA.out (by simp [laws_FnExactTwoVesselPlan.j0])
  | succ kj5 =>
   have H := HA.out
   clear HA
   simp only [laws_FnExactTwoVesselPlan.j0] at H
   by_cases c14 : x37_5 = true
   ·subst c14
    have H1 : (some false) = some r := by rw [if_pos rfl] at H; exact H
    clear H
    have H := H1
    clear H1
    exact absurd ((Option.some.inj H).trans hrt.out) (by decide)
   replace c14 := Bool.eq_false_iff.mpr c14
   subst c14
   have H1 : ((laws_markMoveS.f kj5 t134 1).bind fun bt139 => ((laws_heldMoveS.f kj5 bt139.2 1).bind fun t141 => (if t141 < 0 then (some false) else (if t141 = bt139.1 then ((impl_TwoVesselPlan.f kj5 a0 a1 a2).bind fun bt142 => ((laws_eqMoveS.f kj5 bt142.1 t130).bind fun t146 => (if t146 = true then (laws_FnExactTwoVesselPlan.j1 kj5 bt139.2 bt139.1 (bt142.2 != t131)) else (laws_FnExactTwoVesselPlan.j1 kj5 bt139.2 bt139.1 true)))) else (some false))))) = some r := by rw [if_neg (show ¬ (false = true) by decide)] at H; exact H
   clear H
   have H := H1
   clear H1
   replace H := Option.bind_eq_some_iff.mp H
   obtain ⟨⟨t139, t140⟩, A150, H⟩ := H
   (try dsimp only at H)
   have A15 := Aside0.mk A150
   clear A150
   replace H := Option.bind_eq_some_iff.mp H
   obtain ⟨t141, A160, H⟩ := H
   (try dsimp only at H)
   have A16 := Aside0.mk A160
   clear A160
   by_cases c17 : t141 < 0
   ·rw [if_pos c17] at H
    have c17b0 : decide (t141 < 0) = true := decide_eq_true c17
    clear c17
    exact absurd ((Option.some.inj H).trans hrt.out) (by decide)
   rw [if_neg c17] at H
   have c17b0 : decide (t141 < 0) = false := decide_eq_false c17
   clear c17
   by_cases c18 : t141 = t139
   rotate_left
   ·rw [if_neg c18] at H
    have c18b0 : (t141 == t139) = false := beq_eq_false_iff_ne.mpr c18
    have c18b1 : (t141 != t139) = true := bne_iff_ne.mpr c18
    exact absurd ((Option.some.inj H).trans hrt.out) (by decide)
   rw [if_pos c18] at H
   have c18b0 : (t141 == t139) = true := beq_iff_eq.mpr c18
   have c18b1 : (t141 != t139) = false := bne_eq_false_iff_eq.mpr c18
   clear c18
   replace H := Option.bind_eq_some_iff.mp H
   obtain ⟨⟨t142, t143⟩, A190, H⟩ := H
   (try dsimp only at H)
   have A19 := Aside0.mk A190
   clear A190
   have HC20 := Aside0.mk H
   clear H
   obtain ⟨Ao21, co21, eo21⟩ := Kd.R_slice HO_9.out
   subst eo21
   go_upto_region 14 with (first | ((with_reducible refine gate_callee (f := 16) rfl ?_); refine gl 40 Try.func16 #[.slice Ao21 t134.length co21, .int .i64 1] ?_; (with_reducible refine (laws_markMoveS.calls kj5 (fun k_ => some k_ = (.slice Ao21 t134.length co21 : Value).ownBlock) (.slice Ao21 t134.length co21) t134 1 t139 t140 w _ ?side1 ?side2 A15.out).mono ?_); (case side1 => repeat (first | (with_reducible first | exact HB.out | apply below_alloc | apply pw_below_drewN | apply below_drew1) | exact HB.out)); (case side2 => exact Kd.R_tight rfl HO_9.out); rintro e w22 ⟨rfl, hy0, hb, hkp⟩; refine ⟨_, rfl, ?_⟩; replace HO_7 := Aside0.mk (Kd.R_mono (ok' := fun k_ => some k_ ≠ (.slice Ao21 t134.length co21 : Value).ownBlock) (Kd.R_keptB (HO_7.out) hkp (fun k_ hk_ hs_ => (hk_) hs_)) (fun k_ hk_ => hk_.1)); replace HO_9 := Aside0.mk (Kd.R_reok rfl hy0 (fun k_ e_ => HO_9.out.1 k_ e_)); replace HB := Aside0.mk (hb); (try clear hb); (try clear hkp); (try clear hy0)) | ((with_reducible refine gate_callee (f := 17) rfl ?_); refine goesL_ (some 43) rfl rfl Try.func17 (by kernel_rfl) rfl #[.slice Ao21 t140.length co21, .int .i64 1] rfl (by (try simp only [List.map_toArray, List.map_cons, List.map_nil]); first | done | (rw [show t140.length = t134.length from (Kd.R_reads' HO_9.out).1.symm] <;> rfl) | rfl | (simp only [List.length_drop, List.length_take]; rfl)) ?_; (with_reducible refine (laws_heldMoveS.calls kj5 _ _ t140 1 t141 _ ?side1 ?side2 A16.out).mono ?_); (case side1 => exact cr HO_9); (case side2 => rw [show t140.length = t134.length from (Kd.R_reads' HO_9.out).1.symm]; exact (Kd.R_reads' HO_9.out).2.1); rintro e w' ⟨rfl, ⟨nd, rfl⟩⟩; refine ⟨_, rfl, ?_⟩) | ((with_reducible refine gate_callee (f := 14) rfl ?_); refine gl 53 Try.func14 #[.int .i64 a0, .int .i64 a1, .int .i64 a2] ?_; (with_reducible refine (impl_TwoVesselPlan.calls kj5 a0 a1 a2 t142 t143 _ A19.out).mono ?_); rintro e w23 ⟨v144, rfl, ho0, hb⟩; refine ⟨_, rfl, ?_⟩; have HO145 := Aside0.mk (Kd.R_lower (Kd.R_new' (Kd.R_new' ho0 (Kd.R_lt (rk HO_7))) (Kd.R_lt (rk HO_9))) (below_size (bw HB))); replace HO_7 := Aside0.mk (Kd.R_elder' (rk HO_7) (Kd.R_base ho0) hb); replace HO_9 := Aside0.mk (Kd.R_elder' (rk HO_9) (Kd.R_base ho0) hb); replace HB := bs HB hb; (try clear hb); (try clear ho0)))
   (try simp only [Act.put, List.setIfInBounds_toArray, List.set_cons_zero, List.set_cons_succ])
   go_cut [64] (fun v64 wc => ∃ (kq : Nat) (x64_19 : Bool), v64 = .bool x64_19 ∧ Aside0 (laws_FnExactTwoVesselPlan.j1 kq t140 t139 x64_19 = some r) ∧ Aside0 (kq ≤ kj5) ∧ Aside0 (Kd.R k55 55 wc w.heap.size (fun _ => True) (.slice Ao21 t134.length co21) t140) ∧ Aside0 (Below w.heap.size w wc))
   case first =>
    have H := HC20.out
    clear HC20
    replace H := Option.bind_eq_some_iff.mp H
    obtain ⟨t146, A240, H⟩ := H
    (try dsimp only at H)
    have A24 := Aside0.mk A240
    clear A240
    by_cases c25 : t146 = true
    rotate_left
    ·replace c25 := Bool.eq_false_iff.mpr c25
     subst c25
     have H1 : (laws_FnExactTwoVesselPlan.j1 kj5 t140 t139 true) = some r := by rw [if_neg (show ¬ (false = true) by decide)] at H; exact H
     clear H
     have H := H1
     clear H1
     exact absurd H (by rw [hrt.out]; cases kj5 <;> simp [laws_FnExactTwoVesselPlan.j1])
    subst c25
    have H1 : (laws_FnExactTwoVesselPlan.j1 kj5 t140 t139 (t143 != t131)) = some r := by rw [if_pos rfl] at H; exact H
    clear H
    have H := H1
    clear H1
    have H' := Aside0.mk H
    clear H
    obtain ⟨Ao26, co26, eo26⟩ := Kd.R_slice HO145.out
    subst eo26
    obtain ⟨Ao27, co27, eo27⟩ := Kd.R_slice HO_7.out
    subst eo27
    go_wp2_with (first | ((with_reducible refine gate_callee (f := 15) rfl ?_); refine gl 58 Try.func15 #[.slice Ao26 t142.length co26, .slice Ao27 t130.length co27] ?_; (with_reducible refine (laws_eqMoveS.calls kj5 _ _ t142 _ _ t130 true _ ?side1 ?side2 ?side3 ?side4 A24.out).mono ?_); (case side1 => exact cr HO145); (case side2 => exact (Kd.R_reads' HO145.out).2.1); (case side3 => exact cr HO_7); (case side4 => exact (Kd.R_reads' HO_7.out).2.1); rintro e w28 ⟨rfl, hb⟩; refine ⟨_, rfl, ?_⟩; replace HO_7 := rb HO_7 hb; replace HO_9 := rb HO_9 hb; replace HO145 := rb HO145 hb; replace HB := bs HB hb; (try clear hb)))
    go_meet
    case rel => exact ⟨_, ((t143 != t131)), (by first | rfl | (simp; done) | (simp [*]; done)), H', ⟨by have := HJ5.out; first | omega | exact Nat.le_refl _⟩, ⟨by exact Kd.R_mono HO_9.out (fun _ hk => trivial)⟩, ⟨bw HB⟩⟩
   case rest =>
    clear HC20
    try clear c1
    try clear c2
    try clear p2
    try clear c4
    try clear c10
    try clear c13
    try clear c14
    try clear c15
    try clear c16
    try clear c17
    try clear c17b0
    try clear c18
    try clear c18b0
    try clear c18b1
    try clear c25
    try clear p2
    obtain ⟨kq, x64_19, rfl, HA, HJ19, HO_9, HB⟩ := hcut
    have hl9_19 := (Kd.R_reads' HO_9.out).1
    rw [hl9_19] at HO_9
    (try simp only [hl9_19])
    cases kq with
    | zero => exact absurd HA.out (by simp [laws_FnExactTwoVesselPlan.j1])
    | succ kj19 =>
     have H := HA.out
     clear HA
     simp only [laws_FnExactTwoVesselPlan.j1] at H
     by_cases c29 : x64_19 = true
     ·subst c29
      have H1 : (some false) = some r := by rw [if_pos rfl] at H; exact H
      clear H
      have H := H1
      clear H1
      exact absurd ((Option.some.inj H).trans hrt.out) (by decide)
     replace c29 := Bool.eq_false_iff.mpr c29
     subst c29
     have H1 : ((laws_heldMoveS.f kj19 t140 1).bind fun t147 => (if t147 < 0 then (some false) else (if t147 = t139 then (some true) else (some false)))) = some r := by rw [if_neg (show ¬ (false = true) by decide)] at H; exact H
     clear H
     have H := H1
     clear H1
     replace H := Option.bind_eq_some_iff.mp H
     obtain ⟨t147, A300, H⟩ := H
     (try dsimp only at H)
     have A30 := Aside0.mk A300
     clear A300
     by_cases c31 : t147 < 0
     ·rw [if_pos c31] at H
      have c31b0 : decide (t147 < 0) = true := decide_eq_true c31
      clear c31
      exact absurd ((Option.some.inj H).trans hrt.out) (by decide)
     rw [if_neg c31] at H
     have c31b0 : decide (t147 < 0) = false := decide_eq_false c31
     clear c31
     by_cases c32 : t147 = t139
     rotate_left
     ·rw [if_neg c32] at H
      have c32b0 : (t147 == t139) = false := beq_eq_false_iff_ne.mpr c32
      have c32b1 : (t147 != t139) = true := bne_iff_ne.mpr c32
      exact absurd ((Option.some.inj H).trans hrt.out) (by decide)
     rw [if_pos c32] at H
     have c32b0 : (t147 == t139) = true := beq_iff_eq.mpr c32
     have c32b1 : (t147 != t139) = false := bne_eq_false_iff_eq.mpr c32
     clear c32
     obtain rfl := Option.some.inj H
     go_wp2_with (first | ((with_reducible refine gate_callee (f := 17) rfl ?_); refine gl 67 Try.func17 #[.slice Ao21 t140.length co21, .int .i64 1] ?_; (with_reducible refine (laws_heldMoveS.calls kj19 _ _ t140 1 t147 _ ?side1 ?side2 A30.out).mono ?_); (case side1 => exact cr HO_9); (case side2 => exact (Kd.R_reads' HO_9.out).2.1); rintro e w' ⟨rfl, ⟨nd, rfl⟩⟩; refine ⟨_, rfl, ?_⟩))
     go_ret
     exact ⟨by first | rfl | (simp [errW_none, errW_some] <;> rfl) | (simp [*, errW_none, errW_some] <;> rfl), bw HB⟩
end Go.Proofs.Ytieioddimkafbaa.V
