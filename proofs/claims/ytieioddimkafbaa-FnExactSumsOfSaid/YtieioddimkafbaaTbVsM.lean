/- Functions of the specification over all that is reached: as plain functions, and that the calls come to them. -/
import Derived.Test.YtieioddimkafbaaTbVplQ
import Derived.Test.YtieioddimkafbaaTbVx
namespace Go.Proofs.Ytieioddimkafbaa.V
open Go.RowKit Go.Proofs.YtieioddimkafbaaW.PrintWords Go.Proofs.YtieioddimkafbaaW.PrintLast Go.Proofs.YtieioddimkafbaaW.PrintMore Go.Proofs.Ytieioddimkafbaa.Sq Go.Proofs.Ytieioddimkafbaa.Sep
attribute [local go_sem] max2_int min2_int max_two min_two max_three min_three max_four min_four
set_option linter.unusedVariables false
set_option linter.unusedSimpArgs false
theorem info4 : (Try.prog.info? 4).map (fun i => (i.zero, i.size, i.bytes)) = some (some (.bool false), 1, 1) := by kernel_rfl
mutual
def spec_AmountsOf.l0 : Nat → List Bool → List (S35) → Int → Int → Option (List Int × Bool)
 | 0, _, _, _, _ => none
 | k + 1, x8, x25, x26, x27 => if x27 < x26 then (if 0 ≤ x27 then (if x27 < (x25.length : Int) then (spec_AmountsOf.l1 k x8 x25 x26 x27 ((rd_T35 x25 x27).f1) (((rd_T35 x25 x27).f1).length : Int) 0) else (none)) else (none)) else ((spec_plNumbers.f k x8).bind fun t770 => (some (t770, true)))
def spec_AmountsOf.l1 : Nat → List Bool → List (S35) → Int → Int → List Int → Int → Int → Option (List Int × Bool)
 | 0, _, _, _, _, _, _, _ => none
 | k + 1, x8, x25, x26, x27, x32, x33, x34 => if x34 < x33 then (if 0 ≤ x34 then (if x34 < (x32.length : Int) then (if 0 ≤ (rd x32 x34) then (if (rd x32 x34) < (x8.length : Int) then (spec_AmountsOf.l1 k (x8.set ((rd x32 x34) : Int).toNat true) x25 x26 x27 x32 x33 (wrap64 (x34 + 1))) else (none)) else (none)) else (none)) else (none)) else (spec_AmountsOf.l0 k x8 x25 x26 (wrap64 (x27 + 1)))
end
def spec_AmountsOf.f (k : Nat) (l0_0 : List Int) (l0_1 : List Int) (a1 : Bool) : Option (List Int × Bool) := (spec_plAsked.f k l0_0 l0_1 a1).bind fun bt750 => (if bt750.2.2.2.2.2 = true then (if 61 ≤ 281474976710656 then (spec_AmountsOf.l0 k (List.replicate 61 false) bt750.1 (bt750.1.length : Int) 0) else (none)) else (some (([] : List Int), false)))
set_option maxHeartbeats 8000000 in
set_option maxRecDepth 100000 in
theorem spec_AmountsOf.calls (k : Nat) (A0_0 : Option Addr) (c0_0 : Nat) (l0_0 : List Int) (A0_1 : Option Addr) (c0_1 : Nat) (l0_1 : List Int) (a1 : Bool) (r1 : List Int) (r2 : Bool) (w : World) (hr0_0 : Kd.C (Kd.int .i64) w A0_0 l0_0.length l0_0) (hc0_0 : l0_0.length ≤ c0_0) (hr0_1 : Kd.C (Kd.int .i64) w A0_1 l0_1.length l0_1) (hc0_1 : l0_1.length ≤ c0_1) (h : spec_AmountsOf.f k l0_0 l0_1 a1 = some (r1, r2)) :
  Calls Try.prog 30 #[.agg #[.slice A0_0 l0_0.length c0_0, .slice A0_1 l0_1.length c0_1], .bool a1] w fun e w' => ∃ v0_ : Value, e = .returned (.tuple #[v0_, .bool r2]) ∧ Kd.R (Kd.int .i64) 3 w' w.heap.size (fun _ => True) v0_ r1 ∧ Below w.heap.size w w' := by
 have hu35 := Try.underlying35
 have hu62 := Try.underlying62
 have HR0_0 := Aside0.mk hr0_0
 have HC0_0 := Aside0.mk hc0_0
 clear hr0_0 hc0_0
 have HR0_1 := Aside0.mk hr0_1
 have HC0_1 := Aside0.mk hc0_1
 clear hr0_1 hc0_1
 have HB := Aside0.mk (Below.refl w.heap.size w)
 have H : ((spec_plAsked.f k l0_0 l0_1 a1).bind fun bt750 => (if bt750.2.2.2.2.2 = true then (if 61 ≤ 281474976710656 then (spec_AmountsOf.l0 k (List.replicate 61 false) bt750.1 (bt750.1.length : Int) 0) else (none)) else (some (([] : List Int), false)))) = some (r1, r2) := h
 clear h
 replace H := Option.bind_eq_some_iff.mp H
 obtain ⟨⟨t750, t753, t756, t759, t762, t765⟩, A30, H⟩ := H
 replace H : (if t765 = true then (if 61 ≤ 281474976710656 then (spec_AmountsOf.l0 k (List.replicate 61 false) t750 (t750.length : Int) 0) else (none)) else (some (([] : List Int), false))) = some (r1, r2) := H
 have A3 := Aside0.mk A30
 clear A30
 by_cases c4 : t765 = true
 rotate_left
 ·replace c4 := Bool.eq_false_iff.mpr c4
  subst c4
  have H1 : (some (([] : List Int), false)) = some (r1, r2) := by rw [if_neg (show ¬ (false = true) by decide)] at H; exact H
  clear H
  have H := H1
  clear H1
  simp only [Option.some.injEq, Prod.mk.injEq] at H
  obtain ⟨rfl, rfl⟩ := H
  go_enter Try.func30, Try.ntmps30
  go_wp2_with (first | ((with_reducible refine gate_dst (N := 2) rfl ?_); refine bx 2 #[.slice A0_0 l0_0.length c0_0, .slice A0_1 l0_1.length c0_1] 35 ?_; intro gb749 hg w37 hbox hb; have BK749 := Aside0.mk (hbox); have GW749 := ge HB hg; have GE749 := ge HB hg; replace HB := bs HB hb; clear hb hbox hg; have hcz38_0 := bc0 BK749; have hcz38_1 := bc1 BK749; have hfz38_0 := blk_frozen BK749.out 0; have hfz38_1 := blk_frozen BK749.out 1) | ((with_reducible refine gate_callee (f := 40) rfl ?_); refine gl 16 Try.func40 #[.agg #[.slice A0_0 l0_0.length c0_0, .slice A0_1 l0_1.length c0_1], .bool a1] ?_; (with_reducible refine (spec_plAsked.calls k (fun k_ => k_ < w.heap.size) _ _ l0_0 _ _ l0_1 a1 t750 t753 t756 t759 t762 false _ ?side1 ?side2 ?side3 A3.out).mono ?_); (case side1 => exact foot_and (Kd.F_below (Kd.C_F (Kd.heap_int .i64) HR0_0.out) (bw HB)) (Kd.F_below (Kd.C_F (Kd.heap_int .i64) HR0_1.out) (bw HB))); (case side2 => exact HC0_0.out); (case side3 => exact HC0_1.out); rintro e w45 ⟨p_, rfl, hq_, hb⟩; refine ⟨_, rfl, ?_⟩; replace BK749 := bb BK749 hb; replace HB := bs HB hb; (try clear hb); clear hq_))
  go_ret2
  exact ⟨_, by first | rfl | (simp [errW_none, errW_some] <;> rfl) | (simp [*, errW_none, errW_some] <;> rfl), by first | exact Kd.R_nil _ _ _ _ _ | exact Kd.N_nil _ _ _ _ _ | exact Kd.V_nil _ _ _ _ _ | exact Kd.Q_nil _ _ _ _ _ | exact Kd.S_nil _ _ _ _ _, bw HB⟩
 subst c4
 have H1 : (if 61 ≤ 281474976710656 then (spec_AmountsOf.l0 k (List.replicate 61 false) t750 (t750.length : Int) 0) else (none)) = some (r1, r2) := by rw [if_pos rfl] at H; exact H
 clear H
 have H := H1
 clear H1
 by_cases c5 : 61 ≤ 281474976710656
 rotate_left
 ·rw [if_neg c5] at H
  exact absurd H (by simp)
 rw [if_pos c5] at H
 have c5b0 := eq_true c5
 have c5b1 : decide (61 ≤ 281474976710656) = true := decide_eq_true c5
 clear c5
 obtain ⟨y767, hy767⟩ : ∃ y_ : List Bool, y_ = (List.replicate 61 false) := ⟨_, rfl⟩
 replace H : (spec_AmountsOf.l0 k y767 t750 (t750.length : Int) 0) = some (r1, r2) := by first | (rw [hy767]; with_reducible exact H) | (have H2_ := (Option.bind_some _ _).symm.trans H; rw [hy767]; with_reducible exact H2_) | (have H2_ := (Option.bind_some _ _).symm.trans H; with_reducible exact H2_) | with_reducible exact H | (rw [hy767]; exact H) | exact H
 have Ny767 := Aside0.mk hy767
 clear hy767
 have H' := Aside0.mk H
 clear H
 go_enter Try.func30, Try.ntmps30
 go_wp2_with (first | ((with_reducible refine gate_dst (N := 2) rfl ?_); refine bx 2 #[.slice A0_0 l0_0.length c0_0, .slice A0_1 l0_1.length c0_1] 35 ?_; intro gb749 hg w6 hbox hb; have BK749 := Aside0.mk (hbox); have GW749 := ge HB hg; have GE749 := ge HB hg; replace HB := bs HB hb; clear hb hbox hg; have hcz7_0 := bc0 BK749; have hcz7_1 := bc1 BK749; have hfz7_0 := blk_frozen BK749.out 0; have hfz7_1 := blk_frozen BK749.out 1) | ((with_reducible refine gate_callee (f := 40) rfl ?_); refine gl 16 Try.func40 #[.agg #[.slice A0_0 l0_0.length c0_0, .slice A0_1 l0_1.length c0_1], .bool a1] ?_; (with_reducible refine (spec_plAsked.calls k (fun k_ => k_ < w.heap.size) _ _ l0_0 _ _ l0_1 a1 t750 t753 t756 t759 t762 true _ ?side1 ?side2 ?side3 A3.out).mono ?_); (case side1 => exact foot_and (Kd.F_below (Kd.C_F (Kd.heap_int .i64) HR0_0.out) (bw HB)) (Kd.F_below (Kd.C_F (Kd.heap_int .i64) HR0_1.out) (bw HB))); (case side2 => exact HC0_0.out); (case side3 => exact HC0_1.out); rintro e w14 ⟨p_, rfl, hq_, hb⟩; obtain ⟨gb766, v751, v754, v757, v760, v763, rfl, hge_, hbox_, ho0, ho1, ho2, ho3, ho4⟩ := hq_ rfl; refine ⟨_, rfl, ?_⟩; have HO752 := Aside0.mk (Kd.N_lower (Kd.N_mono (ok' := fun k_ => (some k_ ≠ (v754 : Value).ownBlock ∧ some k_ ≠ (v757 : Value).ownBlock ∧ some k_ ≠ (v760 : Value).ownBlock ∧ some k_ ≠ (v763 : Value).ownBlock ∧ k_ ≠ gb749) ∧ k_ ≠ gb766) ho0 (fun k_ hk_ => ⟨⟨hk_.2.1, hk_.2.2.1, hk_.2.2.2.1, hk_.2.2.2.2.1, Or.elim hk_.1 (fun hs_ => fun e_ => Nat.not_le.2 hs_ (by rw [e_]; exact GW749.out)) (fun hn_ => (Kd.freshB (g := gb749) (o := .cells #[.slice A0_0 l0_0.length c0_0, .slice A0_1 l0_1.length c0_1] 35 (0, 0)) (bk BK749) k_ hn_))⟩, hk_.2.2.2.2.2⟩)) (below_size (bw HB))); have HO755 := Aside0.mk (Kd.R_lower (Kd.R_mono (ok' := fun k_ => some k_ ≠ (v760 : Value).ownBlock ∧ some k_ ≠ (v763 : Value).ownBlock) ho1 (fun _ hk_ => hk_.2)) (below_size (bw HB))); have HO758 := Aside0.mk (Kd.R_lower (Kd.R_mono (ok' := fun k_ => True) ho2 (fun _ hk_ => trivial)) (below_size (bw HB))); have HO761 := Aside0.mk (Kd.R_lower (Kd.R_mono (ok' := fun k_ => some k_ ≠ (v754 : Value).ownBlock ∧ some k_ ≠ (v763 : Value).ownBlock) ho3 (fun _ hk_ => hk_.2)) (below_size (bw HB))); have HO764 := Aside0.mk (Kd.R_lower (Kd.R_mono (ok' := fun k_ => some k_ ≠ (v754 : Value).ownBlock ∧ some k_ ≠ (v760 : Value).ownBlock) ho4 (fun _ hk_ => hk_.2)) (below_size (bw HB))); have GW766 := ge' HB hge_; have GE766 := ge' HB hge_; have NB749_766 := nl' BK749 hge_; have NB766_749 := nr' BK749 hge_; replace BK749 := bb BK749 hb; replace HB := bs HB hb; (try clear hb); (try clear ho0); (try clear ho1); (try clear ho2); (try clear ho3); (try clear ho4); have BK766 := Aside0.mk hbox_; clear hbox_ hge_ hq_; obtain ⟨Ao9, co9, eo9⟩ := Kd.N_slice HO752.out; subst eo9; obtain ⟨Ao10, co10, eo10⟩ := Kd.R_slice HO755.out; subst eo10; obtain ⟨Ao11, co11, eo11⟩ := Kd.R_slice HO758.out; subst eo11; obtain ⟨Ao12, co12, eo12⟩ := Kd.R_slice HO761.out; subst eo12; obtain ⟨Ao13, co13, eo13⟩ := Kd.R_slice HO764.out; subst eo13) | ((with_reducible refine gate_dst (N := 21) rfl ?_); refine Kd.R_make Kd.bool _ 4 rfl (N := 21) rfl 93 _ _ rfl 61 rfl rfl Try.underlying93 (.bool false) 1 info4 rfl (by decide) (by omega) false (ok := fun _ => True) (okp := fun _ => True) rfl (fun _ hk => hk) trivial (by omega) (by omega) (Below.refl _ _) (Nat.le_refl _) ?_; intro v768 w15 ho16 hb hg_ hnew_; clear hg_ hnew_; (first | rw [← Ny767.out] at ho16 | (simp only [Int.reduceToNat] at ho16; rw [← Ny767.out] at ho16)); replace HO752 := Aside0.mk (Kd.N_elder' (by (with_reducible repeat (first | apply Kd.N_alloc | apply Kd.N_drewN | apply Kd.N_drew)); exact HO752.out) (Kd.R_base ho16) hb); replace HO755 := rb HO755 hb; replace HO758 := rb HO758 hb; replace HO761 := rb HO761 hb; replace HO764 := rb HO764 hb; have HO769 := lo ho16 HB; replace BK749 := bb BK749 hb; replace BK766 := bb BK766 hb; replace HB := bs HB hb; clear hb ho16; have hnb17 := NB766_749.out; have hnc17 := NB749_766.out; have hcz18_0 := bc0 BK766; have hcz18_1 := bc1 BK766; have hcz18_2 := bc2 BK766; have hcz18_3 := bc3 BK766; have hcz18_4 := bc4 BK766; have hfz18_0 := blk_frozen BK766.out 0; have hfz18_1 := blk_frozen BK766.out 1; have hfz18_2 := blk_frozen BK766.out 2; have hfz18_3 := blk_frozen BK766.out 3; have hfz18_4 := blk_frozen BK766.out 4))
 try simp only [Act.put, List.setIfInBounds_toArray, List.set_cons_zero, List.set_cons_succ]
 go_loopg [27] k (fun kq v27 w' => ∃ (x8_1 : List Bool) (x27_1 : Int), v27 = .int .i64 x27_1 ∧ Aside0 (spec_AmountsOf.l0 kq x8_1 t750 (t750.length : Int) x27_1 = some (r1, r2)) ∧ Aside0 (kq ≤ k) ∧ Aside0 (Kd.R Kd.bool 4 w' w.heap.size (fun _ => True) v768 x8_1) ∧ Aside0 (Kd.N k35 35 w' w.heap.size (fun k_ => some k_ ≠ (v768 : Value).ownBlock ∧ some k_ ≠ ((.slice Ao10 t753.length co10) : Value).ownBlock ∧ some k_ ≠ ((.slice Ao11 t756.length co11) : Value).ownBlock ∧ some k_ ≠ ((.slice Ao12 t759.length co12) : Value).ownBlock ∧ some k_ ≠ ((.slice Ao13 t762.length co13) : Value).ownBlock ∧ k_ ≠ gb749 ∧ k_ ≠ gb766) (.slice Ao9 t750.length co9) t750) ∧ Aside0 (Kd.N k35 35 w' w.heap.size (fun k_ => some k_ ≠ (v768 : Value).ownBlock ∧ some k_ ≠ ((.slice Ao10 t753.length co10) : Value).ownBlock ∧ some k_ ≠ ((.slice Ao11 t756.length co11) : Value).ownBlock ∧ some k_ ≠ ((.slice Ao12 t759.length co12) : Value).ownBlock ∧ some k_ ≠ ((.slice Ao13 t762.length co13) : Value).ownBlock ∧ k_ ≠ gb749 ∧ k_ ≠ gb766) (.slice Ao9 t750.length co9) t750) ∧ Aside0 (Kd.R (Kd.int .i64) 3 w' w.heap.size (fun k_ => some k_ ≠ ((.slice Ao12 t759.length co12) : Value).ownBlock ∧ some k_ ≠ ((.slice Ao13 t762.length co13) : Value).ownBlock) (.slice Ao10 t753.length co10) t753) ∧ Aside0 (Kd.R k55 55 w' w.heap.size (fun _ => True) (.slice Ao11 t756.length co11) t756) ∧ Aside0 (Kd.R (Kd.int .i64) 3 w' w.heap.size (fun k_ => some k_ ≠ ((.slice Ao10 t753.length co10) : Value).ownBlock ∧ some k_ ≠ ((.slice Ao13 t762.length co13) : Value).ownBlock) (.slice Ao12 t759.length co12) t759) ∧ Aside0 (Kd.R (Kd.int .i64) 3 w' w.heap.size (fun k_ => some k_ ≠ ((.slice Ao10 t753.length co10) : Value).ownBlock ∧ some k_ ≠ ((.slice Ao12 t759.length co12) : Value).ownBlock) (.slice Ao13 t762.length co13) t762) ∧ Aside0 (w'.heap[gb749]? = some (.cells #[(.slice A0_0 l0_0.length c0_0), (.slice A0_1 l0_1.length c0_1)] 35 (0, 0))) ∧ Aside0 (w'.heap[gb766]? = some (.cells #[(.slice Ao9 t750.length co9), (.slice Ao10 t753.length co10), (.slice Ao11 t756.length co11), (.slice Ao12 t759.length co12), (.slice Ao13 t762.length co13)] 62 (0, 0))) ∧ Aside0 (Below w.heap.size w w'))
 case atStart => exact ⟨(y767), (0), (by first | rfl | (simp; done) | (simp [*]; done)), H', ⟨Nat.le_refl _⟩, ⟨rk HO769⟩, ⟨by (with_reducible repeat (first | apply Kd.N_alloc | apply Kd.N_drewN | apply Kd.N_drew)); exact Kd.N_mono HO752.out (fun _ hk => ⟨hk.2, ⟨hk.1.1.1, ⟨hk.1.1.2.1, ⟨hk.1.1.2.2.1, ⟨hk.1.1.2.2.2.1, ⟨hk.1.1.2.2.2.2, hk.1.2⟩⟩⟩⟩⟩⟩)⟩, ⟨by (with_reducible repeat (first | apply Kd.N_alloc | apply Kd.N_drewN | apply Kd.N_drew)); exact Kd.N_mono HO752.out (fun _ hk => ⟨hk.2, ⟨hk.1.1.1, ⟨hk.1.1.2.1, ⟨hk.1.1.2.2.1, ⟨hk.1.1.2.2.2.1, ⟨hk.1.1.2.2.2.2, hk.1.2⟩⟩⟩⟩⟩⟩)⟩, ⟨rk HO755⟩, ⟨rk HO758⟩, ⟨rk HO761⟩, ⟨rk HO764⟩, ⟨bk BK749⟩, ⟨bk BK766⟩, ⟨bw HB⟩⟩
 case round =>
  clear H'
  try clear c1
  try clear p2
  try clear c3
  try clear c4
  try clear c5
  try clear c5b0
  try clear c5b1
  try clear c17
  try clear hcz18_0
  try clear hcz18_1
  try clear hcz18_2
  try clear hcz18_3
  try clear hcz18_4
  try clear hcz7_0
  try clear hcz7_1
  try clear hfz18_0
  try clear hfz18_1
  try clear hfz18_2
  try clear hfz18_3
  try clear hfz18_4
  try clear hfz7_0
  try clear hfz7_1
  obtain ⟨x8_1, x27_1, rfl, HA, HK1, HO_8, HO_25, HO_767000, HO_767001, HO_767002, HO_767003, HO_767004, BK749, BK766, HB⟩ := hrel
  cases gk with
  | zero => exact absurd HA.out (by simp [spec_AmountsOf.l0])
  | succ k1 =>
   have H := HA.out
   clear HA
   simp only [spec_AmountsOf.l0] at H
   by_cases c19 : x27_1 < (t750.length : Int)
   rotate_left
   ·rw [if_neg c19] at H
    have c19b0 : decide (x27_1 < (t750.length : Int)) = false := decide_eq_false c19
    clear c19
    replace H := Option.bind_eq_some_iff.mp H
    obtain ⟨t770, A340, H⟩ := H
    replace H : (some (t770, true)) = some (r1, r2) := H
    have A34 := Aside0.mk A340
    clear A340
    simp only [Option.some.injEq, Prod.mk.injEq] at H
    obtain ⟨rfl, rfl⟩ := H
    obtain ⟨Ao35, co35, eo35⟩ := Kd.R_slice HO_8.out
    subst eo35
    go_wp2_with (first | ((with_reducible refine gate_callee (f := 64) rfl ?_); refine gl 44 Try.func64 #[.slice Ao35 x8_1.length co35] ?_; (with_reducible refine (spec_plNumbers.calls k1 _ _ x8_1 t770 _ ?side1 ?side2 A34.out).mono ?_); (case side1 => exact cr HO_8); (case side2 => exact (Kd.R_reads' HO_8.out).2.1); rintro e w36 ⟨v771, rfl, ho0, hb⟩; refine ⟨_, rfl, ?_⟩; replace HO_8 := rb HO_8 hb; replace HO_25 := Aside0.mk (Kd.N_elder' (by (with_reducible repeat (first | apply Kd.N_alloc | apply Kd.N_drewN | apply Kd.N_drew)); exact HO_25.out) (Kd.R_base ho0) hb); replace HO_767000 := Aside0.mk (Kd.N_elder' (by (with_reducible repeat (first | apply Kd.N_alloc | apply Kd.N_drewN | apply Kd.N_drew)); exact HO_767000.out) (Kd.R_base ho0) hb); replace HO_767002 := rb HO_767002 hb; have HO772 := Aside0.mk (Kd.R_lower (Kd.R_new' (Kd.R_new' (Kd.R_new' ho0 (Kd.R_lt (rk HO_767001))) (Kd.R_lt (rk HO_767003))) (Kd.R_lt (rk HO_767004))) (below_size (bw HB))); replace HO_767001 := Aside0.mk (Kd.R_elder' (rk HO_767001) (Kd.R_base ho0) hb); replace HO_767003 := Aside0.mk (Kd.R_elder' (rk HO_767003) (Kd.R_base ho0) hb); replace HO_767004 := Aside0.mk (Kd.R_elder' (rk HO_767004) (Kd.R_base ho0) hb); replace BK749 := bb BK749 hb; replace BK766 := bb BK766 hb; replace HB := bs HB hb; (try clear hb); (try clear ho0)))
    go_ret2
    exact ⟨_, by first | rfl | (simp [errW_none, errW_some] <;> rfl) | (simp [*, errW_none, errW_some] <;> rfl), by (with_reducible repeat (first | apply Kd.R_alloc | apply Kd.R_drewN | apply Kd.R_drew)); exact Kd.R_mono HO772.out (fun _ hk => trivial), bw HB⟩
   rw [if_pos c19] at H
   have c19b0 : decide (x27_1 < (t750.length : Int)) = true := decide_eq_true c19
   clear c19
   by_cases c20 : 0 ≤ x27_1
   rotate_left
   ·rw [if_neg c20] at H
    exact absurd H (by simp)
   rw [if_pos c20] at H
   have c20b0 : decide (0 ≤ x27_1) = true := decide_eq_true c20
   clear c20
   by_cases c21 : x27_1 < (t750.length : Int)
   rotate_left
   ·rw [if_neg c21] at H
    exact absurd H (by simp)
   rw [if_pos c21] at H
   have c21b0 : decide (x27_1 < (t750.length : Int)) = true := decide_eq_true c21
   clear c21
   have H' := Aside0.mk H
   clear H
   have p773 : 0 ≤ (x27_1 : Int) := of_decide_eq_true ‹_›
   have q773 : x27_1 < (t750.length : Int) := of_decide_eq_true ‹_›
   obtain ⟨ad773, A773_0, c773_0, A773_1, c773_1, e773, hx773_0, hx773_1, hl773_0, hi773_0, hl773_1, hi773_1⟩ := at_T35 (Kd.N_reads' HO_25.out).2.2 x27_1 p773 q773
   cases e773
   obtain ⟨ce773, hce773, hMe773, hcc773⟩ := Kd.N_get HO_25.out z35 x27_1 p773 (by first | exact q773 | exact of_decide_eq_true ‹_› | (have e_ := (Kd.N_reads' HO_25.out).1; omega))
   obtain ⟨ua773_0, uc773_0, ua773_1, uc773_1, rfl, ul773_0, ge773_0, ul773_1, ge773_1⟩ := k35_openF hMe773
   have hv773_0 := hcc773 0 _ rfl
   rw [Nat.add_zero] at hv773_0
   replace hv773_0 := Option.some.inj (hv773_0.symm.trans hx773_0)
   injection hv773_0 with hva_ hvn_ hvc_
   rw [hva_] at ge773_0
   rw [hvc_] at ul773_0
   have HL773_0 := Aside0.mk (show Kd.V (Kd.int .i64) 3 _ w.heap.size _ _ ((rd_T35 t750 x27_1).f0) from Kd.V_mk ul773_0 ge773_0)
   clear hva_ hvn_ hvc_ ge773_0 ul773_0
   have hv773_1 := hcc773 1 _ rfl
   rw [add_field _ _ 1 (by omega)] at hv773_1
   replace hv773_1 := Option.some.inj (hv773_1.symm.trans hx773_1)
   injection hv773_1 with hva_ hvn_ hvc_
   rw [hva_] at ge773_1
   rw [hvc_] at ul773_1
   have HL773_1 := Aside0.mk (show Kd.V (Kd.int .i64) 3 _ w.heap.size _ _ ((rd_T35 t750 x27_1).f1) from Kd.V_mk ul773_1 ge773_1)
   clear hva_ hvn_ hvc_ ge773_1 ul773_1
   clear hcc773 hce773
   have HR773_0 := Aside0.mk hi773_0
   have HC773_0 := Aside0.mk hl773_0
   clear hi773_0 hl773_0
   have HR773_1 := Aside0.mk hi773_1
   have HC773_1 := Aside0.mk hl773_1
   clear hi773_1 hl773_1
   replace p773 := eq_true p773
   replace q773 := eq_true q773
   go_wp2_with (first | ((with_reducible refine gate_dst (N := 10) rfl ?_); refine bx 10 #[.slice none 0 0, .slice none 0 0] 35 ?_; intro gb774 hg w22 hbox hb; replace HO_8 := rb HO_8 hb; replace HO_25 := Aside0.mk (Kd.N_below (Kd.N_elderB (by (with_reducible repeat (first | apply Kd.N_alloc | apply Kd.N_drewN | apply Kd.N_drew)); exact HO_25.out) gb774 (Nat.le_of_eq hg.symm)) hb); replace HO_767000 := Aside0.mk (Kd.N_below (Kd.N_elderB (by (with_reducible repeat (first | apply Kd.N_alloc | apply Kd.N_drewN | apply Kd.N_drew)); exact HO_767000.out) gb774 (Nat.le_of_eq hg.symm)) hb); replace HO_767001 := rb HO_767001 hb; replace HO_767002 := rb HO_767002 hb; replace HO_767003 := rb HO_767003 hb; replace HO_767004 := rb HO_767004 hb; replace HL773_0 := Aside0.mk (Kd.V_below (Kd.V_elderB (by (with_reducible repeat (first | apply Kd.V_alloc | apply Kd.V_drewN | apply Kd.V_drew)); exact HL773_0.out) gb774 (Nat.le_of_eq hg.symm)) hb); replace HL773_1 := Aside0.mk (Kd.V_below (Kd.V_elderB (by (with_reducible repeat (first | apply Kd.V_alloc | apply Kd.V_drewN | apply Kd.V_drew)); exact HL773_1.out) gb774 (Nat.le_of_eq hg.symm)) hb); replace HR773_0 := Aside0.mk (Kd.C_below (by repeat (first | (with_reducible exact HR773_0.out) | (with_reducible refine Kd.C_alloc ?_ _) | (with_reducible refine Kd.C_drewN ?_ _) | (with_reducible refine Kd.C_drew ?_) | exact HR773_0.out)) hb); replace HR773_1 := Aside0.mk (Kd.C_below (by repeat (first | (with_reducible exact HR773_1.out) | (with_reducible refine Kd.C_alloc ?_ _) | (with_reducible refine Kd.C_drewN ?_ _) | (with_reducible refine Kd.C_drew ?_) | exact HR773_1.out)) hb); have BK774 := Aside0.mk (hbox); have GW774 := ge HB hg; have GE774 := ge HB hg; replace HB := bs HB hb; have NB749_774 := nl BK749 hg; have NB774_749 := nr BK749 hg; replace BK749 := bb BK749 hb; have NB766_774 := nl BK766 hg; have NB774_766 := nr BK766 hg; replace BK766 := bb BK766 hb; clear hb hbox hg; have hnb23 := NB774_749.out; have hnc23 := NB749_774.out; have hnb24 := NB774_766.out; have hnc24 := NB766_774.out; have hcz25_0 := bc0 BK774; have hcz25_1 := bc1 BK774; have hfz25_0 := blk_frozen BK774.out 0; have hfz25_1 := blk_frozen BK774.out 1))
   try simp only [Act.put, List.setIfInBounds_toArray, List.set_cons_zero, List.set_cons_succ]
   go_loopg [34] k1 (fun kq v34 w' => ∃ (x8_2 : List Bool) (x34_2 : Int), v34 = .int .i64 x34_2 ∧ Aside0 (spec_AmountsOf.l1 kq x8_2 t750 (t750.length : Int) x27_1 ((rd_T35 t750 x27_1).f1) (((rd_T35 t750 x27_1).f1).length : Int) x34_2 = some (r1, r2)) ∧ Aside0 (kq ≤ k1) ∧ Aside0 (Kd.R Kd.bool 4 w' w.heap.size (fun _ => True) v768 x8_2) ∧ Aside0 (Kd.N k35 35 w' w.heap.size (fun k_ => some k_ ≠ (v768 : Value).ownBlock ∧ some k_ ≠ ((.slice Ao10 t753.length co10) : Value).ownBlock ∧ some k_ ≠ ((.slice Ao11 t756.length co11) : Value).ownBlock ∧ some k_ ≠ ((.slice Ao12 t759.length co12) : Value).ownBlock ∧ some k_ ≠ ((.slice Ao13 t762.length co13) : Value).ownBlock ∧ k_ ≠ gb749 ∧ k_ ≠ gb766 ∧ k_ ≠ gb774) (.slice (some ad773) t750.length co9) t750) ∧ Aside0 (Kd.N k35 35 w' w.heap.size (fun k_ => some k_ ≠ (v768 : Value).ownBlock ∧ some k_ ≠ ((.slice Ao10 t753.length co10) : Value).ownBlock ∧ some k_ ≠ ((.slice Ao11 t756.length co11) : Value).ownBlock ∧ some k_ ≠ ((.slice Ao12 t759.length co12) : Value).ownBlock ∧ some k_ ≠ ((.slice Ao13 t762.length co13) : Value).ownBlock ∧ k_ ≠ gb749 ∧ k_ ≠ gb766 ∧ k_ ≠ gb774) (.slice (some ad773) t750.length co9) t750) ∧ Aside0 (Kd.R (Kd.int .i64) 3 w' w.heap.size (fun k_ => some k_ ≠ ((.slice Ao12 t759.length co12) : Value).ownBlock ∧ some k_ ≠ ((.slice Ao13 t762.length co13) : Value).ownBlock) (.slice Ao10 t753.length co10) t753) ∧ Aside0 (Kd.R k55 55 w' w.heap.size (fun _ => True) (.slice Ao11 t756.length co11) t756) ∧ Aside0 (Kd.R (Kd.int .i64) 3 w' w.heap.size (fun k_ => some k_ ≠ ((.slice Ao10 t753.length co10) : Value).ownBlock ∧ some k_ ≠ ((.slice Ao13 t762.length co13) : Value).ownBlock) (.slice Ao12 t759.length co12) t759) ∧ Aside0 (Kd.R (Kd.int .i64) 3 w' w.heap.size (fun k_ => some k_ ≠ ((.slice Ao10 t753.length co10) : Value).ownBlock ∧ some k_ ≠ ((.slice Ao12 t759.length co12) : Value).ownBlock) (.slice Ao13 t762.length co13) t762) ∧ Aside0 (w'.heap[gb749]? = some (.cells #[(.slice A0_0 l0_0.length c0_0), (.slice A0_1 l0_1.length c0_1)] 35 (0, 0))) ∧ Aside0 (w'.heap[gb766]? = some (.cells #[(.slice (some ad773) t750.length co9), (.slice Ao10 t753.length co10), (.slice Ao11 t756.length co11), (.slice Ao12 t759.length co12), (.slice Ao13 t762.length co13)] 62 (0, 0))) ∧ Aside0 (w'.heap[gb774]? = some (.cells #[(.slice A773_0 ((rd_T35 t750 x27_1).f0).length c773_0), (.slice A773_1 ((rd_T35 t750 x27_1).f1).length c773_1)] 35 (0, 0))) ∧ Aside0 (Kd.V (Kd.int .i64) 3 w' w.heap.size (fun k_ => some k_ ≠ (v768 : Value).ownBlock) (.slice A773_1 ((rd_T35 t750 x27_1).f1).length c773_1) ((rd_T35 t750 x27_1).f1)) ∧ Aside0 (Below w.heap.size w w'))
   case atStart => exact ⟨(x8_1), (0), (by first | rfl | (simp; done) | (simp [*]; done)), H', ⟨Nat.le_refl _⟩, ⟨by (with_reducible repeat (first | apply Kd.R_alloc | apply Kd.R_drewN | apply Kd.R_drew)); exact Kd.R_mono (Kd.R_far (p := ⟨gb774, 1, none⟩) (Kd.R_far (p := ⟨gb774, 0, none⟩) (Kd.R_types HO_8.out BK774.out (by decide)) (fun _ hk => hk.2) (.slice A773_0 ((rd_T35 t750 x27_1).f0).length c773_0)) (fun _ hk => hk.2) (.slice A773_1 ((rd_T35 t750 x27_1).f1).length c773_1)) (fun _ hk => trivial)⟩, ⟨by (with_reducible repeat (first | apply Kd.N_alloc | apply Kd.N_drewN | apply Kd.N_drew)); exact Kd.N_mono (Kd.N_far (p := ⟨gb774, 1, none⟩) (Kd.N_far (p := ⟨gb774, 0, none⟩) (Kd.N_mono HO_25.out (fun k_ hk => (⟨hk, hk.2⟩ : _ ∧ k_ ≠ gb774))) (fun _ hk => hk.2) (.slice A773_0 ((rd_T35 t750 x27_1).f0).length c773_0)) (fun _ hk => hk.2) (.slice A773_1 ((rd_T35 t750 x27_1).f1).length c773_1)) (fun _ hk => ⟨hk.1.1.1, ⟨hk.1.1.2.1, ⟨hk.1.1.2.2.1, ⟨hk.1.1.2.2.2.1, ⟨hk.1.1.2.2.2.2.1, ⟨hk.1.1.2.2.2.2.2.1, ⟨hk.1.1.2.2.2.2.2.2, hk.1.2⟩⟩⟩⟩⟩⟩⟩)⟩, ⟨by (with_reducible repeat (first | apply Kd.N_alloc | apply Kd.N_drewN | apply Kd.N_drew)); exact Kd.N_mono (Kd.N_far (p := ⟨gb774, 1, none⟩) (Kd.N_far (p := ⟨gb774, 0, none⟩) (Kd.N_mono HO_767000.out (fun k_ hk => (⟨hk, hk.2⟩ : _ ∧ k_ ≠ gb774))) (fun _ hk => hk.2) (.slice A773_0 ((rd_T35 t750 x27_1).f0).length c773_0)) (fun _ hk => hk.2) (.slice A773_1 ((rd_T35 t750 x27_1).f1).length c773_1)) (fun _ hk => ⟨hk.1.1.1, ⟨hk.1.1.2.1, ⟨hk.1.1.2.2.1, ⟨hk.1.1.2.2.2.1, ⟨hk.1.1.2.2.2.2.1, ⟨hk.1.1.2.2.2.2.2.1, ⟨hk.1.1.2.2.2.2.2.2, hk.1.2⟩⟩⟩⟩⟩⟩⟩)⟩, ⟨by (with_reducible repeat (first | apply Kd.R_alloc | apply Kd.R_drewN | apply Kd.R_drew)); exact Kd.R_mono (Kd.R_far (p := ⟨gb774, 1, none⟩) (Kd.R_far (p := ⟨gb774, 0, none⟩) (Kd.R_types HO_767001.out BK774.out (by decide)) (fun _ hk => hk.2) (.slice A773_0 ((rd_T35 t750 x27_1).f0).length c773_0)) (fun _ hk => hk.2) (.slice A773_1 ((rd_T35 t750 x27_1).f1).length c773_1)) (fun _ hk => ⟨hk.1.1, hk.1.2⟩)⟩, ⟨by (with_reducible repeat (first | apply Kd.R_alloc | apply Kd.R_drewN | apply Kd.R_drew)); exact Kd.R_mono (Kd.R_far (p := ⟨gb774, 1, none⟩) (Kd.R_far (p := ⟨gb774, 0, none⟩) (Kd.R_types HO_767002.out BK774.out (by decide)) (fun _ hk => hk.2) (.slice A773_0 ((rd_T35 t750 x27_1).f0).length c773_0)) (fun _ hk => hk.2) (.slice A773_1 ((rd_T35 t750 x27_1).f1).length c773_1)) (fun _ hk => trivial)⟩, ⟨by (with_reducible repeat (first | apply Kd.R_alloc | apply Kd.R_drewN | apply Kd.R_drew)); exact Kd.R_mono (Kd.R_far (p := ⟨gb774, 1, none⟩) (Kd.R_far (p := ⟨gb774, 0, none⟩) (Kd.R_types HO_767003.out BK774.out (by decide)) (fun _ hk => hk.2) (.slice A773_0 ((rd_T35 t750 x27_1).f0).length c773_0)) (fun _ hk => hk.2) (.slice A773_1 ((rd_T35 t750 x27_1).f1).length c773_1)) (fun _ hk => ⟨hk.1.1, hk.1.2⟩)⟩, ⟨by (with_reducible repeat (first | apply Kd.R_alloc | apply Kd.R_drewN | apply Kd.R_drew)); exact Kd.R_mono (Kd.R_far (p := ⟨gb774, 1, none⟩) (Kd.R_far (p := ⟨gb774, 0, none⟩) (Kd.R_types HO_767004.out BK774.out (by decide)) (fun _ hk => hk.2) (.slice A773_0 ((rd_T35 t750 x27_1).f0).length c773_0)) (fun _ hk => hk.2) (.slice A773_1 ((rd_T35 t750 x27_1).f1).length c773_1)) (fun _ hk => ⟨hk.1.1, hk.1.2⟩)⟩, ⟨bk BK749⟩, ⟨bk BK766⟩, ⟨by (with_reducible repeat (first | refine blk_drewN ?_ _ | refine blk_drew ?_ | refine blk_alloc ?_ _)); refine blk_put (cs := #[.slice A773_0 ((rd_T35 t750 x27_1).f0).length c773_0, .slice none 0 0]) ?_ 1 _ rfl; (with_reducible repeat (first | refine blk_drewN ?_ _ | refine blk_drew ?_ | refine blk_alloc ?_ _)); refine blk_put (cs := #[.slice none 0 0, .slice none 0 0]) ?_ 0 _ rfl; exact bk BK774⟩, ⟨by (with_reducible repeat (first | apply Kd.V_alloc | apply Kd.V_drewN | apply Kd.V_drew)); exact Kd.V_mono (Kd.V_far (p := ⟨gb774, 1, none⟩) (Kd.V_far (p := ⟨gb774, 0, none⟩) HL773_1.out (fun _ hk => hk.2) (.slice A773_0 ((rd_T35 t750 x27_1).f0).length c773_0)) (fun _ hk => hk.2) (.slice A773_1 ((rd_T35 t750 x27_1).f1).length c773_1)) (fun _ hk => hk.1.1.1)⟩, ⟨bw HB⟩⟩
   case round =>
    clear H'
    try clear c1
    try clear c2
    try clear p2
    try clear c3
    try clear c4
    try clear c5
    try clear c5b0
    try clear c5b1
    try clear c7
    try clear p7
    try clear q7
    try clear hx7
    try clear c17
    try clear c19
    try clear c19b0
    try clear c20
    try clear c20b0
    try clear c21
    try clear c21b0
    try clear c23
    try clear c24
    try clear hcz18_0
    try clear hcz18_1
    try clear hcz18_2
    try clear hcz18_3
    try clear hcz18_4
    try clear hcz25_0
    try clear hcz25_1
    try clear hcz7_0
    try clear hcz7_1
    try clear hfz18_0
    try clear hfz18_1
    try clear hfz18_2
    try clear hfz18_3
    try clear hfz18_4
    try clear hfz25_0
    try clear hfz25_1
    try clear hfz7_0
    try clear hfz7_1
    try clear hx773_0
    try clear hx773_1
    try clear p2
    try clear p773
    try clear q773
    obtain ⟨x8_2, x34_2, rfl, HA, HK2, HO_8, HO_25, HO_767000, HO_767001, HO_767002, HO_767003, HO_767004, BK749, BK766, BK774, HV, HB⟩ := hrel
    cases gk with
    | zero => exact absurd HA.out (by simp [spec_AmountsOf.l1])
    | succ k2 =>
     have H := HA.out
     clear HA
     simp only [spec_AmountsOf.l1] at H
     by_cases c26 : x34_2 < (((rd_T35 t750 x27_1).f1).length : Int)
     rotate_left
     ·rw [if_neg c26] at H
      have c26b0 : decide (x34_2 < (((rd_T35 t750 x27_1).f1).length : Int)) = false := decide_eq_false c26
      clear c26
      have H' := Aside0.mk H
      clear H
      go_wp2
      go_roundg k2
      case measure => have := HK1.out; have := HK2.out; omega
      case rel => exact ⟨(x8_2), (wrap64 (x27_1 + 1)), (by first | rfl | (simp; done) | (simp [*]; done)), H', ⟨by have := HK1.out; have := HK2.out; omega⟩, ⟨rk HO_8⟩, ⟨by (with_reducible repeat (first | apply Kd.N_alloc | apply Kd.N_drewN | apply Kd.N_drew)); exact Kd.N_mono HO_25.out (fun _ hk => ⟨hk.1, ⟨hk.2.1, ⟨hk.2.2.1, ⟨hk.2.2.2.1, ⟨hk.2.2.2.2.1, ⟨hk.2.2.2.2.2.1, hk.2.2.2.2.2.2.1⟩⟩⟩⟩⟩⟩)⟩, ⟨by (with_reducible repeat (first | apply Kd.N_alloc | apply Kd.N_drewN | apply Kd.N_drew)); exact Kd.N_mono HO_767000.out (fun _ hk => ⟨hk.1, ⟨hk.2.1, ⟨hk.2.2.1, ⟨hk.2.2.2.1, ⟨hk.2.2.2.2.1, ⟨hk.2.2.2.2.2.1, hk.2.2.2.2.2.2.1⟩⟩⟩⟩⟩⟩)⟩, ⟨rk HO_767001⟩, ⟨rk HO_767002⟩, ⟨rk HO_767003⟩, ⟨rk HO_767004⟩, ⟨bk BK749⟩, ⟨bk BK766⟩, ⟨bw HB⟩⟩
     rw [if_pos c26] at H
     have c26b0 : decide (x34_2 < (((rd_T35 t750 x27_1).f1).length : Int)) = true := decide_eq_true c26
     clear c26
     by_cases c27 : 0 ≤ x34_2
     rotate_left
     ·rw [if_neg c27] at H
      exact absurd H (by simp)
     rw [if_pos c27] at H
     have c27b0 : decide (0 ≤ x34_2) = true := decide_eq_true c27
     clear c27
     by_cases c28 : x34_2 < (((rd_T35 t750 x27_1).f1).length : Int)
     rotate_left
     ·rw [if_neg c28] at H
      exact absurd H (by simp)
     rw [if_pos c28] at H
     have c28b0 : decide (x34_2 < (((rd_T35 t750 x27_1).f1).length : Int)) = true := decide_eq_true c28
     clear c28
     by_cases c29 : 0 ≤ (rd ((rd_T35 t750 x27_1).f1) x34_2)
     rotate_left
     ·rw [if_neg c29] at H
      exact absurd H (by simp)
     rw [if_pos c29] at H
     have c29b0 : decide (0 ≤ (rd ((rd_T35 t750 x27_1).f1) x34_2)) = true := decide_eq_true c29
     clear c29
     by_cases c30 : (rd ((rd_T35 t750 x27_1).f1) x34_2) < (x8_2.length : Int)
     rotate_left
     ·rw [if_neg c30] at H
      exact absurd H (by simp)
     rw [if_pos c30] at H
     have c30b0 : decide ((rd ((rd_T35 t750 x27_1).f1) x34_2) < (x8_2.length : Int)) = true := decide_eq_true c30
     clear c30
     obtain ⟨y776, hy776⟩ : ∃ y_ : List Bool, y_ = (x8_2.set ((rd ((rd_T35 t750 x27_1).f1) x34_2) : Int).toNat true) := ⟨_, rfl⟩
     replace H : (spec_AmountsOf.l1 k2 y776 t750 (t750.length : Int) x27_1 ((rd_T35 t750 x27_1).f1) (((rd_T35 t750 x27_1).f1).length : Int) (wrap64 (x34_2 + 1))) = some (r1, r2) := by first | (rw [hy776]; with_reducible exact H) | (have H2_ := (Option.bind_some _ _).symm.trans H; rw [hy776]; with_reducible exact H2_) | (have H2_ := (Option.bind_some _ _).symm.trans H; with_reducible exact H2_) | with_reducible exact H | (rw [hy776]; exact H) | exact H
     have Ny776 := Aside0.mk hy776
     clear hy776
     have H' := Aside0.mk H
     clear H
     have p775 : 0 ≤ (x34_2 : Int) := of_decide_eq_true ‹_›
     have q775 : x34_2 < (((rd_T35 t750 x27_1).f1).length : Int) := of_decide_eq_true ‹_›
     obtain ⟨ad775, e775, hx775_0⟩ := Kd.at_int (Kd.V_reads' HV.out).2.2 x34_2 p775 q775
     cases e775
     replace p775 := eq_true p775
     replace q775 := eq_true q775
     have p31 : 0 ≤ ((rd ((rd_T35 t750 x27_1).f1) x34_2) : Int) := of_decide_eq_true ‹_›
     have q31 : ((rd ((rd_T35 t750 x27_1).f1) x34_2) : Int) < ((x8_2.length : Int) : Int) := of_decide_eq_true ‹_›
     obtain ⟨go31, co31, eo31, gb31, gl31, cl31, HG31⟩ := Kd.R_form HO_8.out (by omega)
     (first | cases eo31 | (injection eo31 with ea_ en_ ec_; (first | subst ea_ | (injection ea_ with ea_; subst ea_)); subst ec_; clear en_))
     have GB31 := Aside0.mk gb31
     have GG31 := Aside0.mk HG31
     clear gb31 gl31 HG31
     obtain ⟨hx31_0, hf31_0⟩ := Kd.R_celln false HO_8.out ((rd ((rd_T35 t750 x27_1).f1) x34_2) : Int) p31 q31
     replace p31 := eq_true p31
     replace q31 := eq_true q31
     have HP32 := Kd.R_putg HO_8.out ((rd ((rd_T35 t750 x27_1).f1) x34_2) : Int) true
     go_wp2_with (first | ((with_reducible refine gate_store (t := 4) (p := 40) rfl ?_); refine store_event (t := 4) (p := 40) (v := ?vo_w33) (w1 := (wr.setCell ⟨go31, ((rd ((rd_T35 t750 x27_1).f1) x34_2) : Int).toNat, none⟩ (.bool true))) ?hg ?ho ?hn ?hr ?_; (case ho => rfl); (case hg => rfl); (case hn => rfl); (case hr => first | (go_simp; done) | (go_simp; rfl)); intro w33 hw; have hg : wr.grownBy w33 (some go31) := (by rw [hw]; exact HP32.2); have hp_ : Kd.R Kd.bool 4 w33 w.heap.size (fun _ => True) (.slice (some ⟨go31, 0, none⟩) x8_2.length co31) y776 := (by rw [hw, Ny776.out]; exact HP32.1); clear HP32; replace HO_25 := Aside0.mk (Kd.N_afterv (v := (.slice (some ⟨go31, 0, none⟩) x8_2.length co31)) (v1 := (.slice (some ⟨go31, 0, none⟩) x8_2.length co31)) (ok := (fun k_ => some k_ ≠ (.slice Ao10 t753.length co10 : Value).ownBlock ∧ some k_ ≠ (.slice Ao11 t756.length co11 : Value).ownBlock ∧ some k_ ≠ (.slice Ao12 t759.length co12 : Value).ownBlock ∧ some k_ ≠ (.slice Ao13 t762.length co13 : Value).ownBlock ∧ k_ ≠ gb749 ∧ k_ ≠ gb766 ∧ k_ ≠ gb774)) (by (with_reducible repeat (first | apply Kd.N_alloc | apply Kd.N_drewN | apply Kd.N_drew)); exact Kd.N_mono HO_25.out (fun _ hk => ⟨⟨hk.2.1, ⟨hk.2.2.1, ⟨hk.2.2.2.1, ⟨hk.2.2.2.2.1, ⟨hk.2.2.2.2.2.1, ⟨hk.2.2.2.2.2.2.1, hk.2.2.2.2.2.2.2⟩⟩⟩⟩⟩⟩, hk.1⟩)) hg (.inl rfl)); replace HO_767000 := Aside0.mk (Kd.N_afterv (v := (.slice (some ⟨go31, 0, none⟩) x8_2.length co31)) (v1 := (.slice (some ⟨go31, 0, none⟩) x8_2.length co31)) (ok := (fun k_ => some k_ ≠ (.slice Ao10 t753.length co10 : Value).ownBlock ∧ some k_ ≠ (.slice Ao11 t756.length co11 : Value).ownBlock ∧ some k_ ≠ (.slice Ao12 t759.length co12 : Value).ownBlock ∧ some k_ ≠ (.slice Ao13 t762.length co13 : Value).ownBlock ∧ k_ ≠ gb749 ∧ k_ ≠ gb766 ∧ k_ ≠ gb774)) (by (with_reducible repeat (first | apply Kd.N_alloc | apply Kd.N_drewN | apply Kd.N_drew)); exact Kd.N_mono HO_767000.out (fun _ hk => ⟨⟨hk.2.1, ⟨hk.2.2.1, ⟨hk.2.2.2.1, ⟨hk.2.2.2.2.1, ⟨hk.2.2.2.2.2.1, ⟨hk.2.2.2.2.2.2.1, hk.2.2.2.2.2.2.2⟩⟩⟩⟩⟩⟩, hk.1⟩)) hg (.inl rfl)); replace HO_767001 := Aside0.mk (Kd.R_over' (v := (.slice (some ⟨go31, 0, none⟩) x8_2.length co31)) (rk HO_767001) (Kd.R_typed HO_8.out) (by decide) hg); replace HO_767002 := Aside0.mk (Kd.R_over' (v := (.slice (some ⟨go31, 0, none⟩) x8_2.length co31)) (rk HO_767002) (Kd.R_typed HO_8.out) (by decide) hg); replace HO_767003 := Aside0.mk (Kd.R_over' (v := (.slice (some ⟨go31, 0, none⟩) x8_2.length co31)) (rk HO_767003) (Kd.R_typed HO_8.out) (by decide) hg); replace HO_767004 := Aside0.mk (Kd.R_over' (v := (.slice (some ⟨go31, 0, none⟩) x8_2.length co31)) (rk HO_767004) (Kd.R_typed HO_8.out) (by decide) hg); replace BK749 := Aside0.mk (blk_grown (g := gb749) (o := .cells #[.slice A0_0 l0_0.length c0_0, .slice A0_1 l0_1.length c0_1] 35 (0, 0)) (bk BK749) hg (Kd.R_ne HO_8.out BK749.out (by decide))); replace BK766 := Aside0.mk (blk_grown (g := gb766) (o := .cells #[.slice (some ad773) t750.length co9, .slice Ao10 t753.length co10, .slice Ao11 t756.length co11, .slice Ao12 t759.length co12, .slice Ao13 t762.length co13] 62 (0, 0)) (bk BK766) hg (Kd.R_ne HO_8.out BK766.out (by decide))); replace BK774 := Aside0.mk (blk_grown (g := gb774) (o := .cells #[.slice A773_0 ((rd_T35 t750 x27_1).f0).length c773_0, .slice (some ad775) ((rd_T35 t750 x27_1).f1).length c773_1] 35 (0, 0)) (bk BK774) hg (Kd.R_ne HO_8.out BK774.out (by decide))); replace HO_8 := Aside0.mk (hp_); replace HV := Aside0.mk (Kd.V_grown (by (with_reducible repeat (first | apply Kd.V_alloc | apply Kd.V_drewN | apply Kd.V_drew)); exact HV.out) hg (fun _ hk => hk)); replace HB := Aside0.mk ((by rw [hw]; exact below_set (HB.out) GB31.out : Below w.heap.size w w33)); clear hg hw hp_))
     go_roundg k2
     case measure => have := HK1.out; have := HK2.out; omega
     case rel => exact ⟨(y776), (wrap64 (x34_2 + 1)), (by first | rfl | (simp; done) | (simp [*]; done)), H', ⟨by have := HK1.out; have := HK2.out; omega⟩, ⟨rk HO_8⟩, ⟨by (with_reducible repeat (first | apply Kd.N_alloc | apply Kd.N_drewN | apply Kd.N_drew)); exact Kd.N_mono HO_25.out (fun _ hk => ⟨hk.2, ⟨hk.1.1, ⟨hk.1.2.1, ⟨hk.1.2.2.1, ⟨hk.1.2.2.2.1, ⟨hk.1.2.2.2.2.1, ⟨hk.1.2.2.2.2.2.1, hk.1.2.2.2.2.2.2⟩⟩⟩⟩⟩⟩⟩)⟩, ⟨by (with_reducible repeat (first | apply Kd.N_alloc | apply Kd.N_drewN | apply Kd.N_drew)); exact Kd.N_mono HO_767000.out (fun _ hk => ⟨hk.2, ⟨hk.1.1, ⟨hk.1.2.1, ⟨hk.1.2.2.1, ⟨hk.1.2.2.2.1, ⟨hk.1.2.2.2.2.1, ⟨hk.1.2.2.2.2.2.1, hk.1.2.2.2.2.2.2⟩⟩⟩⟩⟩⟩⟩)⟩, ⟨rk HO_767001⟩, ⟨rk HO_767002⟩, ⟨rk HO_767003⟩, ⟨rk HO_767004⟩, ⟨bk BK749⟩, ⟨bk BK766⟩, ⟨bk BK774⟩, ⟨by (with_reducible repeat (first | apply Kd.V_alloc | apply Kd.V_drewN | apply Kd.V_drew)); exact HV.out⟩, ⟨bw HB⟩⟩
def spec_SumsOf.l0 : Nat → List Bool → List (S35) → Int → Int → Option (List Int × Bool)
 | 0, _, _, _, _ => none
 | k + 1, x6, x20, x21, x22 => if x22 < x21 then (if 0 ≤ x22 then (if x22 < (x20.length : Int) then ((spec_veSum.f k ((rd_T35 x20 x22).f1)).bind fun t956 => (if 0 ≤ t956 then (if t956 < (x6.length : Int) then (spec_SumsOf.l0 k (x6.set (t956 : Int).toNat true) x20 x21 (wrap64 (x22 + 1))) else (none)) else (none))) else (none)) else (none)) else ((spec_plNumbers.f k x6).bind fun t958 => (some (t958, true)))
def spec_SumsOf.f (k : Nat) (l0_0 : List Int) (l0_1 : List Int) : Option (List Int × Bool) := (spec_plAsked.f k l0_0 l0_1 false).bind fun bt934 => (if bt934.2.2.2.2.2 = true then (if 301 ≤ 281474976710656 then (spec_SumsOf.l0 k (List.replicate 301 false) bt934.1 (bt934.1.length : Int) 0) else (none)) else (some (([] : List Int), false)))
set_option maxHeartbeats 8000000 in
set_option maxRecDepth 100000 in
theorem spec_SumsOf.calls (k : Nat) (A0_0 : Option Addr) (c0_0 : Nat) (l0_0 : List Int) (A0_1 : Option Addr) (c0_1 : Nat) (l0_1 : List Int) (r1 : List Int) (r2 : Bool) (w : World) (hr0_0 : Kd.C (Kd.int .i64) w A0_0 l0_0.length l0_0) (hc0_0 : l0_0.length ≤ c0_0) (hr0_1 : Kd.C (Kd.int .i64) w A0_1 l0_1.length l0_1) (hc0_1 : l0_1.length ≤ c0_1) (h : spec_SumsOf.f k l0_0 l0_1 = some (r1, r2)) :
  Calls Try.prog 35 #[.agg #[.slice A0_0 l0_0.length c0_0, .slice A0_1 l0_1.length c0_1]] w fun e w' => ∃ v0_ : Value, e = .returned (.tuple #[v0_, .bool r2]) ∧ Kd.R (Kd.int .i64) 3 w' w.heap.size (fun _ => True) v0_ r1 ∧ Below w.heap.size w w' := by
 have hu35 := Try.underlying35
 have hu62 := Try.underlying62
 have HR0_0 := Aside0.mk hr0_0
 have HC0_0 := Aside0.mk hc0_0
 clear hr0_0 hc0_0
 have HR0_1 := Aside0.mk hr0_1
 have HC0_1 := Aside0.mk hc0_1
 clear hr0_1 hc0_1
 have HB := Aside0.mk (Below.refl w.heap.size w)
 have H : ((spec_plAsked.f k l0_0 l0_1 false).bind fun bt934 => (if bt934.2.2.2.2.2 = true then (if 301 ≤ 281474976710656 then (spec_SumsOf.l0 k (List.replicate 301 false) bt934.1 (bt934.1.length : Int) 0) else (none)) else (some (([] : List Int), false)))) = some (r1, r2) := h
 clear h
 replace H := Option.bind_eq_some_iff.mp H
 obtain ⟨⟨t934, t937, t940, t943, t946, t949⟩, A20, H⟩ := H
 replace H : (if t949 = true then (if 301 ≤ 281474976710656 then (spec_SumsOf.l0 k (List.replicate 301 false) t934 (t934.length : Int) 0) else (none)) else (some (([] : List Int), false))) = some (r1, r2) := H
 have A2 := Aside0.mk A20
 clear A20
 by_cases c3 : t949 = true
 rotate_left
 ·replace c3 := Bool.eq_false_iff.mpr c3
  subst c3
  have H1 : (some (([] : List Int), false)) = some (r1, r2) := by rw [if_neg (show ¬ (false = true) by decide)] at H; exact H
  clear H
  have H := H1
  clear H1
  simp only [Option.some.injEq, Prod.mk.injEq] at H
  obtain ⟨rfl, rfl⟩ := H
  go_enter Try.func35, Try.ntmps35
  go_wp2_with (first | ((with_reducible refine gate_dst (N := 1) rfl ?_); refine bx 1 #[.slice A0_0 l0_0.length c0_0, .slice A0_1 l0_1.length c0_1] 35 ?_; intro gb933 hg w36 hbox hb; have BK933 := Aside0.mk (hbox); have GW933 := ge HB hg; have GE933 := ge HB hg; replace HB := bs HB hb; clear hb hbox hg; have hcz37_0 := bc0 BK933; have hcz37_1 := bc1 BK933; have hfz37_0 := blk_frozen BK933.out 0; have hfz37_1 := blk_frozen BK933.out 1) | ((with_reducible refine gate_callee (f := 40) rfl ?_); refine gl 11 Try.func40 #[.agg #[.slice A0_0 l0_0.length c0_0, .slice A0_1 l0_1.length c0_1], .bool false] ?_; (with_reducible refine (spec_plAsked.calls k (fun k_ => k_ < w.heap.size) _ _ l0_0 _ _ l0_1 false t934 t937 t940 t943 t946 false _ ?side1 ?side2 ?side3 A2.out).mono ?_); (case side1 => exact foot_and (Kd.F_below (Kd.C_F (Kd.heap_int .i64) HR0_0.out) (bw HB)) (Kd.F_below (Kd.C_F (Kd.heap_int .i64) HR0_1.out) (bw HB))); (case side2 => exact HC0_0.out); (case side3 => exact HC0_1.out); rintro e w44 ⟨p_, rfl, hq_, hb⟩; refine ⟨_, rfl, ?_⟩; replace BK933 := bb BK933 hb; replace HB := bs HB hb; (try clear hb); clear hq_))
  go_ret2
  exact ⟨_, by first | rfl | (simp [errW_none, errW_some] <;> rfl) | (simp [*, errW_none, errW_some] <;> rfl), by first | exact Kd.R_nil _ _ _ _ _ | exact Kd.N_nil _ _ _ _ _ | exact Kd.V_nil _ _ _ _ _ | exact Kd.Q_nil _ _ _ _ _ | exact Kd.S_nil _ _ _ _ _, bw HB⟩
 subst c3
 have H1 : (if 301 ≤ 281474976710656 then (spec_SumsOf.l0 k (List.replicate 301 false) t934 (t934.length : Int) 0) else (none)) = some (r1, r2) := by rw [if_pos rfl] at H; exact H
 clear H
 have H := H1
 clear H1
 by_cases c4 : 301 ≤ 281474976710656
 rotate_left
 ·rw [if_neg c4] at H
  exact absurd H (by simp)
 rw [if_pos c4] at H
 have c4b0 := eq_true c4
 have c4b1 : decide (301 ≤ 281474976710656) = true := decide_eq_true c4
 clear c4
 obtain ⟨y951, hy951⟩ : ∃ y_ : List Bool, y_ = (List.replicate 301 false) := ⟨_, rfl⟩
 replace H : (spec_SumsOf.l0 k y951 t934 (t934.length : Int) 0) = some (r1, r2) := by first | (rw [hy951]; with_reducible exact H) | (have H2_ := (Option.bind_some _ _).symm.trans H; rw [hy951]; with_reducible exact H2_) | (have H2_ := (Option.bind_some _ _).symm.trans H; with_reducible exact H2_) | with_reducible exact H | (rw [hy951]; exact H) | exact H
 have Ny951 := Aside0.mk hy951
 clear hy951
 have H' := Aside0.mk H
 clear H
 go_enter Try.func35, Try.ntmps35
 go_wp2_with (first | ((with_reducible refine gate_dst (N := 1) rfl ?_); refine bx 1 #[.slice A0_0 l0_0.length c0_0, .slice A0_1 l0_1.length c0_1] 35 ?_; intro gb933 hg w5 hbox hb; have BK933 := Aside0.mk (hbox); have GW933 := ge HB hg; have GE933 := ge HB hg; replace HB := bs HB hb; clear hb hbox hg; have hcz6_0 := bc0 BK933; have hcz6_1 := bc1 BK933; have hfz6_0 := blk_frozen BK933.out 0; have hfz6_1 := blk_frozen BK933.out 1) | ((with_reducible refine gate_callee (f := 40) rfl ?_); refine gl 11 Try.func40 #[.agg #[.slice A0_0 l0_0.length c0_0, .slice A0_1 l0_1.length c0_1], .bool false] ?_; (with_reducible refine (spec_plAsked.calls k (fun k_ => k_ < w.heap.size) _ _ l0_0 _ _ l0_1 false t934 t937 t940 t943 t946 true _ ?side1 ?side2 ?side3 A2.out).mono ?_); (case side1 => exact foot_and (Kd.F_below (Kd.C_F (Kd.heap_int .i64) HR0_0.out) (bw HB)) (Kd.F_below (Kd.C_F (Kd.heap_int .i64) HR0_1.out) (bw HB))); (case side2 => exact HC0_0.out); (case side3 => exact HC0_1.out); rintro e w13 ⟨p_, rfl, hq_, hb⟩; obtain ⟨gb950, v935, v938, v941, v944, v947, rfl, hge_, hbox_, ho0, ho1, ho2, ho3, ho4⟩ := hq_ rfl; refine ⟨_, rfl, ?_⟩; have HO936 := Aside0.mk (Kd.N_lower (Kd.N_mono (ok' := fun k_ => (some k_ ≠ (v938 : Value).ownBlock ∧ some k_ ≠ (v941 : Value).ownBlock ∧ some k_ ≠ (v944 : Value).ownBlock ∧ some k_ ≠ (v947 : Value).ownBlock ∧ k_ ≠ gb933) ∧ k_ ≠ gb950) ho0 (fun k_ hk_ => ⟨⟨hk_.2.1, hk_.2.2.1, hk_.2.2.2.1, hk_.2.2.2.2.1, Or.elim hk_.1 (fun hs_ => fun e_ => Nat.not_le.2 hs_ (by rw [e_]; exact GW933.out)) (fun hn_ => (Kd.freshB (g := gb933) (o := .cells #[.slice A0_0 l0_0.length c0_0, .slice A0_1 l0_1.length c0_1] 35 (0, 0)) (bk BK933) k_ hn_))⟩, hk_.2.2.2.2.2⟩)) (below_size (bw HB))); have HO939 := Aside0.mk (Kd.R_lower (Kd.R_mono (ok' := fun k_ => some k_ ≠ (v944 : Value).ownBlock ∧ some k_ ≠ (v947 : Value).ownBlock) ho1 (fun _ hk_ => hk_.2)) (below_size (bw HB))); have HO942 := Aside0.mk (Kd.R_lower (Kd.R_mono (ok' := fun k_ => True) ho2 (fun _ hk_ => trivial)) (below_size (bw HB))); have HO945 := Aside0.mk (Kd.R_lower (Kd.R_mono (ok' := fun k_ => some k_ ≠ (v938 : Value).ownBlock ∧ some k_ ≠ (v947 : Value).ownBlock) ho3 (fun _ hk_ => hk_.2)) (below_size (bw HB))); have HO948 := Aside0.mk (Kd.R_lower (Kd.R_mono (ok' := fun k_ => some k_ ≠ (v938 : Value).ownBlock ∧ some k_ ≠ (v944 : Value).ownBlock) ho4 (fun _ hk_ => hk_.2)) (below_size (bw HB))); have GW950 := ge' HB hge_; have GE950 := ge' HB hge_; have NB933_950 := nl' BK933 hge_; have NB950_933 := nr' BK933 hge_; replace BK933 := bb BK933 hb; replace HB := bs HB hb; (try clear hb); (try clear ho0); (try clear ho1); (try clear ho2); (try clear ho3); (try clear ho4); have BK950 := Aside0.mk hbox_; clear hbox_ hge_ hq_; obtain ⟨Ao8, co8, eo8⟩ := Kd.N_slice HO936.out; subst eo8; obtain ⟨Ao9, co9, eo9⟩ := Kd.R_slice HO939.out; subst eo9; obtain ⟨Ao10, co10, eo10⟩ := Kd.R_slice HO942.out; subst eo10; obtain ⟨Ao11, co11, eo11⟩ := Kd.R_slice HO945.out; subst eo11; obtain ⟨Ao12, co12, eo12⟩ := Kd.R_slice HO948.out; subst eo12) | ((with_reducible refine gate_dst (N := 16) rfl ?_); refine Kd.R_make Kd.bool _ 4 rfl (N := 16) rfl 93 _ _ rfl 301 rfl rfl Try.underlying93 (.bool false) 1 info4 rfl (by decide) (by omega) false (ok := fun _ => True) (okp := fun _ => True) rfl (fun _ hk => hk) trivial (by omega) (by omega) (Below.refl _ _) (Nat.le_refl _) ?_; intro v952 w14 ho15 hb hg_ hnew_; clear hg_ hnew_; (first | rw [← Ny951.out] at ho15 | (simp only [Int.reduceToNat] at ho15; rw [← Ny951.out] at ho15)); replace HO936 := Aside0.mk (Kd.N_elder' (by (with_reducible repeat (first | apply Kd.N_alloc | apply Kd.N_drewN | apply Kd.N_drew)); exact HO936.out) (Kd.R_base ho15) hb); replace HO939 := rb HO939 hb; replace HO942 := rb HO942 hb; replace HO945 := rb HO945 hb; replace HO948 := rb HO948 hb; have HO953 := lo ho15 HB; replace BK933 := bb BK933 hb; replace BK950 := bb BK950 hb; replace HB := bs HB hb; clear hb ho15; have hnb16 := NB950_933.out; have hnc16 := NB933_950.out; have hcz17_0 := bc0 BK950; have hcz17_1 := bc1 BK950; have hcz17_2 := bc2 BK950; have hcz17_3 := bc3 BK950; have hcz17_4 := bc4 BK950; have hfz17_0 := blk_frozen BK950.out 0; have hfz17_1 := blk_frozen BK950.out 1; have hfz17_2 := blk_frozen BK950.out 2; have hfz17_3 := blk_frozen BK950.out 3; have hfz17_4 := blk_frozen BK950.out 4))
 try simp only [Act.put, List.setIfInBounds_toArray, List.set_cons_zero, List.set_cons_succ]
 go_loopg [22] k (fun kq v22 w' => ∃ (x6_1 : List Bool) (x22_1 : Int), v22 = .int .i64 x22_1 ∧ Aside0 (spec_SumsOf.l0 kq x6_1 t934 (t934.length : Int) x22_1 = some (r1, r2)) ∧ Aside0 (kq ≤ k) ∧ Aside0 (Kd.R Kd.bool 4 w' w.heap.size (fun _ => True) v952 x6_1) ∧ Aside0 (Kd.N k35 35 w' w.heap.size (fun k_ => some k_ ≠ (v952 : Value).ownBlock ∧ some k_ ≠ ((.slice Ao9 t937.length co9) : Value).ownBlock ∧ some k_ ≠ ((.slice Ao10 t940.length co10) : Value).ownBlock ∧ some k_ ≠ ((.slice Ao11 t943.length co11) : Value).ownBlock ∧ some k_ ≠ ((.slice Ao12 t946.length co12) : Value).ownBlock ∧ k_ ≠ gb933 ∧ k_ ≠ gb950) (.slice Ao8 t934.length co8) t934) ∧ Aside0 (Kd.N k35 35 w' w.heap.size (fun k_ => some k_ ≠ (v952 : Value).ownBlock ∧ some k_ ≠ ((.slice Ao9 t937.length co9) : Value).ownBlock ∧ some k_ ≠ ((.slice Ao10 t940.length co10) : Value).ownBlock ∧ some k_ ≠ ((.slice Ao11 t943.length co11) : Value).ownBlock ∧ some k_ ≠ ((.slice Ao12 t946.length co12) : Value).ownBlock ∧ k_ ≠ gb933 ∧ k_ ≠ gb950) (.slice Ao8 t934.length co8) t934) ∧ Aside0 (Kd.R (Kd.int .i64) 3 w' w.heap.size (fun k_ => some k_ ≠ ((.slice Ao11 t943.length co11) : Value).ownBlock ∧ some k_ ≠ ((.slice Ao12 t946.length co12) : Value).ownBlock) (.slice Ao9 t937.length co9) t937) ∧ Aside0 (Kd.R k55 55 w' w.heap.size (fun _ => True) (.slice Ao10 t940.length co10) t940) ∧ Aside0 (Kd.R (Kd.int .i64) 3 w' w.heap.size (fun k_ => some k_ ≠ ((.slice Ao9 t937.length co9) : Value).ownBlock ∧ some k_ ≠ ((.slice Ao12 t946.length co12) : Value).ownBlock) (.slice Ao11 t943.length co11) t943) ∧ Aside0 (Kd.R (Kd.int .i64) 3 w' w.heap.size (fun k_ => some k_ ≠ ((.slice Ao9 t937.length co9) : Value).ownBlock ∧ some k_ ≠ ((.slice Ao11 t943.length co11) : Value).ownBlock) (.slice Ao12 t946.length co12) t946) ∧ Aside0 (w'.heap[gb933]? = some (.cells #[(.slice A0_0 l0_0.length c0_0), (.slice A0_1 l0_1.length c0_1)] 35 (0, 0))) ∧ Aside0 (w'.heap[gb950]? = some (.cells #[(.slice Ao8 t934.length co8), (.slice Ao9 t937.length co9), (.slice Ao10 t940.length co10), (.slice Ao11 t943.length co11), (.slice Ao12 t946.length co12)] 62 (0, 0))) ∧ Aside0 (Below w.heap.size w w'))
 case atStart => exact ⟨(y951), (0), (by first | rfl | (simp; done) | (simp [*]; done)), H', ⟨Nat.le_refl _⟩, ⟨rk HO953⟩, ⟨by (with_reducible repeat (first | apply Kd.N_alloc | apply Kd.N_drewN | apply Kd.N_drew)); exact Kd.N_mono HO936.out (fun _ hk => ⟨hk.2, ⟨hk.1.1.1, ⟨hk.1.1.2.1, ⟨hk.1.1.2.2.1, ⟨hk.1.1.2.2.2.1, ⟨hk.1.1.2.2.2.2, hk.1.2⟩⟩⟩⟩⟩⟩)⟩, ⟨by (with_reducible repeat (first | apply Kd.N_alloc | apply Kd.N_drewN | apply Kd.N_drew)); exact Kd.N_mono HO936.out (fun _ hk => ⟨hk.2, ⟨hk.1.1.1, ⟨hk.1.1.2.1, ⟨hk.1.1.2.2.1, ⟨hk.1.1.2.2.2.1, ⟨hk.1.1.2.2.2.2, hk.1.2⟩⟩⟩⟩⟩⟩)⟩, ⟨rk HO939⟩, ⟨rk HO942⟩, ⟨rk HO945⟩, ⟨rk HO948⟩, ⟨bk BK933⟩, ⟨bk BK950⟩, ⟨bw HB⟩⟩
 case round =>
  clear H'
  try clear c1
  try clear p2
  try clear c3
  try clear c4
  try clear c4b0
  try clear c4b1
  try clear c16
  try clear hcz17_0
  try clear hcz17_1
  try clear hcz17_2
  try clear hcz17_3
  try clear hcz17_4
  try clear hcz6_0
  try clear hcz6_1
  try clear hfz17_0
  try clear hfz17_1
  try clear hfz17_2
  try clear hfz17_3
  try clear hfz17_4
  try clear hfz6_0
  try clear hfz6_1
  obtain ⟨x6_1, x22_1, rfl, HA, HK1, HO_6, HO_20, HO_951000, HO_951001, HO_951002, HO_951003, HO_951004, BK933, BK950, HB⟩ := hrel
  cases gk with
  | zero => exact absurd HA.out (by simp [spec_SumsOf.l0])
  | succ k1 =>
   have H := HA.out
   clear HA
   simp only [spec_SumsOf.l0] at H
   by_cases c18 : x22_1 < (t934.length : Int)
   rotate_left
   ·rw [if_neg c18] at H
    have c18b0 : decide (x22_1 < (t934.length : Int)) = false := decide_eq_false c18
    clear c18
    replace H := Option.bind_eq_some_iff.mp H
    obtain ⟨t958, A330, H⟩ := H
    replace H : (some (t958, true)) = some (r1, r2) := H
    have A33 := Aside0.mk A330
    clear A330
    simp only [Option.some.injEq, Prod.mk.injEq] at H
    obtain ⟨rfl, rfl⟩ := H
    obtain ⟨Ao34, co34, eo34⟩ := Kd.R_slice HO_6.out
    subst eo34
    go_wp2_with (first | ((with_reducible refine gate_callee (f := 64) rfl ?_); refine gl 33 Try.func64 #[.slice Ao34 x6_1.length co34] ?_; (with_reducible refine (spec_plNumbers.calls k1 _ _ x6_1 t958 _ ?side1 ?side2 A33.out).mono ?_); (case side1 => exact cr HO_6); (case side2 => exact (Kd.R_reads' HO_6.out).2.1); rintro e w35 ⟨v959, rfl, ho0, hb⟩; refine ⟨_, rfl, ?_⟩; replace HO_6 := rb HO_6 hb; replace HO_20 := Aside0.mk (Kd.N_elder' (by (with_reducible repeat (first | apply Kd.N_alloc | apply Kd.N_drewN | apply Kd.N_drew)); exact HO_20.out) (Kd.R_base ho0) hb); replace HO_951000 := Aside0.mk (Kd.N_elder' (by (with_reducible repeat (first | apply Kd.N_alloc | apply Kd.N_drewN | apply Kd.N_drew)); exact HO_951000.out) (Kd.R_base ho0) hb); replace HO_951002 := rb HO_951002 hb; have HO960 := Aside0.mk (Kd.R_lower (Kd.R_new' (Kd.R_new' (Kd.R_new' ho0 (Kd.R_lt (rk HO_951001))) (Kd.R_lt (rk HO_951003))) (Kd.R_lt (rk HO_951004))) (below_size (bw HB))); replace HO_951001 := Aside0.mk (Kd.R_elder' (rk HO_951001) (Kd.R_base ho0) hb); replace HO_951003 := Aside0.mk (Kd.R_elder' (rk HO_951003) (Kd.R_base ho0) hb); replace HO_951004 := Aside0.mk (Kd.R_elder' (rk HO_951004) (Kd.R_base ho0) hb); replace BK933 := bb BK933 hb; replace BK950 := bb BK950 hb; replace HB := bs HB hb; (try clear hb); (try clear ho0)))
    go_ret2
    exact ⟨_, by first | rfl | (simp [errW_none, errW_some] <;> rfl) | (simp [*, errW_none, errW_some] <;> rfl), by (with_reducible repeat (first | apply Kd.R_alloc | apply Kd.R_drewN | apply Kd.R_drew)); exact Kd.R_mono HO960.out (fun _ hk => trivial), bw HB⟩
   rw [if_pos c18] at H
   have c18b0 : decide (x22_1 < (t934.length : Int)) = true := decide_eq_true c18
   clear c18
   by_cases c19 : 0 ≤ x22_1
   rotate_left
   ·rw [if_neg c19] at H
    exact absurd H (by simp)
   rw [if_pos c19] at H
   have c19b0 : decide (0 ≤ x22_1) = true := decide_eq_true c19
   clear c19
   by_cases c20 : x22_1 < (t934.length : Int)
   rotate_left
   ·rw [if_neg c20] at H
    exact absurd H (by simp)
   rw [if_pos c20] at H
   have c20b0 : decide (x22_1 < (t934.length : Int)) = true := decide_eq_true c20
   clear c20
   replace H := Option.bind_eq_some_iff.mp H
   obtain ⟨t956, A210, H⟩ := H
   replace H : (if 0 ≤ t956 then (if t956 < (x6_1.length : Int) then (spec_SumsOf.l0 k1 (x6_1.set (t956 : Int).toNat true) t934 (t934.length : Int) (wrap64 (x22_1 + 1))) else (none)) else (none)) = some (r1, r2) := H
   have A21 := Aside0.mk A210
   clear A210
   by_cases c22 : 0 ≤ t956
   rotate_left
   ·rw [if_neg c22] at H
    exact absurd H (by simp)
   rw [if_pos c22] at H
   have c22b0 : decide (0 ≤ t956) = true := decide_eq_true c22
   clear c22
   by_cases c23 : t956 < (x6_1.length : Int)
   rotate_left
   ·rw [if_neg c23] at H
    exact absurd H (by simp)
   rw [if_pos c23] at H
   have c23b0 : decide (t956 < (x6_1.length : Int)) = true := decide_eq_true c23
   clear c23
   obtain ⟨y957, hy957⟩ : ∃ y_ : List Bool, y_ = (x6_1.set (t956 : Int).toNat true) := ⟨_, rfl⟩
   replace H : (spec_SumsOf.l0 k1 y957 t934 (t934.length : Int) (wrap64 (x22_1 + 1))) = some (r1, r2) := by first | (rw [hy957]; with_reducible exact H) | (have H2_ := (Option.bind_some _ _).symm.trans H; rw [hy957]; with_reducible exact H2_) | (have H2_ := (Option.bind_some _ _).symm.trans H; with_reducible exact H2_) | with_reducible exact H | (rw [hy957]; exact H) | exact H
   have Ny957 := Aside0.mk hy957
   clear hy957
   have H' := Aside0.mk H
   clear H
   have p954 : 0 ≤ (x22_1 : Int) := of_decide_eq_true ‹_›
   have q954 : x22_1 < (t934.length : Int) := of_decide_eq_true ‹_›
   obtain ⟨ad954, A954_0, c954_0, A954_1, c954_1, e954, hx954_0, hx954_1, hl954_0, hi954_0, hl954_1, hi954_1⟩ := at_T35 (Kd.N_reads' HO_20.out).2.2 x22_1 p954 q954
   cases e954
   obtain ⟨ce954, hce954, hMe954, hcc954⟩ := Kd.N_get HO_20.out z35 x22_1 p954 (by first | exact q954 | exact of_decide_eq_true ‹_› | (have e_ := (Kd.N_reads' HO_20.out).1; omega))
   obtain ⟨ua954_0, uc954_0, ua954_1, uc954_1, rfl, ul954_0, ge954_0, ul954_1, ge954_1⟩ := k35_openF hMe954
   have hv954_0 := hcc954 0 _ rfl
   rw [Nat.add_zero] at hv954_0
   replace hv954_0 := Option.some.inj (hv954_0.symm.trans hx954_0)
   injection hv954_0 with hva_ hvn_ hvc_
   rw [hva_] at ge954_0
   rw [hvc_] at ul954_0
   have HL954_0 := Aside0.mk (show Kd.V (Kd.int .i64) 3 _ w.heap.size _ _ ((rd_T35 t934 x22_1).f0) from Kd.V_mk ul954_0 ge954_0)
   clear hva_ hvn_ hvc_ ge954_0 ul954_0
   have hv954_1 := hcc954 1 _ rfl
   rw [add_field _ _ 1 (by omega)] at hv954_1
   replace hv954_1 := Option.some.inj (hv954_1.symm.trans hx954_1)
   injection hv954_1 with hva_ hvn_ hvc_
   rw [hva_] at ge954_1
   rw [hvc_] at ul954_1
   have HL954_1 := Aside0.mk (show Kd.V (Kd.int .i64) 3 _ w.heap.size _ _ ((rd_T35 t934 x22_1).f1) from Kd.V_mk ul954_1 ge954_1)
   clear hva_ hvn_ hvc_ ge954_1 ul954_1
   clear hcc954 hce954
   have HR954_0 := Aside0.mk hi954_0
   have HC954_0 := Aside0.mk hl954_0
   clear hi954_0 hl954_0
   have HR954_1 := Aside0.mk hi954_1
   have HC954_1 := Aside0.mk hl954_1
   clear hi954_1 hl954_1
   replace p954 := eq_true p954
   replace q954 := eq_true q954
   go_wp2_with (first | ((with_reducible refine gate_dst (N := 8) rfl ?_); refine bx 8 #[.slice none 0 0, .slice none 0 0] 35 ?_; intro gb955 hg w25 hbox hb; replace HO_6 := rb HO_6 hb; replace HO_20 := Aside0.mk (Kd.N_below (Kd.N_elderB (by (with_reducible repeat (first | apply Kd.N_alloc | apply Kd.N_drewN | apply Kd.N_drew)); exact HO_20.out) gb955 (Nat.le_of_eq hg.symm)) hb); replace HO_951000 := Aside0.mk (Kd.N_below (Kd.N_elderB (by (with_reducible repeat (first | apply Kd.N_alloc | apply Kd.N_drewN | apply Kd.N_drew)); exact HO_951000.out) gb955 (Nat.le_of_eq hg.symm)) hb); replace HO_951001 := rb HO_951001 hb; replace HO_951002 := rb HO_951002 hb; replace HO_951003 := rb HO_951003 hb; replace HO_951004 := rb HO_951004 hb; replace HL954_0 := Aside0.mk (Kd.V_below (Kd.V_elderB (by (with_reducible repeat (first | apply Kd.V_alloc | apply Kd.V_drewN | apply Kd.V_drew)); exact HL954_0.out) gb955 (Nat.le_of_eq hg.symm)) hb); replace HL954_1 := Aside0.mk (Kd.V_below (Kd.V_elderB (by (with_reducible repeat (first | apply Kd.V_alloc | apply Kd.V_drewN | apply Kd.V_drew)); exact HL954_1.out) gb955 (Nat.le_of_eq hg.symm)) hb); replace HR954_0 := Aside0.mk (Kd.C_below (by repeat (first | (with_reducible exact HR954_0.out) | (with_reducible refine Kd.C_alloc ?_ _) | (with_reducible refine Kd.C_drewN ?_ _) | (with_reducible refine Kd.C_drew ?_) | exact HR954_0.out)) hb); replace HR954_1 := Aside0.mk (Kd.C_below (by repeat (first | (with_reducible exact HR954_1.out) | (with_reducible refine Kd.C_alloc ?_ _) | (with_reducible refine Kd.C_drewN ?_ _) | (with_reducible refine Kd.C_drew ?_) | exact HR954_1.out)) hb); have BK955 := Aside0.mk (hbox); have GW955 := ge HB hg; have GE955 := ge HB hg; replace HB := bs HB hb; have NB933_955 := nl BK933 hg; have NB955_933 := nr BK933 hg; replace BK933 := bb BK933 hb; have NB950_955 := nl BK950 hg; have NB955_950 := nr BK950 hg; replace BK950 := bb BK950 hb; clear hb hbox hg; have hnb26 := NB955_933.out; have hnc26 := NB933_955.out; have hnb27 := NB955_950.out; have hnc27 := NB950_955.out; have hcz28_0 := bc0 BK955; have hcz28_1 := bc1 BK955; have hfz28_0 := blk_frozen BK955.out 0; have hfz28_1 := blk_frozen BK955.out 1) | ((with_reducible refine gate_store (t := 35) (p := 8) rfl ?_); refine store_event (t := 35) (p := 8) (v := ?vo_w29) (w1 := ((w25.setCell ⟨gb955, 0, none⟩ (.slice A954_0 ((rd_T35 t934 x22_1).f0).length c954_0)).setCell ⟨gb955, 1, none⟩ (.slice A954_1 ((rd_T35 t934 x22_1).f1).length c954_1))) ?hg ?ho ?hn ?hr ?_; (case ho => rfl); (case hg => rfl); (case hn => rfl); (case hr => first | (go_simp; done) | (go_simp; rfl)); intro w29 hw; have n0_ : Aside0 (Kd.R Kd.bool 4 w29 w.heap.size (fun _ => True) v952 x6_1) := ⟨(by rw [hw]; exact (by (with_reducible repeat (first | apply Kd.R_alloc | apply Kd.R_drewN | apply Kd.R_drew)); exact Kd.R_mono (Kd.R_far (p := ⟨gb955, 1, none⟩) (Kd.R_far (p := ⟨gb955, 0, none⟩) (Kd.R_types HO_6.out BK955.out (by decide)) (fun _ hk => hk.2) (.slice A954_0 ((rd_T35 t934 x22_1).f0).length c954_0)) (fun _ hk => hk.2) (.slice A954_1 ((rd_T35 t934 x22_1).f1).length c954_1)) (fun _ hk => trivial)))⟩; have n1_ : Aside0 (Kd.N k35 35 w29 w.heap.size (fun k_ => some k_ ≠ (v952 : Value).ownBlock ∧ some k_ ≠ (.slice Ao9 t937.length co9 : Value).ownBlock ∧ some k_ ≠ (.slice Ao10 t940.length co10 : Value).ownBlock ∧ some k_ ≠ (.slice Ao11 t943.length co11 : Value).ownBlock ∧ some k_ ≠ (.slice Ao12 t946.length co12 : Value).ownBlock ∧ k_ ≠ gb933 ∧ k_ ≠ gb950 ∧ k_ ≠ gb955) (.slice (some ad954) t934.length co8) t934) := ⟨(by rw [hw]; exact (by (with_reducible repeat (first | apply Kd.N_alloc | apply Kd.N_drewN | apply Kd.N_drew)); exact Kd.N_mono (Kd.N_far (p := ⟨gb955, 1, none⟩) (Kd.N_far (p := ⟨gb955, 0, none⟩) (Kd.N_mono HO_20.out (fun k_ hk => (⟨hk, hk.2⟩ : _ ∧ k_ ≠ gb955))) (fun _ hk => hk.2) (.slice A954_0 ((rd_T35 t934 x22_1).f0).length c954_0)) (fun _ hk => hk.2) (.slice A954_1 ((rd_T35 t934 x22_1).f1).length c954_1)) (fun _ hk => ⟨hk.1.1.1, ⟨hk.1.1.2.1, ⟨hk.1.1.2.2.1, ⟨hk.1.1.2.2.2.1, ⟨hk.1.1.2.2.2.2.1, ⟨hk.1.1.2.2.2.2.2.1, ⟨hk.1.1.2.2.2.2.2.2, hk.1.2⟩⟩⟩⟩⟩⟩⟩)))⟩; have n2_ : Aside0 (Kd.N k35 35 w29 w.heap.size (fun k_ => some k_ ≠ (v952 : Value).ownBlock ∧ some k_ ≠ (.slice Ao9 t937.length co9 : Value).ownBlock ∧ some k_ ≠ (.slice Ao10 t940.length co10 : Value).ownBlock ∧ some k_ ≠ (.slice Ao11 t943.length co11 : Value).ownBlock ∧ some k_ ≠ (.slice Ao12 t946.length co12 : Value).ownBlock ∧ k_ ≠ gb933 ∧ k_ ≠ gb950 ∧ k_ ≠ gb955) (.slice (some ad954) t934.length co8) t934) := ⟨(by rw [hw]; exact (by (with_reducible repeat (first | apply Kd.N_alloc | apply Kd.N_drewN | apply Kd.N_drew)); exact Kd.N_mono (Kd.N_far (p := ⟨gb955, 1, none⟩) (Kd.N_far (p := ⟨gb955, 0, none⟩) (Kd.N_mono HO_951000.out (fun k_ hk => (⟨hk, hk.2⟩ : _ ∧ k_ ≠ gb955))) (fun _ hk => hk.2) (.slice A954_0 ((rd_T35 t934 x22_1).f0).length c954_0)) (fun _ hk => hk.2) (.slice A954_1 ((rd_T35 t934 x22_1).f1).length c954_1)) (fun _ hk => ⟨hk.1.1.1, ⟨hk.1.1.2.1, ⟨hk.1.1.2.2.1, ⟨hk.1.1.2.2.2.1, ⟨hk.1.1.2.2.2.2.1, ⟨hk.1.1.2.2.2.2.2.1, ⟨hk.1.1.2.2.2.2.2.2, hk.1.2⟩⟩⟩⟩⟩⟩⟩)))⟩; have n3_ : Aside0 (Kd.R (Kd.int .i64) 3 w29 w.heap.size (fun k_ => some k_ ≠ (.slice Ao11 t943.length co11 : Value).ownBlock ∧ some k_ ≠ (.slice Ao12 t946.length co12 : Value).ownBlock) (.slice Ao9 t937.length co9) t937) := ⟨(by rw [hw]; exact (by (with_reducible repeat (first | apply Kd.R_alloc | apply Kd.R_drewN | apply Kd.R_drew)); exact Kd.R_mono (Kd.R_far (p := ⟨gb955, 1, none⟩) (Kd.R_far (p := ⟨gb955, 0, none⟩) (Kd.R_types HO_951001.out BK955.out (by decide)) (fun _ hk => hk.2) (.slice A954_0 ((rd_T35 t934 x22_1).f0).length c954_0)) (fun _ hk => hk.2) (.slice A954_1 ((rd_T35 t934 x22_1).f1).length c954_1)) (fun _ hk => ⟨hk.1.1, hk.1.2⟩)))⟩; have n4_ : Aside0 (Kd.R k55 55 w29 w.heap.size (fun _ => True) (.slice Ao10 t940.length co10) t940) := ⟨(by rw [hw]; exact (by (with_reducible repeat (first | apply Kd.R_alloc | apply Kd.R_drewN | apply Kd.R_drew)); exact Kd.R_mono (Kd.R_far (p := ⟨gb955, 1, none⟩) (Kd.R_far (p := ⟨gb955, 0, none⟩) (Kd.R_types HO_951002.out BK955.out (by decide)) (fun _ hk => hk.2) (.slice A954_0 ((rd_T35 t934 x22_1).f0).length c954_0)) (fun _ hk => hk.2) (.slice A954_1 ((rd_T35 t934 x22_1).f1).length c954_1)) (fun _ hk => trivial)))⟩; have n5_ : Aside0 (Kd.R (Kd.int .i64) 3 w29 w.heap.size (fun k_ => some k_ ≠ (.slice Ao9 t937.length co9 : Value).ownBlock ∧ some k_ ≠ (.slice Ao12 t946.length co12 : Value).ownBlock) (.slice Ao11 t943.length co11) t943) := ⟨(by rw [hw]; exact (by (with_reducible repeat (first | apply Kd.R_alloc | apply Kd.R_drewN | apply Kd.R_drew)); exact Kd.R_mono (Kd.R_far (p := ⟨gb955, 1, none⟩) (Kd.R_far (p := ⟨gb955, 0, none⟩) (Kd.R_types HO_951003.out BK955.out (by decide)) (fun _ hk => hk.2) (.slice A954_0 ((rd_T35 t934 x22_1).f0).length c954_0)) (fun _ hk => hk.2) (.slice A954_1 ((rd_T35 t934 x22_1).f1).length c954_1)) (fun _ hk => ⟨hk.1.1, hk.1.2⟩)))⟩; have n6_ : Aside0 (Kd.R (Kd.int .i64) 3 w29 w.heap.size (fun k_ => some k_ ≠ (.slice Ao9 t937.length co9 : Value).ownBlock ∧ some k_ ≠ (.slice Ao11 t943.length co11 : Value).ownBlock) (.slice Ao12 t946.length co12) t946) := ⟨(by rw [hw]; exact (by (with_reducible repeat (first | apply Kd.R_alloc | apply Kd.R_drewN | apply Kd.R_drew)); exact Kd.R_mono (Kd.R_far (p := ⟨gb955, 1, none⟩) (Kd.R_far (p := ⟨gb955, 0, none⟩) (Kd.R_types HO_951004.out BK955.out (by decide)) (fun _ hk => hk.2) (.slice A954_0 ((rd_T35 t934 x22_1).f0).length c954_0)) (fun _ hk => hk.2) (.slice A954_1 ((rd_T35 t934 x22_1).f1).length c954_1)) (fun _ hk => ⟨hk.1.1, hk.1.2⟩)))⟩; have n7_ : Aside0 (Kd.V (Kd.int .i64) 3 w29 w.heap.size (fun k_ => some k_ ≠ (v952 : Value).ownBlock ∧ some k_ ≠ (.slice (some ad954) t934.length co8 : Value).ownBlock ∧ some k_ ≠ (.slice Ao9 t937.length co9 : Value).ownBlock ∧ some k_ ≠ (.slice Ao10 t940.length co10 : Value).ownBlock ∧ some k_ ≠ (.slice Ao11 t943.length co11 : Value).ownBlock ∧ some k_ ≠ (.slice Ao12 t946.length co12 : Value).ownBlock ∧ k_ ≠ gb933 ∧ k_ ≠ gb950 ∧ k_ ≠ gb955) (.slice A954_0 ((rd_T35 t934 x22_1).f0).length c954_0) ((rd_T35 t934 x22_1).f0)) := ⟨(by rw [hw]; exact (by (with_reducible repeat (first | apply Kd.V_alloc | apply Kd.V_drewN | apply Kd.V_drew)); exact Kd.V_mono (Kd.V_far (p := ⟨gb955, 1, none⟩) (Kd.V_far (p := ⟨gb955, 0, none⟩) (Kd.V_mono HL954_0.out (fun k_ hk => (⟨hk, hk.2⟩ : _ ∧ k_ ≠ gb955))) (fun _ hk => hk.2) (.slice A954_0 ((rd_T35 t934 x22_1).f0).length c954_0)) (fun _ hk => hk.2) (.slice A954_1 ((rd_T35 t934 x22_1).f1).length c954_1)) (fun _ hk => ⟨hk.1.1.1.1, ⟨hk.1.1.2, ⟨hk.1.1.1.2.1, ⟨hk.1.1.1.2.2.1, ⟨hk.1.1.1.2.2.2.1, ⟨hk.1.1.1.2.2.2.2.1, ⟨hk.1.1.1.2.2.2.2.2.1, ⟨hk.1.1.1.2.2.2.2.2.2, hk.1.2⟩⟩⟩⟩⟩⟩⟩⟩)))⟩; have n8_ : Aside0 (Kd.V (Kd.int .i64) 3 w29 w.heap.size (fun k_ => some k_ ≠ (v952 : Value).ownBlock ∧ some k_ ≠ (.slice (some ad954) t934.length co8 : Value).ownBlock ∧ some k_ ≠ (.slice Ao9 t937.length co9 : Value).ownBlock ∧ some k_ ≠ (.slice Ao10 t940.length co10 : Value).ownBlock ∧ some k_ ≠ (.slice Ao11 t943.length co11 : Value).ownBlock ∧ some k_ ≠ (.slice Ao12 t946.length co12 : Value).ownBlock ∧ k_ ≠ gb933 ∧ k_ ≠ gb950 ∧ k_ ≠ gb955) (.slice A954_1 ((rd_T35 t934 x22_1).f1).length c954_1) ((rd_T35 t934 x22_1).f1)) := ⟨(by rw [hw]; exact (by (with_reducible repeat (first | apply Kd.V_alloc | apply Kd.V_drewN | apply Kd.V_drew)); exact Kd.V_mono (Kd.V_far (p := ⟨gb955, 1, none⟩) (Kd.V_far (p := ⟨gb955, 0, none⟩) (Kd.V_mono HL954_1.out (fun k_ hk => (⟨hk, hk.2⟩ : _ ∧ k_ ≠ gb955))) (fun _ hk => hk.2) (.slice A954_0 ((rd_T35 t934 x22_1).f0).length c954_0)) (fun _ hk => hk.2) (.slice A954_1 ((rd_T35 t934 x22_1).f1).length c954_1)) (fun _ hk => ⟨hk.1.1.1.1, ⟨hk.1.1.2, ⟨hk.1.1.1.2.1, ⟨hk.1.1.1.2.2.1, ⟨hk.1.1.1.2.2.2.1, ⟨hk.1.1.1.2.2.2.2.1, ⟨hk.1.1.1.2.2.2.2.2.1, ⟨hk.1.1.1.2.2.2.2.2.2, hk.1.2⟩⟩⟩⟩⟩⟩⟩⟩)))⟩; have n9_ : Aside0 (w29.heap[gb933]? = some (.cells #[.slice A0_0 l0_0.length c0_0, .slice A0_1 l0_1.length c0_1] 35 (0, 0))) := ⟨(by rw [hw]; exact (bk BK933))⟩; have n10_ : Aside0 (w29.heap[gb950]? = some (.cells #[.slice (some ad954) t934.length co8, .slice Ao9 t937.length co9, .slice Ao10 t940.length co10, .slice Ao11 t943.length co11, .slice Ao12 t946.length co12] 62 (0, 0))) := ⟨(by rw [hw]; exact (bk BK950))⟩; have n11_ : Aside0 (w29.heap[gb955]? = some (.cells #[.slice A954_0 ((rd_T35 t934 x22_1).f0).length c954_0, .slice A954_1 ((rd_T35 t934 x22_1).f1).length c954_1] 35 (0, 0))) := ⟨(by rw [hw]; exact (by (with_reducible repeat (first | refine blk_drewN ?_ _ | refine blk_drew ?_ | refine blk_alloc ?_ _)); refine blk_put (cs := #[.slice A954_0 ((rd_T35 t934 x22_1).f0).length c954_0, .slice none 0 0]) ?_ 1 _ rfl; (with_reducible repeat (first | refine blk_drewN ?_ _ | refine blk_drew ?_ | refine blk_alloc ?_ _)); refine blk_put (cs := #[.slice none 0 0, .slice none 0 0]) ?_ 0 _ rfl; exact bk BK955))⟩; have n12_ : Aside0 (Below w.heap.size w w29) := ⟨(by rw [hw]; exact (bw HB))⟩; clear hw; clear HO_6; clear HO_20; clear HO_951000; clear HO_951001; clear HO_951002; clear HO_951003; clear HO_951004; clear HL954_0; clear HL954_1; clear BK933; clear BK950; clear BK955; clear HB; have HO_6 := n0_; have HO_20 := n1_; have HO_951000 := n2_; have HO_951001 := n3_; have HO_951002 := n4_; have HO_951003 := n5_; have HO_951004 := n6_; have HL954_0 := n7_; have HL954_1 := n8_; have BK933 := n9_; have BK950 := n10_; have BK955 := n11_; have HB := n12_; clear n0_ n1_ n2_ n3_ n4_ n5_ n6_ n7_ n8_ n9_ n10_ n11_ n12_; have hcz30_0 := bc0 BK955; have hcz30_1 := bc1 BK955; have hfz30_0 := blk_frozen BK955.out 0; have hfz30_1 := blk_frozen BK955.out 1) | ((with_reducible refine gate_callee (f := 66) rfl ?_); refine gl 29 Try.func66 #[.slice A954_1 ((rd_T35 t934 x22_1).f1).length c954_1] ?_; (with_reducible refine (spec_veSum.calls k1 _ _ ((rd_T35 t934 x22_1).f1) t956 _ ?side1 ?side2 A21.out).mono ?_); (case side1 => first | exact (Kd.V_reads' HL954_1.out).2.2 | repeat (first | exact (by repeat (first | (with_reducible exact HR954_1.out) | (with_reducible refine Kd.C_alloc ?_ _) | (with_reducible refine Kd.C_drewN ?_ _) | (with_reducible refine Kd.C_drew ?_) | exact HR954_1.out)) | (with_reducible refine Kd.C_alloc ?_ _) | (with_reducible refine Kd.C_drewN ?_ _) | (with_reducible refine Kd.C_drew ?_))); (case side2 => exact HC954_1.out); rintro e w' ⟨rfl, ⟨nd, rfl⟩⟩; refine ⟨_, rfl, ?_⟩; (try (rw [drewN_self w29]; generalize hq_ : World.drewN w29 _ = w29; have n0_ : Aside0 (Kd.V (Kd.int .i64) 3 w29 w.heap.size (fun k_ => some k_ ≠ (.slice (some ad954) t934.length co8 : Value).ownBlock ∧ some k_ ≠ (v952 : Value).ownBlock ∧ some k_ ≠ (.slice Ao9 t937.length co9 : Value).ownBlock ∧ some k_ ≠ (.slice Ao10 t940.length co10 : Value).ownBlock ∧ some k_ ≠ (.slice Ao11 t943.length co11 : Value).ownBlock ∧ some k_ ≠ (.slice Ao12 t946.length co12 : Value).ownBlock ∧ k_ ≠ gb933 ∧ k_ ≠ gb950 ∧ k_ ≠ gb955) (.slice A954_0 ((rd_T35 t934 x22_1).f0).length c954_0) ((rd_T35 t934 x22_1).f0)) := ⟨by rw [← hq_]; exact (by (with_reducible repeat (first | apply Kd.V_alloc | apply Kd.V_drewN | apply Kd.V_drew)); exact Kd.V_mono HL954_0.out (fun _ hk => ⟨hk.2.1, ⟨hk.1, ⟨hk.2.2.1, ⟨hk.2.2.2.1, ⟨hk.2.2.2.2.1, ⟨hk.2.2.2.2.2.1, ⟨hk.2.2.2.2.2.2.1, ⟨hk.2.2.2.2.2.2.2.1, hk.2.2.2.2.2.2.2.2⟩⟩⟩⟩⟩⟩⟩⟩))⟩; have n1_ : Aside0 (Kd.V (Kd.int .i64) 3 w29 w.heap.size (fun k_ => some k_ ≠ (.slice (some ad954) t934.length co8 : Value).ownBlock ∧ some k_ ≠ (v952 : Value).ownBlock ∧ some k_ ≠ (.slice Ao9 t937.length co9 : Value).ownBlock ∧ some k_ ≠ (.slice Ao10 t940.length co10 : Value).ownBlock ∧ some k_ ≠ (.slice Ao11 t943.length co11 : Value).ownBlock ∧ some k_ ≠ (.slice Ao12 t946.length co12 : Value).ownBlock ∧ k_ ≠ gb933 ∧ k_ ≠ gb950 ∧ k_ ≠ gb955) (.slice A954_1 ((rd_T35 t934 x22_1).f1).length c954_1) ((rd_T35 t934 x22_1).f1)) := ⟨by rw [← hq_]; exact (by (with_reducible repeat (first | apply Kd.V_alloc | apply Kd.V_drewN | apply Kd.V_drew)); exact Kd.V_mono HL954_1.out (fun _ hk => ⟨hk.2.1, ⟨hk.1, ⟨hk.2.2.1, ⟨hk.2.2.2.1, ⟨hk.2.2.2.2.1, ⟨hk.2.2.2.2.2.1, ⟨hk.2.2.2.2.2.2.1, ⟨hk.2.2.2.2.2.2.2.1, hk.2.2.2.2.2.2.2.2⟩⟩⟩⟩⟩⟩⟩⟩))⟩; have n2_ : Aside0 (Kd.N k35 35 w29 w.heap.size (fun k_ => some k_ ≠ (v952 : Value).ownBlock ∧ some k_ ≠ (.slice Ao9 t937.length co9 : Value).ownBlock ∧ some k_ ≠ (.slice Ao10 t940.length co10 : Value).ownBlock ∧ some k_ ≠ (.slice Ao11 t943.length co11 : Value).ownBlock ∧ some k_ ≠ (.slice Ao12 t946.length co12 : Value).ownBlock ∧ k_ ≠ gb933 ∧ k_ ≠ gb950 ∧ k_ ≠ gb955) (.slice (some ad954) t934.length co8) t934) := ⟨by rw [← hq_]; exact (by (with_reducible repeat (first | apply Kd.N_alloc | apply Kd.N_drewN | apply Kd.N_drew)); exact HO_20.out)⟩; have n3_ : Aside0 (Kd.R Kd.bool 4 w29 w.heap.size (fun _ => True) v952 x6_1) := ⟨by rw [← hq_]; exact (rk HO_6)⟩; have n4_ : Aside0 (Kd.N k35 35 w29 w.heap.size (fun k_ => some k_ ≠ (v952 : Value).ownBlock ∧ some k_ ≠ (.slice Ao9 t937.length co9 : Value).ownBlock ∧ some k_ ≠ (.slice Ao10 t940.length co10 : Value).ownBlock ∧ some k_ ≠ (.slice Ao11 t943.length co11 : Value).ownBlock ∧ some k_ ≠ (.slice Ao12 t946.length co12 : Value).ownBlock ∧ k_ ≠ gb933 ∧ k_ ≠ gb950 ∧ k_ ≠ gb955) (.slice (some ad954) t934.length co8) t934) := ⟨by rw [← hq_]; exact (by (with_reducible repeat (first | apply Kd.N_alloc | apply Kd.N_drewN | apply Kd.N_drew)); exact HO_951000.out)⟩; have n5_ : Aside0 (Kd.R (Kd.int .i64) 3 w29 w.heap.size (fun k_ => some k_ ≠ (.slice Ao11 t943.length co11 : Value).ownBlock ∧ some k_ ≠ (.slice Ao12 t946.length co12 : Value).ownBlock) (.slice Ao9 t937.length co9) t937) := ⟨by rw [← hq_]; exact (rk HO_951001)⟩; have n6_ : Aside0 (Kd.R k55 55 w29 w.heap.size (fun _ => True) (.slice Ao10 t940.length co10) t940) := ⟨by rw [← hq_]; exact (rk HO_951002)⟩; have n7_ : Aside0 (Kd.R (Kd.int .i64) 3 w29 w.heap.size (fun k_ => some k_ ≠ (.slice Ao9 t937.length co9 : Value).ownBlock ∧ some k_ ≠ (.slice Ao12 t946.length co12 : Value).ownBlock) (.slice Ao11 t943.length co11) t943) := ⟨by rw [← hq_]; exact (rk HO_951003)⟩; have n8_ : Aside0 (Kd.R (Kd.int .i64) 3 w29 w.heap.size (fun k_ => some k_ ≠ (.slice Ao9 t937.length co9 : Value).ownBlock ∧ some k_ ≠ (.slice Ao11 t943.length co11 : Value).ownBlock) (.slice Ao12 t946.length co12) t946) := ⟨by rw [← hq_]; exact (rk HO_951004)⟩; have n9_ : Aside0 (w29.heap[gb933]? = some (.cells #[.slice A0_0 l0_0.length c0_0, .slice A0_1 l0_1.length c0_1] 35 (0, 0))) := ⟨by rw [← hq_]; exact (bk BK933)⟩; have n10_ : Aside0 (w29.heap[gb950]? = some (.cells #[.slice (some ad954) t934.length co8, .slice Ao9 t937.length co9, .slice Ao10 t940.length co10, .slice Ao11 t943.length co11, .slice Ao12 t946.length co12] 62 (0, 0))) := ⟨by rw [← hq_]; exact (bk BK950)⟩; have n11_ : Aside0 (w29.heap[gb955]? = some (.cells #[.slice A954_0 ((rd_T35 t934 x22_1).f0).length c954_0, .slice A954_1 ((rd_T35 t934 x22_1).f1).length c954_1] 35 (0, 0))) := ⟨by rw [← hq_]; exact (bk BK955)⟩; have n12_ : Aside0 (Below w.heap.size w w29) := ⟨by rw [← hq_]; exact (bw HB)⟩; have n13_ : Aside0 (Kd.C (Kd.int .i64) w29 A954_0 ((rd_T35 t934 x22_1).f0).length ((rd_T35 t934 x22_1).f0)) := ⟨by first | exact (Kd.V_reads' n0_.out).2.2 | (rw [← hq_]; exact (by repeat (first | (with_reducible exact HR954_0.out) | (with_reducible refine Kd.C_alloc ?_ _) | (with_reducible refine Kd.C_drewN ?_ _) | (with_reducible refine Kd.C_drew ?_) | exact HR954_0.out)))⟩; have n14_ : Aside0 (Kd.C (Kd.int .i64) w29 A954_1 ((rd_T35 t934 x22_1).f1).length ((rd_T35 t934 x22_1).f1)) := ⟨by first | exact (Kd.V_reads' n1_.out).2.2 | (rw [← hq_]; exact (by repeat (first | (with_reducible exact HR954_1.out) | (with_reducible refine Kd.C_alloc ?_ _) | (with_reducible refine Kd.C_drewN ?_ _) | (with_reducible refine Kd.C_drew ?_) | exact HR954_1.out)))⟩; clear HL954_0 HL954_1 HO_20 HO_6 HO_951000 HO_951001 HO_951002 HO_951003 HO_951004 BK933 BK950 BK955 HB HR954_0 HR954_1 hq_; have HL954_0 := n0_; have HL954_1 := n1_; have HO_20 := n2_; have HO_6 := n3_; have HO_951000 := n4_; have HO_951001 := n5_; have HO_951002 := n6_; have HO_951003 := n7_; have HO_951004 := n8_; have BK933 := n9_; have BK950 := n10_; have BK955 := n11_; have HB := n12_; have HR954_0 := n13_; have HR954_1 := n14_; clear n0_ n1_ n2_ n3_ n4_ n5_ n6_ n7_ n8_ n9_ n10_ n11_ n12_ n13_ n14_)); have p24 : 0 ≤ (t956 : Int) := of_decide_eq_true ‹_›; have q24 : (t956 : Int) < ((x6_1.length : Int) : Int) := of_decide_eq_true ‹_›; obtain ⟨go24, co24, eo24, gb24, gl24, cl24, HG24⟩ := Kd.R_form HO_6.out (by omega); (first | cases eo24 | (injection eo24 with ea_ en_ ec_; (first | subst ea_ | (injection ea_ with ea_; subst ea_)); subst ec_; clear en_)); have GB24 := Aside0.mk gb24; have GG24 := Aside0.mk HG24; clear gb24 gl24 HG24; obtain ⟨hx24_0, hf24_0⟩ := Kd.R_celln false HO_6.out (t956 : Int) p24 q24; replace p24 := eq_true p24; replace q24 := eq_true q24; obtain ⟨hy31_, hz31_⟩ := Kd.R_celln false HO_6.out (t956 : Int) (of_decide_eq_true ‹_›) (of_decide_eq_true ‹_›); have HP31 := Kd.R_putg HO_6.out (t956 : Int) true) | ((with_reducible refine gate_store (t := 4) (p := 30) rfl ?_); refine store_event (t := 4) (p := 30) (v := ?vo_w32) (w1 := (w29.setCell ⟨go24, (t956 : Int).toNat, none⟩ (.bool true))) ?hg ?ho ?hn ?hr ?_; (case ho => rfl); (case hg => rfl); (case hn => rfl); (case hr => first | (go_simp; done) | (go_simp; rfl)); intro w32 hw; have hg : w29.grownBy w32 (some go24) := (by rw [hw]; exact HP31.2); have hp_ : Kd.R Kd.bool 4 w32 w.heap.size (fun _ => True) (.slice (some ⟨go24, 0, none⟩) x6_1.length co24) y957 := (by rw [hw, Ny957.out]; exact HP31.1); clear HP31; replace HO_20 := Aside0.mk (Kd.N_afterv (v := (.slice (some ⟨go24, 0, none⟩) x6_1.length co24)) (v1 := (.slice (some ⟨go24, 0, none⟩) x6_1.length co24)) (ok := (fun k_ => some k_ ≠ (.slice Ao9 t937.length co9 : Value).ownBlock ∧ some k_ ≠ (.slice Ao10 t940.length co10 : Value).ownBlock ∧ some k_ ≠ (.slice Ao11 t943.length co11 : Value).ownBlock ∧ some k_ ≠ (.slice Ao12 t946.length co12 : Value).ownBlock ∧ k_ ≠ gb933 ∧ k_ ≠ gb950 ∧ k_ ≠ gb955)) (by (with_reducible repeat (first | apply Kd.N_alloc | apply Kd.N_drewN | apply Kd.N_drew)); exact Kd.N_mono HO_20.out (fun _ hk => ⟨⟨hk.2.1, ⟨hk.2.2.1, ⟨hk.2.2.2.1, ⟨hk.2.2.2.2.1, ⟨hk.2.2.2.2.2.1, ⟨hk.2.2.2.2.2.2.1, hk.2.2.2.2.2.2.2⟩⟩⟩⟩⟩⟩, hk.1⟩)) hg (.inl rfl)); replace HO_951000 := Aside0.mk (Kd.N_afterv (v := (.slice (some ⟨go24, 0, none⟩) x6_1.length co24)) (v1 := (.slice (some ⟨go24, 0, none⟩) x6_1.length co24)) (ok := (fun k_ => some k_ ≠ (.slice Ao9 t937.length co9 : Value).ownBlock ∧ some k_ ≠ (.slice Ao10 t940.length co10 : Value).ownBlock ∧ some k_ ≠ (.slice Ao11 t943.length co11 : Value).ownBlock ∧ some k_ ≠ (.slice Ao12 t946.length co12 : Value).ownBlock ∧ k_ ≠ gb933 ∧ k_ ≠ gb950 ∧ k_ ≠ gb955)) (by (with_reducible repeat (first | apply Kd.N_alloc | apply Kd.N_drewN | apply Kd.N_drew)); exact Kd.N_mono HO_951000.out (fun _ hk => ⟨⟨hk.2.1, ⟨hk.2.2.1, ⟨hk.2.2.2.1, ⟨hk.2.2.2.2.1, ⟨hk.2.2.2.2.2.1, ⟨hk.2.2.2.2.2.2.1, hk.2.2.2.2.2.2.2⟩⟩⟩⟩⟩⟩, hk.1⟩)) hg (.inl rfl)); replace HO_951001 := Aside0.mk (Kd.R_over' (v := (.slice (some ⟨go24, 0, none⟩) x6_1.length co24)) (rk HO_951001) (Kd.R_typed HO_6.out) (by decide) hg); replace HO_951002 := Aside0.mk (Kd.R_over' (v := (.slice (some ⟨go24, 0, none⟩) x6_1.length co24)) (rk HO_951002) (Kd.R_typed HO_6.out) (by decide) hg); replace HO_951003 := Aside0.mk (Kd.R_over' (v := (.slice (some ⟨go24, 0, none⟩) x6_1.length co24)) (rk HO_951003) (Kd.R_typed HO_6.out) (by decide) hg); replace HO_951004 := Aside0.mk (Kd.R_over' (v := (.slice (some ⟨go24, 0, none⟩) x6_1.length co24)) (rk HO_951004) (Kd.R_typed HO_6.out) (by decide) hg); replace BK933 := Aside0.mk (blk_grown (g := gb933) (o := .cells #[.slice A0_0 l0_0.length c0_0, .slice A0_1 l0_1.length c0_1] 35 (0, 0)) (bk BK933) hg (Kd.R_ne HO_6.out BK933.out (by decide))); replace BK950 := Aside0.mk (blk_grown (g := gb950) (o := .cells #[.slice (some ad954) t934.length co8, .slice Ao9 t937.length co9, .slice Ao10 t940.length co10, .slice Ao11 t943.length co11, .slice Ao12 t946.length co12] 62 (0, 0)) (bk BK950) hg (Kd.R_ne HO_6.out BK950.out (by decide))); replace HL954_0 := Aside0.mk (Kd.V_afterv (v := (.slice (some ⟨go24, 0, none⟩) x6_1.length co24)) (v1 := (.slice (some ⟨go24, 0, none⟩) x6_1.length co24)) (ok := (fun k_ => some k_ ≠ (.slice (some ad954) t934.length co8 : Value).ownBlock ∧ some k_ ≠ (.slice Ao9 t937.length co9 : Value).ownBlock ∧ some k_ ≠ (.slice Ao10 t940.length co10 : Value).ownBlock ∧ some k_ ≠ (.slice Ao11 t943.length co11 : Value).ownBlock ∧ some k_ ≠ (.slice Ao12 t946.length co12 : Value).ownBlock ∧ k_ ≠ gb933 ∧ k_ ≠ gb950 ∧ k_ ≠ gb955)) (by (with_reducible repeat (first | apply Kd.V_alloc | apply Kd.V_drewN | apply Kd.V_drew)); first | exact Kd.V_mono HL954_0.out (fun _ hk => ⟨⟨hk.2.1, ⟨hk.2.2.1, ⟨hk.2.2.2.1, ⟨hk.2.2.2.2.1, ⟨hk.2.2.2.2.2.1, ⟨hk.2.2.2.2.2.2.1, ⟨hk.2.2.2.2.2.2.2.1, hk.2.2.2.2.2.2.2.2⟩⟩⟩⟩⟩⟩⟩, hk.1⟩) | exact Kd.V_mono HL954_0.out (fun _ hk => ⟨⟨hk.1, hk.2.2⟩, hk.2.1⟩)) hg (.inl rfl)); replace HL954_1 := Aside0.mk (Kd.V_afterv (v := (.slice (some ⟨go24, 0, none⟩) x6_1.length co24)) (v1 := (.slice (some ⟨go24, 0, none⟩) x6_1.length co24)) (ok := (fun k_ => some k_ ≠ (.slice (some ad954) t934.length co8 : Value).ownBlock ∧ some k_ ≠ (.slice Ao9 t937.length co9 : Value).ownBlock ∧ some k_ ≠ (.slice Ao10 t940.length co10 : Value).ownBlock ∧ some k_ ≠ (.slice Ao11 t943.length co11 : Value).ownBlock ∧ some k_ ≠ (.slice Ao12 t946.length co12 : Value).ownBlock ∧ k_ ≠ gb933 ∧ k_ ≠ gb950 ∧ k_ ≠ gb955)) (by (with_reducible repeat (first | apply Kd.V_alloc | apply Kd.V_drewN | apply Kd.V_drew)); first | exact Kd.V_mono HL954_1.out (fun _ hk => ⟨⟨hk.2.1, ⟨hk.2.2.1, ⟨hk.2.2.2.1, ⟨hk.2.2.2.2.1, ⟨hk.2.2.2.2.2.1, ⟨hk.2.2.2.2.2.2.1, ⟨hk.2.2.2.2.2.2.2.1, hk.2.2.2.2.2.2.2.2⟩⟩⟩⟩⟩⟩⟩, hk.1⟩) | exact Kd.V_mono HL954_1.out (fun _ hk => ⟨⟨hk.1, hk.2.2⟩, hk.2.1⟩)) hg (.inl rfl)); replace BK955 := Aside0.mk (blk_grown (g := gb955) (o := .cells #[.slice A954_0 ((rd_T35 t934 x22_1).f0).length c954_0, .slice A954_1 ((rd_T35 t934 x22_1).f1).length c954_1] 35 (0, 0)) (bk BK955) hg (Kd.R_ne HO_6.out BK955.out (by decide))); replace HO_6 := Aside0.mk (hp_); replace HB := Aside0.mk ((by rw [hw]; exact below_set (HB.out) GB24.out : Below w.heap.size w w32)); clear hg hw hp_))
   go_roundg k1
   case measure => have := HK1.out; omega
   case rel => exact ⟨(y957), (wrap64 (x22_1 + 1)), (by first | rfl | (simp; done) | (simp [*]; done)), H', ⟨by have := HK1.out; omega⟩, ⟨rk HO_6⟩, ⟨by (with_reducible repeat (first | apply Kd.N_alloc | apply Kd.N_drewN | apply Kd.N_drew)); exact Kd.N_mono HO_20.out (fun _ hk => ⟨hk.2, ⟨hk.1.1, ⟨hk.1.2.1, ⟨hk.1.2.2.1, ⟨hk.1.2.2.2.1, ⟨hk.1.2.2.2.2.1, hk.1.2.2.2.2.2.1⟩⟩⟩⟩⟩⟩)⟩, ⟨by (with_reducible repeat (first | apply Kd.N_alloc | apply Kd.N_drewN | apply Kd.N_drew)); exact Kd.N_mono HO_951000.out (fun _ hk => ⟨hk.2, ⟨hk.1.1, ⟨hk.1.2.1, ⟨hk.1.2.2.1, ⟨hk.1.2.2.2.1, ⟨hk.1.2.2.2.2.1, hk.1.2.2.2.2.2.1⟩⟩⟩⟩⟩⟩)⟩, ⟨rk HO_951001⟩, ⟨rk HO_951002⟩, ⟨rk HO_951003⟩, ⟨rk HO_951004⟩, ⟨bk BK933⟩, ⟨bk BK950⟩, ⟨bw HB⟩⟩
end Go.Proofs.Ytieioddimkafbaa.V
