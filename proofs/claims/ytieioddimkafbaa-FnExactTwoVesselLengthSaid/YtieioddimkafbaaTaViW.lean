/- Functions of the program over all that is reached: as plain functions, and that the calls come to them. -/
import Derived.Test.YtieioddimkafbaaTaVreF
import Derived.Test.YtieioddimkafbaaTaVrv
namespace Go.Proofs.Ytieioddimkafbaa.V
open Go.RowKit Go.Proofs.YtieioddimkafbaaW.PrintWords Go.Proofs.YtieioddimkafbaaW.PrintLast Go.Proofs.YtieioddimkafbaaW.PrintMore Go.Proofs.Ytieioddimkafbaa.Sq Go.Proofs.Ytieioddimkafbaa.Sep
attribute [local go_sem] max2_int min2_int max_two min_two max_three min_three max_four min_four
set_option linter.unusedVariables false
set_option linter.unusedSimpArgs false
def impl_reach_planTo.l0 : Nat → Int → List (S55) → List (S35) → List (Gv.K5 × Int) → List Int → List Int → List (S55) → Option ((List (S55)))
 | 0, _, _, _, _, _, _, _ => none
 | k + 1, x1, x5, x232000, x232001, x232002, x232003, x232004 => if 0 ≤ x1 then (if x1 < (x232003.length : Int) then (if (rd x232003 x1) ≥ 0 then (if x1 < (x232004.length : Int) then (if x5.length < 8796093022208 then (impl_reach_planTo.l0 k (rd x232003 x1) (x5 ++ [(⟨(rd_T55 x232004 x1).f0, (rd_T55 x232004 x1).f1⟩ : S55)]) x232000 x232001 x232002 x232003 x232004) else (none)) else (none)) else ((impl_Move.f k x5).bind fun t241 => (some t241))) else (none)) else (none)
def impl_reach_planTo.f (k : Nat) (l0_0 : List (S35)) (a0_1 : List (Gv.K5 × Int)) (l0_2 : List Int) (l0_3 : List Int) (l0_4 : List (S55)) (a1 : Int) : Option ((List (S55))) := impl_reach_planTo.l0 k a1 (([] : List (S55))) l0_0 a0_1 l0_2 l0_3 l0_4
set_option maxHeartbeats 8000000 in
set_option maxRecDepth 100000 in
theorem impl_reach_planTo.calls (mv_ : Option Nat) (k : Nat) (A0_0 : Option Addr) (c0_0 : Nat) (l0_0 : List (S35)) (a0_1 : List (Gv.K5 × Int)) (A0_2 : Option Addr) (c0_2 : Nat) (l0_2 : List Int) (A0_3 : Option Addr) (c0_3 : Nat) (l0_3 : List Int) (A0_4 : Option Addr) (c0_4 : Nat) (l0_4 : List (S55)) (a1 : Int) (r : List (S55)) (w : World) (hr0_0 : Kd.C k35 w A0_0 l0_0.length l0_0) (hc0_0 : l0_0.length ≤ c0_0) (hr0_2 : Kd.C (Kd.int .i64) w A0_2 l0_2.length l0_2) (hc0_2 : l0_2.length ≤ c0_2) (hr0_3 : Kd.C (Kd.int .i64) w A0_3 l0_3.length l0_3) (hc0_3 : l0_3.length ≤ c0_3) (hr0_4 : Kd.C k55 w A0_4 l0_4.length l0_4) (hc0_4 : l0_4.length ≤ c0_4) (h : impl_reach_planTo.f k l0_0 a0_1 l0_2 l0_3 l0_4 a1 = some r) :
  Calls Try.prog 50 #[.agg #[.slice A0_0 l0_0.length c0_0, .map mv_, .slice A0_2 l0_2.length c0_2, .slice A0_3 l0_3.length c0_3, .slice A0_4 l0_4.length c0_4], .int .i64 a1] w fun e w' => ∃ v0_ : Value, e = .returned (v0_) ∧ Kd.R k55 55 w' w.heap.size (fun _ => True) v0_ r ∧ Below w.heap.size w w' := by
 have hu68 := Try.underlying68
 have hu55 := Try.underlying55
 have HR0_0 := Aside0.mk hr0_0
 have HC0_0 := Aside0.mk hc0_0
 clear hr0_0 hc0_0
 have HR0_2 := Aside0.mk hr0_2
 have HC0_2 := Aside0.mk hc0_2
 clear hr0_2 hc0_2
 have HR0_3 := Aside0.mk hr0_3
 have HC0_3 := Aside0.mk hc0_3
 clear hr0_3 hc0_3
 have HR0_4 := Aside0.mk hr0_4
 have HC0_4 := Aside0.mk hc0_4
 clear hr0_4 hc0_4
 have HB := Aside0.mk (Below.refl w.heap.size w)
 have H : (impl_reach_planTo.l0 k a1 (([] : List (S55))) l0_0 a0_1 l0_2 l0_3 l0_4) = some r := h
 clear h
 obtain ⟨y232, hy232⟩ : ∃ y_ : List (S55), y_ = (([] : List (S55))) := ⟨_, rfl⟩
 replace H : (impl_reach_planTo.l0 k a1 y232 l0_0 a0_1 l0_2 l0_3 l0_4) = some r := by first | (rw [hy232]; with_reducible exact H) | (have H2_ := (Option.bind_some _ _).symm.trans H; rw [hy232]; with_reducible exact H2_) | (have H2_ := (Option.bind_some _ _).symm.trans H; with_reducible exact H2_) | with_reducible exact H | (rw [hy232]; exact H) | exact H
 have Ny232 := Aside0.mk hy232
 clear hy232
 have H' := Aside0.mk H
 clear H
 go_enter Try.func50, Try.ntmps50
 go_wp2_with (first | ((with_reducible refine gate_dst (N := 2) rfl ?_); refine bx 2 #[.slice A0_0 l0_0.length c0_0, .map mv_, .slice A0_2 l0_2.length c0_2, .slice A0_3 l0_3.length c0_3, .slice A0_4 l0_4.length c0_4] 68 ?_; intro gb231 hg w3 hbox hb; have BK231 := Aside0.mk (hbox); have GW231 := ge HB hg; have GE231 := ge HB hg; replace HB := bs HB hb; clear hb hbox hg) | ((with_reducible refine gate_dst (N := 6) rfl ?_); refine Kd.R_lit k55 _ 55 ?hg (N := 6) ?hd (xs := ([] : List (S55))) (inner := []) (ok := fun _ => True) (okp := fun _ => True) ?hr ?hp (fun _ hk => hk) trivial (Below.refl _ _) (Nat.le_refl _) (by simp) ?_; (case hd => rfl); (case hg => rfl); (case hr => first | (go_simp; done) | (go_simp; rfl)); (case hp => exact (Reps.none _ _)); intro v233 w4 ho5 hb hg_ hnew_; clear hg_ hnew_; (first | rw [← Ny232.out] at ho5 | (simp only [Int.reduceToNat] at ho5; rw [← Ny232.out] at ho5)); have HO234 := lo ho5 HB; replace BK231 := bb BK231 hb; replace HB := bs HB hb; clear hb ho5))
 try simp only [Act.put, List.setIfInBounds_toArray, List.set_cons_zero, List.set_cons_succ]
 go_loopg [1, 5] k (fun kq v1 v5 w' => ∃ (x1_1 : Int) (x5_1 : List (S55)), v1 = .int .i64 x1_1 ∧ Aside0 (impl_reach_planTo.l0 kq x1_1 x5_1 l0_0 a0_1 l0_2 l0_3 l0_4 = some r) ∧ Aside0 (kq ≤ k) ∧ Aside0 (Kd.R k55 55 w' w.heap.size (fun _ => True) v5 x5_1) ∧ Aside0 (w'.heap[gb231]? = some (.cells #[(.slice A0_0 l0_0.length c0_0), .map mv_, (.slice A0_2 l0_2.length c0_2), (.slice A0_3 l0_3.length c0_3), (.slice A0_4 l0_4.length c0_4)] 68 (0, 0))) ∧ Aside0 (Below w.heap.size w w'))
 case atStart => exact ⟨(a1), (y232), (by first | rfl | (simp; done) | (simp [*]; done)), H', ⟨Nat.le_refl _⟩, ⟨rk HO234⟩, ⟨bk BK231⟩, ⟨bw HB⟩⟩
 case round =>
  clear H'
  try clear p2
  try clear c5
  obtain ⟨x1_1, x5_1, rfl, HA, HK1, HO_5, BK231, HB⟩ := hrel
  cases gk with
  | zero => exact absurd HA.out (by simp [impl_reach_planTo.l0])
  | succ k1 =>
   have H := HA.out
   clear HA
   simp only [impl_reach_planTo.l0] at H
   by_cases c6 : 0 ≤ x1_1
   rotate_left
   ·rw [if_neg c6] at H
    exact absurd H (by simp)
   rw [if_pos c6] at H
   have c6b0 : decide (0 ≤ x1_1) = true := decide_eq_true c6
   clear c6
   by_cases c7 : x1_1 < (l0_3.length : Int)
   rotate_left
   ·rw [if_neg c7] at H
    exact absurd H (by simp)
   rw [if_pos c7] at H
   have c7b0 : decide (x1_1 < (l0_3.length : Int)) = true := decide_eq_true c7
   clear c7
   by_cases c8 : (rd l0_3 x1_1) ≥ 0
   rotate_left
   ·rw [if_neg c8] at H
    have c8b0 : decide (0 ≤ (rd l0_3 x1_1)) = false := decide_eq_false c8
    clear c8
    replace H := Option.bind_eq_some_iff.mp H
    obtain ⟨t241, A140, H⟩ := H
    (try dsimp only at H)
    have A14 := Aside0.mk A140
    clear A140
    obtain rfl := Option.some.inj H
    have hcz15_0 := bc0 BK231
    have hcz15_1 := bc1 BK231
    have hcz15_2 := bc2 BK231
    have hcz15_3 := bc3 BK231
    have hcz15_4 := bc4 BK231
    have hfz15_0 := blk_frozen BK231.out 0
    have hfz15_1 := blk_frozen BK231.out 1
    have hfz15_2 := blk_frozen BK231.out 2
    have hfz15_3 := blk_frozen BK231.out 3
    have hfz15_4 := blk_frozen BK231.out 4
    have p235 : 0 ≤ (x1_1 : Int) := of_decide_eq_true ‹_›
    have q235 : x1_1 < (l0_3.length : Int) := of_decide_eq_true ‹_›
    obtain ⟨ad235, e235, hx235_0⟩ := Kd.at_int HR0_3.out x1_1 p235 q235
    cases e235
    replace hx235_0 := (HB.out.cell (World.block_lt_of_cell? w _ hx235_0)).trans hx235_0
    replace p235 := eq_true p235
    replace q235 := eq_true q235
    obtain ⟨Ao16, co16, eo16⟩ := Kd.R_slice HO_5.out
    subst eo16
    go_wp2_with (first | ((with_reducible refine gate_callee (f := 73) rfl ?_); refine gl 27 Try.func73 #[.slice Ao16 x5_1.length co16] ?_; (with_reducible refine (impl_Move.calls k1 (fun k_ => some k_ = (.slice Ao16 x5_1.length co16 : Value).ownBlock) (.slice Ao16 x5_1.length co16) x5_1 t241 w _ ?side1 ?side2 A14.out).mono ?_); (case side1 => repeat (first | (with_reducible first | exact HB.out | apply below_alloc | apply pw_below_drewN | apply below_drew1 | refine below_set ?_ GE231.out) | exact HB.out)); (case side2 => exact Kd.R_tight rfl HO_5.out); rintro e w17 ⟨rfl, hy0, hb, hkp⟩; refine ⟨_, rfl, ?_⟩; replace BK231 := Aside0.mk (blk_kept (bk BK231) hkp (fun hs_ => (fun e_ => (Kd.R_ne HO_5.out BK231.out (by decide)) e_) hs_)); replace HO_5 := Aside0.mk (Kd.R_reok rfl hy0 (fun k_ e_ => HO_5.out.1 k_ e_)); replace HB := Aside0.mk (hb); (try clear hb); (try clear hkp); (try clear hy0)))
    go_ret
    exact ⟨_, by first | rfl | (simp [errW_none, errW_some] <;> rfl) | (simp [*, errW_none, errW_some] <;> rfl), rk HO_5, bw HB⟩
   rw [if_pos c8] at H
   have c8b0 : decide (0 ≤ (rd l0_3 x1_1)) = true := decide_eq_true c8
   clear c8
   by_cases c9 : x1_1 < (l0_4.length : Int)
   rotate_left
   ·rw [if_neg c9] at H
    exact absurd H (by simp)
   rw [if_pos c9] at H
   have c9b0 : decide (x1_1 < (l0_4.length : Int)) = true := decide_eq_true c9
   clear c9
   by_cases c10 : x5_1.length < 8796093022208
   rotate_left
   ·rw [if_neg c10] at H
    exact absurd H (by simp)
   rw [if_pos c10] at H
   have LMc10 := Aside0.mk c10
   clear c10
   obtain ⟨y237, hy237⟩ : ∃ y_ : List (S55), y_ = (x5_1 ++ [(⟨(rd_T55 l0_4 x1_1).f0, (rd_T55 l0_4 x1_1).f1⟩ : S55)]) := ⟨_, rfl⟩
   replace H : (impl_reach_planTo.l0 k1 (rd l0_3 x1_1) y237 l0_0 a0_1 l0_2 l0_3 l0_4) = some r := by first | (rw [hy237]; with_reducible exact H) | (have H2_ := (Option.bind_some _ _).symm.trans H; rw [hy237]; with_reducible exact H2_) | (have H2_ := (Option.bind_some _ _).symm.trans H; with_reducible exact H2_) | with_reducible exact H | (rw [hy237]; exact H) | exact H
   have Ny237 := Aside0.mk hy237
   clear hy237
   have H' := Aside0.mk H
   clear H
   have hcz11_0 := bc0 BK231
   have hcz11_1 := bc1 BK231
   have hcz11_2 := bc2 BK231
   have hcz11_3 := bc3 BK231
   have hcz11_4 := bc4 BK231
   have hfz11_0 := blk_frozen BK231.out 0
   have hfz11_1 := blk_frozen BK231.out 1
   have hfz11_2 := blk_frozen BK231.out 2
   have hfz11_3 := blk_frozen BK231.out 3
   have hfz11_4 := blk_frozen BK231.out 4
   have p235 : 0 ≤ (x1_1 : Int) := of_decide_eq_true ‹_›
   have q235 : x1_1 < (l0_3.length : Int) := of_decide_eq_true ‹_›
   obtain ⟨ad235, e235, hx235_0⟩ := Kd.at_int HR0_3.out x1_1 p235 q235
   cases e235
   replace hx235_0 := (HB.out.cell (World.block_lt_of_cell? w _ hx235_0)).trans hx235_0
   replace p235 := eq_true p235
   replace q235 := eq_true q235
   have p236 : 0 ≤ (x1_1 : Int) := of_decide_eq_true ‹_›
   have q236 : x1_1 < (l0_4.length : Int) := of_decide_eq_true ‹_›
   obtain ⟨ad236, e236, hx236_0, hx236_1⟩ := at_T55 HR0_4.out x1_1 p236 q236
   cases e236
   replace hx236_0 := (HB.out.cell (World.block_lt_of_cell? w _ hx236_0)).trans hx236_0
   replace hx236_1 := (HB.out.cell (World.block_lt_of_cell? w _ hx236_1)).trans hx236_1
   replace p236 := eq_true p236
   replace q236 := eq_true q236
   go_wp2_with (first | ((with_reducible refine gate_builtin (b := .append) (xs := #[.tmp 18, .tmp 24]) rfl ?_); at_builtin; refine Kd.R_append k55 (w0 := w) w.heap.size rfl (.tmp 18) (.tmp 24) 25 55 (.agg #[(.int .i64 0), (.int .i64 0)]) 16 rfl Try.underlying25 info55 rfl (by decide) (by omega) u5 x5_1 (⟨(rd_T55 l0_4 x1_1).f0, (rd_T55 l0_4 x1_1).f1⟩ : S55) [.int .i64 ((rd_T55 l0_4 x1_1).f0), .int .i64 ((rd_T55 l0_4 x1_1).f1)] (fun _ => True) (fun _ => False) rfl rfl ?aP (fun _ hk => hk.elim) ?aF ?aO ?aB ?aS ?aL ?_; (case aP => exact k55_mkM _ _ _ (⟨(rd_T55 l0_4 x1_1).f0, (rd_T55 l0_4 x1_1).f1⟩ : S55)); (case aB => exact (bw HB)); (case aF => exact (fun _ _ => trivial)); (case aO => exact (rk HO_5)); (case aS => exact (below_size (bw HB))); (case aL => have := LMc10.out; omega); intro v238 w12 ho hb hg hat; rw [← Ny237.out] at ho; have n0_ := Aside0.mk (blk_grown (g := gb231) (o := .cells #[.slice A0_0 l0_0.length c0_0, .map mv_, .slice A0_2 l0_2.length c0_2, .slice (some ad235) l0_3.length c0_3, .slice (some ad236) l0_4.length c0_4] 68 (0, 0)) (bk BK231) hg (Kd.R_ne HO_5.out BK231.out (by decide))); have n1_ := Aside0.mk (hb); have n2_ := Aside0.mk (ho); clear BK231; clear HB; clear HO_5; have BK231 := n0_; have HB := n1_; have HO239 := n2_; clear n0_ n1_ n2_; clear ho hb hg hat; have hcz13_0 := bc0 BK231; have hcz13_1 := bc1 BK231; have hcz13_2 := bc2 BK231; have hcz13_3 := bc3 BK231; have hcz13_4 := bc4 BK231; have hfz13_0 := blk_frozen BK231.out 0; have hfz13_1 := blk_frozen BK231.out 1; have hfz13_2 := blk_frozen BK231.out 2; have hfz13_3 := blk_frozen BK231.out 3; have hfz13_4 := blk_frozen BK231.out 4; have p240 : 0 ≤ (x1_1 : Int) := of_decide_eq_true ‹_›; have q240 : x1_1 < (l0_3.length : Int) := of_decide_eq_true ‹_›; obtain ⟨ad240, e240, hx240_0⟩ := Kd.at_int HR0_3.out x1_1 p240 q240; obtain rfl : ad235 = ad240 := (by injection e240); replace hx240_0 := (HB.out.cell (World.block_lt_of_cell? w _ hx240_0)).trans hx240_0; replace p240 := eq_true p240; replace q240 := eq_true q240))
   go_roundg k1
   case measure => have := HK1.out; omega
   case rel => exact ⟨(rd l0_3 x1_1), (y237), (by first | rfl | (simp; done) | (simp [*]; done)), H', ⟨by have := HK1.out; omega⟩, ⟨rk HO239⟩, ⟨bk BK231⟩, ⟨bw HB⟩⟩
end Go.Proofs.Ytieioddimkafbaa.V
