/- Functions of the specification over all that is reached: as plain functions, and that the calls come to them. -/
import Derived.Test.YtieioddimkafbaaTaVplQ
import Derived.Test.YtieioddimkafbaaTaVx
namespace Go.Proofs.Ytieioddimkafbaa.V
open Go.RowKit Go.Proofs.YtieioddimkafbaaW.PrintWords Go.Proofs.YtieioddimkafbaaW.PrintLast Go.Proofs.YtieioddimkafbaaW.PrintMore Go.Proofs.Ytieioddimkafbaa.Sq Go.Proofs.Ytieioddimkafbaa.Sep
attribute [local go_sem] max2_int min2_int max_two min_two max_three min_three max_four min_four
set_option linter.unusedVariables false
set_option linter.unusedSimpArgs false
def spec_plWay.l0 : Nat → Int → List (S55) → List (S35) → List Int → List (S55) → List Int → List Int → Option ((List (S55)))
 | 0, _, _, _, _, _, _, _ => none
 | k + 1, x1, x5, x140000, x140001, x140002, x140003, x140004 => if 0 ≤ x1 then (if x1 < (x140001.length : Int) then (if (rd x140001 x1) ≥ 0 then (if x1 < (x140002.length : Int) then ((some (([(⟨(rd_T55 x140002 x1).f0, (rd_T55 x140002 x1).f1⟩ : S55)] : List (S55)) : List (S55))).bind fun y142 => (if y142.length + x5.length < 8796093022208 then (spec_plWay.l0 k (rd x140001 x1) (y142 ++ x5) x140000 x140001 x140002 x140003 x140004) else (none))) else (none)) else (some x5)) else (none)) else (none)
def spec_plWay.f (k : Nat) (l0_0 : List (S35)) (l0_1 : List Int) (l0_2 : List (S55)) (l0_3 : List Int) (l0_4 : List Int) (a1 : Int) : Option ((List (S55))) := spec_plWay.l0 k a1 ([] : List (S55)) l0_0 l0_1 l0_2 l0_3 l0_4
set_option maxHeartbeats 8000000 in
set_option maxRecDepth 100000 in
theorem spec_plWay.calls (k : Nat) (A0_0 : Option Addr) (c0_0 : Nat) (l0_0 : List (S35)) (A0_1 : Option Addr) (c0_1 : Nat) (l0_1 : List Int) (A0_2 : Option Addr) (c0_2 : Nat) (l0_2 : List (S55)) (A0_3 : Option Addr) (c0_3 : Nat) (l0_3 : List Int) (A0_4 : Option Addr) (c0_4 : Nat) (l0_4 : List Int) (a1 : Int) (r : List (S55)) (w : World) (gb139 : Nat) (hbk139 : w.heap[gb139]? = some (.cells #[.slice A0_0 l0_0.length c0_0, .slice A0_1 l0_1.length c0_1, .slice A0_2 l0_2.length c0_2, .slice A0_3 l0_3.length c0_3, .slice A0_4 l0_4.length c0_4] 62 (0, 0))) (hr0_0 : Kd.C k35 w A0_0 l0_0.length l0_0) (hc0_0 : l0_0.length ≤ c0_0) (hr0_1 : Kd.C (Kd.int .i64) w A0_1 l0_1.length l0_1) (hc0_1 : l0_1.length ≤ c0_1) (hr0_2 : Kd.C k55 w A0_2 l0_2.length l0_2) (hc0_2 : l0_2.length ≤ c0_2) (hr0_3 : Kd.C (Kd.int .i64) w A0_3 l0_3.length l0_3) (hc0_3 : l0_3.length ≤ c0_3) (hr0_4 : Kd.C (Kd.int .i64) w A0_4 l0_4.length l0_4) (hc0_4 : l0_4.length ≤ c0_4) (h : spec_plWay.f k l0_0 l0_1 l0_2 l0_3 l0_4 a1 = some r) :
  Calls Try.prog 43 #[.pointer (some ⟨gb139, 0, none⟩), .int .i64 a1] w fun e w' => ∃ v0_ : Value, e = .returned (v0_) ∧ Kd.R k55 55 w' w.heap.size (fun _ => True) v0_ r ∧ Below w.heap.size w w' := by
 have hu62 := Try.underlying62
 have hu55 := Try.underlying55
 have HR0_0 := Aside0.mk hr0_0
 have HC0_0 := Aside0.mk hc0_0
 clear hr0_0 hc0_0
 have HR0_1 := Aside0.mk hr0_1
 have HC0_1 := Aside0.mk hc0_1
 clear hr0_1 hc0_1
 have HR0_2 := Aside0.mk hr0_2
 have HC0_2 := Aside0.mk hc0_2
 clear hr0_2 hc0_2
 have HR0_3 := Aside0.mk hr0_3
 have HC0_3 := Aside0.mk hc0_3
 clear hr0_3 hc0_3
 have HR0_4 := Aside0.mk hr0_4
 have HC0_4 := Aside0.mk hc0_4
 clear hr0_4 hc0_4
 have HB := Aside0.mk (Below.refl w.heap.size w)
 have BK139 := Aside0.mk hbk139
 clear hbk139
 have H : (spec_plWay.l0 k a1 ([] : List (S55)) l0_0 l0_1 l0_2 l0_3 l0_4) = some r := h
 clear h
 have H' := Aside0.mk H
 clear H
 go_enter Try.func43, Try.ntmps43
 try go_wp2
 try simp only [Act.put, List.setIfInBounds_toArray, List.set_cons_zero, List.set_cons_succ]
 go_loopg [1, 5] k (fun kq v1 v5 w' => ∃ (x1_1 : Int) (x5_1 : List (S55)), v1 = .int .i64 x1_1 ∧ Aside0 (spec_plWay.l0 kq x1_1 x5_1 l0_0 l0_1 l0_2 l0_3 l0_4 = some r) ∧ Aside0 (kq ≤ k) ∧ Aside0 (Kd.R k55 55 w' w.heap.size (fun _ => True) v5 x5_1) ∧ Aside0 (w'.heap[gb139]? = some (.cells #[(.slice A0_0 l0_0.length c0_0), (.slice A0_1 l0_1.length c0_1), (.slice A0_2 l0_2.length c0_2), (.slice A0_3 l0_3.length c0_3), (.slice A0_4 l0_4.length c0_4)] 62 (0, 0))) ∧ Aside0 (Below w.heap.size w w'))
 case atStart => exact ⟨(a1), (([] : List (S55))), (by first | rfl | (simp; done) | (simp [*]; done)), H', ⟨Nat.le_refl _⟩, ⟨by first | exact Kd.R_nil _ _ _ _ _ | exact Kd.N_nil _ _ _ _ _ | exact Kd.V_nil _ _ _ _ _ | exact Kd.Q_nil _ _ _ _ _ | exact Kd.S_nil _ _ _ _ _⟩, ⟨bk BK139⟩, ⟨bw HB⟩⟩
 case round =>
  clear H'
  try clear p2
  obtain ⟨x1_1, x5_1, rfl, HA, HK1, HO_5, BK139, HB⟩ := hrel
  cases gk with
  | zero => exact absurd HA.out (by simp [spec_plWay.l0])
  | succ k1 =>
   have H := HA.out
   clear HA
   simp only [spec_plWay.l0] at H
   by_cases c4 : 0 ≤ x1_1
   rotate_left
   ·rw [if_neg c4] at H
    exact absurd H (by simp)
   rw [if_pos c4] at H
   have c4b0 : decide (0 ≤ x1_1) = true := decide_eq_true c4
   clear c4
   by_cases c5 : x1_1 < (l0_1.length : Int)
   rotate_left
   ·rw [if_neg c5] at H
    exact absurd H (by simp)
   rw [if_pos c5] at H
   have c5b0 : decide (x1_1 < (l0_1.length : Int)) = true := decide_eq_true c5
   clear c5
   by_cases c6 : (rd l0_1 x1_1) ≥ 0
   rotate_left
   ·rw [if_neg c6] at H
    have c6b0 : decide (0 ≤ (rd l0_1 x1_1)) = false := decide_eq_false c6
    clear c6
    obtain rfl := Option.some.inj H
    have hcz15_0 := bc0 BK139
    have hcz15_1 := bc1 BK139
    have hcz15_2 := bc2 BK139
    have hcz15_3 := bc3 BK139
    have hcz15_4 := bc4 BK139
    have hfz15_0 := blk_frozen BK139.out 0
    have hfz15_1 := blk_frozen BK139.out 1
    have hfz15_2 := blk_frozen BK139.out 2
    have hfz15_3 := blk_frozen BK139.out 3
    have hfz15_4 := blk_frozen BK139.out 4
    have p140 : 0 ≤ (x1_1 : Int) := of_decide_eq_true ‹_›
    have q140 : x1_1 < (l0_1.length : Int) := of_decide_eq_true ‹_›
    obtain ⟨ad140, e140, hx140_0⟩ := Kd.at_int HR0_1.out x1_1 p140 q140
    cases e140
    replace hx140_0 := (HB.out.cell (World.block_lt_of_cell? w _ hx140_0)).trans hx140_0
    replace p140 := eq_true p140
    replace q140 := eq_true q140
    go_wp2
    go_ret
    exact ⟨_, by first | rfl | (simp [errW_none, errW_some] <;> rfl) | (simp [*, errW_none, errW_some] <;> rfl), rk HO_5, bw HB⟩
   rw [if_pos c6] at H
   have c6b0 : decide (0 ≤ (rd l0_1 x1_1)) = true := decide_eq_true c6
   clear c6
   by_cases c7 : x1_1 < (l0_2.length : Int)
   rotate_left
   ·rw [if_neg c7] at H
    exact absurd H (by simp)
   rw [if_pos c7] at H
   have c7b0 : decide (x1_1 < (l0_2.length : Int)) = true := decide_eq_true c7
   clear c7
   obtain ⟨y142, hy142⟩ : ∃ y_ : List (S55), y_ = (([(⟨(rd_T55 l0_2 x1_1).f0, (rd_T55 l0_2 x1_1).f1⟩ : S55)] : List (S55))) := ⟨_, rfl⟩
   replace H : (if y142.length + x5_1.length < 8796093022208 then (spec_plWay.l0 k1 (rd l0_1 x1_1) (y142 ++ x5_1) l0_0 l0_1 l0_2 l0_3 l0_4) else (none)) = some r := by first | (rw [hy142]; with_reducible exact H) | (have H2_ := (Option.bind_some _ _).symm.trans H; rw [hy142]; with_reducible exact H2_) | (have H2_ := (Option.bind_some _ _).symm.trans H; with_reducible exact H2_) | with_reducible exact H | (rw [hy142]; exact H) | exact H
   have Ny142 := Aside0.mk hy142
   clear hy142
   by_cases c8 : y142.length + x5_1.length < 8796093022208
   rotate_left
   ·rw [if_neg c8] at H
    exact absurd H (by simp)
   rw [if_pos c8] at H
   have LMc8 := Aside0.mk c8
   clear c8
   obtain ⟨y145, hy145⟩ : ∃ y_ : List (S55), y_ = (y142 ++ x5_1) := ⟨_, rfl⟩
   replace H : (spec_plWay.l0 k1 (rd l0_1 x1_1) y145 l0_0 l0_1 l0_2 l0_3 l0_4) = some r := by first | (rw [hy145]; with_reducible exact H) | (have H2_ := (Option.bind_some _ _).symm.trans H; rw [hy145]; with_reducible exact H2_) | (have H2_ := (Option.bind_some _ _).symm.trans H; with_reducible exact H2_) | with_reducible exact H | (rw [hy145]; exact H) | exact H
   have Ny145 := Aside0.mk hy145
   clear hy145
   have H' := Aside0.mk H
   clear H
   have hcz9_0 := bc0 BK139
   have hcz9_1 := bc1 BK139
   have hcz9_2 := bc2 BK139
   have hcz9_3 := bc3 BK139
   have hcz9_4 := bc4 BK139
   have hfz9_0 := blk_frozen BK139.out 0
   have hfz9_1 := blk_frozen BK139.out 1
   have hfz9_2 := blk_frozen BK139.out 2
   have hfz9_3 := blk_frozen BK139.out 3
   have hfz9_4 := blk_frozen BK139.out 4
   have p140 : 0 ≤ (x1_1 : Int) := of_decide_eq_true ‹_›
   have q140 : x1_1 < (l0_1.length : Int) := of_decide_eq_true ‹_›
   obtain ⟨ad140, e140, hx140_0⟩ := Kd.at_int HR0_1.out x1_1 p140 q140
   cases e140
   replace hx140_0 := (HB.out.cell (World.block_lt_of_cell? w _ hx140_0)).trans hx140_0
   replace p140 := eq_true p140
   replace q140 := eq_true q140
   have p141 : 0 ≤ (x1_1 : Int) := of_decide_eq_true ‹_›
   have q141 : x1_1 < (l0_2.length : Int) := of_decide_eq_true ‹_›
   obtain ⟨ad141, e141, hx141_0, hx141_1⟩ := at_T55 HR0_2.out x1_1 p141 q141
   cases e141
   replace hx141_0 := (HB.out.cell (World.block_lt_of_cell? w _ hx141_0)).trans hx141_0
   replace hx141_1 := (HB.out.cell (World.block_lt_of_cell? w _ hx141_1)).trans hx141_1
   replace p141 := eq_true p141
   replace q141 := eq_true q141
   go_wp2_with (first | ((with_reducible refine gate_dst (N := 28) rfl ?_); refine Kd.R_lit k55 _ 55 ?hg (N := 28) ?hd (xs := ([(⟨(rd_T55 l0_2 x1_1).f0, (rd_T55 l0_2 x1_1).f1⟩ : S55)] : List (S55))) (inner := [.int .i64 ((rd_T55 l0_2 x1_1).f0), .int .i64 ((rd_T55 l0_2 x1_1).f1)]) (ok := fun _ => True) (okp := fun _ => True) ?hr ?hp (fun _ hk => hk) trivial (Below.refl _ _) (Nat.le_refl _) (by simp) ?_; (case hd => rfl); (case hg => rfl); (case hr => first | (go_simp; done) | (go_simp; rfl)); (case hp => exact (Reps.c2 (show Kd.M k55 _ _ _ (⟨(rd_T55 l0_2 x1_1).f0, (rd_T55 l0_2 x1_1).f1⟩ : S55) [.int .i64 ((rd_T55 l0_2 x1_1).f0), .int .i64 ((rd_T55 l0_2 x1_1).f1)] from (k55_mkM _ _ _ (⟨(rd_T55 l0_2 x1_1).f0, (rd_T55 l0_2 x1_1).f1⟩ : S55) )) (Reps.none _ _))); intro v143 w10 ho11 hb hg_ hnew_; clear hg_ hnew_; (first | rw [← Ny142.out] at ho11 | (simp only [Int.reduceToNat] at ho11; rw [← Ny142.out] at ho11)); have HO144 := Aside0.mk (Kd.R_lower (Kd.R_new' ho11 (Kd.R_lt (rk HO_5))) (below_size (bw HB))); replace HO_5 := Aside0.mk (Kd.R_elder' (rk HO_5) (Kd.R_base ho11) hb); replace BK139 := bb BK139 hb; replace HB := bs HB hb; clear hb ho11; obtain ⟨Ao13, co13, eo13⟩ := Kd.R_slice HO_5.out; subst eo13) | ((with_reducible refine gate_builtin (b := .append) (xs := #[.tmp 28, .tmp 29]) rfl ?_); at_builtin; refine Kd.R_append_rows k55 (w0 := w) w.heap.size rfl (.tmp 28) (.tmp 29) 25 55 (.agg #[(.int .i64 0), (.int .i64 0)]) 16 rfl Try.underlying25 info55 rfl (by decide) (by omega) v143 y142 x5_1 _ _ _ (fun k_ => some k_ ≠ (.slice Ao13 x5_1.length co13 : Value).ownBlock) (fun _ => False) rfl rfl ?aO ?aR (fun _ _ h => h) (fun _ h => h.elim) ?aF ?aB ?aS ?aL ?_; (case aR => exact cr HO_5); (case aB => exact (bw HB)); (case aF => exact (fun k_ hk => Kd.fresh' (Kd.R_lt (rk HO_5)) k_ hk)); (case aO => exact (by exact Kd.R_mono HO144.out (fun _ hk => hk.2))); (case aS => exact (below_size (bw HB))); (case aL => have := LMc8.out; omega); intro v146 w12 ho hb hg hat; rw [← Ny145.out] at ho; have n0_ := Aside0.mk (Kd.R_after (ok := (fun _ => True)) (rk HO_5) hg hat); have n1_ := Aside0.mk (blk_grown (g := gb139) (o := .cells #[.slice A0_0 l0_0.length c0_0, .slice (some ad140) l0_1.length c0_1, .slice (some ad141) l0_2.length c0_2, .slice A0_3 l0_3.length c0_3, .slice A0_4 l0_4.length c0_4] 62 (0, 0)) (bk BK139) hg (Kd.R_ne HO144.out BK139.out (by decide))); have n2_ := Aside0.mk (hb); have n3_ := Aside0.mk (ho); clear HO_5; clear BK139; clear HB; clear HO144; have HO_5 := n0_; have BK139 := n1_; have HB := n2_; have HO147 := n3_; clear n0_ n1_ n2_ n3_; clear ho hb hg hat; have hcz14_0 := bc0 BK139; have hcz14_1 := bc1 BK139; have hcz14_2 := bc2 BK139; have hcz14_3 := bc3 BK139; have hcz14_4 := bc4 BK139; have hfz14_0 := blk_frozen BK139.out 0; have hfz14_1 := blk_frozen BK139.out 1; have hfz14_2 := blk_frozen BK139.out 2; have hfz14_3 := blk_frozen BK139.out 3; have hfz14_4 := blk_frozen BK139.out 4; have p148 : 0 ≤ (x1_1 : Int) := of_decide_eq_true ‹_›; have q148 : x1_1 < (l0_1.length : Int) := of_decide_eq_true ‹_›; obtain ⟨ad148, e148, hx148_0⟩ := Kd.at_int HR0_1.out x1_1 p148 q148; obtain rfl : ad140 = ad148 := (by injection e148); replace hx148_0 := (HB.out.cell (World.block_lt_of_cell? w _ hx148_0)).trans hx148_0; replace p148 := eq_true p148; replace q148 := eq_true q148))
   go_roundg k1
   case measure => have := HK1.out; omega
   case rel => exact ⟨(rd l0_1 x1_1), (y145), (by first | rfl | (simp; done) | (simp [*]; done)), H', ⟨by have := HK1.out; omega⟩, ⟨by exact Kd.R_mono HO147.out (fun _ hk => trivial)⟩, ⟨bk BK139⟩, ⟨bw HB⟩⟩
end Go.Proofs.Ytieioddimkafbaa.V
