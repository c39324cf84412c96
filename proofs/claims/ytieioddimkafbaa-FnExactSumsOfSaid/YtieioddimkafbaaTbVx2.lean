-- Functions of the program as plain functions, and that the calls come to them. Written by a program (ownprint.py); nothing here is trusted: Lean checks it.
import Derived.Test.YtieioddimkafbaaTbVx0
import Derived.Test.YtieioddimkafbaaTbVx1
namespace Go.Proofs.Ytieioddimkafbaa.V
open Go.RowKit Go.Proofs.YtieioddimkafbaaW.PrintWords Go.Proofs.YtieioddimkafbaaW.PrintLast Go.Proofs.YtieioddimkafbaaW.PrintMore Go.Proofs.Ytieioddimkafbaa.Sq
attribute [local go_sem] max2_int min2_int max_two min_two max_three min_three max_four min_four   -- for this text's walks alone
set_option linter.unusedVariables false
set_option linter.unusedSimpArgs false
def spec_veSame.l0 : Nat → List Int → Int → Int → List Int → List Int → Option (Bool)
 | 0, _, _, _, _, _ => none
 | k + 1, x8, x9, x10, x169000, x169001 => if x10 < x9 then (if 0 ≤ x10 then (if x10 < (x8.length : Int) then (if x10 < (x169001.length : Int) then (if (rd x8 x10) = (rd x169001 x10) then (spec_veSame.l0 k x8 x9 (wrap64 (x10 + 1)) x169000 x169001) else (some false)) else (none)) else (none)) else (none)) else (some true)
def spec_veSame.f (k : Nat) (l0_0 : List Int) (l0_1 : List Int) (l1_0 : List Int) (l1_1 : List Int) : Option (Bool) := spec_veSame.l0 k l0_1 (l0_1.length : Int) 0 l1_0 l1_1
set_option maxHeartbeats 8000000 in
set_option maxRecDepth 100000 in
theorem spec_veSame.calls (k : Nat) (A0_0 : Option Addr) (c0_0 : Nat) (l0_0 : List Int) (A0_1 : Option Addr) (c0_1 : Nat) (l0_1 : List Int) (A1_0 : Option Addr) (c1_0 : Nat) (l1_0 : List Int) (A1_1 : Option Addr) (c1_1 : Nat) (l1_1 : List Int) (r : Bool) (w : World) (hr0_0 : Kd.C (Kd.int .i64) w A0_0 l0_0.length l0_0) (hc0_0 : l0_0.length ≤ c0_0) (hr0_1 : Kd.C (Kd.int .i64) w A0_1 l0_1.length l0_1) (hc0_1 : l0_1.length ≤ c0_1) (hr1_0 : Kd.C (Kd.int .i64) w A1_0 l1_0.length l1_0) (hc1_0 : l1_0.length ≤ c1_0) (hr1_1 : Kd.C (Kd.int .i64) w A1_1 l1_1.length l1_1) (hc1_1 : l1_1.length ≤ c1_1) (h : spec_veSame.f k l0_0 l0_1 l1_0 l1_1 = some r) :
  Calls Try.prog 75 #[.agg #[.slice A0_0 l0_0.length c0_0, .slice A0_1 l0_1.length c0_1], .agg #[.slice A1_0 l1_0.length c1_0, .slice A1_1 l1_1.length c1_1]] w fun e w' => e = .returned (.bool r) ∧ Below w.heap.size w w' := by
 have hu35 := Try.underlying35
 have HR0_0 := Aside0.mk hr0_0
 have HC0_0 := Aside0.mk hc0_0
 clear hr0_0 hc0_0
 have HR0_1 := Aside0.mk hr0_1
 have HC0_1 := Aside0.mk hc0_1
 clear hr0_1 hc0_1
 have HR1_0 := Aside0.mk hr1_0
 have HC1_0 := Aside0.mk hc1_0
 clear hr1_0 hc1_0
 have HR1_1 := Aside0.mk hr1_1
 have HC1_1 := Aside0.mk hc1_1
 clear hr1_1 hc1_1
 have HB := Aside0.mk (Below.refl w.heap.size w)
 have H : (spec_veSame.l0 k l0_1 (l0_1.length : Int) 0 l1_0 l1_1) = some r := h
 clear h
 have H' := Aside0.mk H
 clear H
 go_enter Try.func75, Try.ntmps75
 go_wp2_with (first | ((with_reducible refine gate_dst (N := 2) rfl ?_); refine bx 2 #[.slice A0_0 l0_0.length c0_0, .slice A0_1 l0_1.length c0_1] 35 ?_; intro gb167 hg w3 hbox hb; have BK167 := Aside0.mk (hbox); have GW167 := ge HB hg; have GE167 := ge HB hg; replace HB := bs HB hb; clear hb hbox hg) | ((with_reducible refine gate_dst (N := 3) rfl ?_); refine bx 3 #[.slice A1_0 l1_0.length c1_0, .slice A1_1 l1_1.length c1_1] 35 ?_; intro gb168 hg w4 hbox hb; have BK168 := Aside0.mk (hbox); have GW168 := ge HB hg; have GE168 := ge HB hg; replace HB := bs HB hb; have NB167_168 := nl BK167 hg; have NB168_167 := nr BK167 hg; replace BK167 := bb BK167 hb; clear hb hbox hg; have hnb5 := NB167_168.out; have hnc5 := NB168_167.out; have hcz6_0 := bc0 BK167; have hcz6_1 := bc1 BK167; have hfz6_0 := blk_frozen BK167.out 0; have hfz6_1 := blk_frozen BK167.out 1))
 try simp only [Act.put, List.setIfInBounds_toArray, List.set_cons_zero, List.set_cons_succ]
 go_loopg [10] k (fun kq v10 w' => ∃ (x10_1 : Int), v10 = .int .i64 x10_1 ∧ Aside0 (spec_veSame.l0 kq l0_1 (l0_1.length : Int) x10_1 l1_0 l1_1 = some r) ∧ Aside0 (kq ≤ k) ∧ Aside0 (w'.heap[gb167]? = some (.cells #[(.slice A0_0 l0_0.length c0_0), (.slice A0_1 l0_1.length c0_1)] 35 (0, 0))) ∧ Aside0 (w'.heap[gb168]? = some (.cells #[(.slice A1_0 l1_0.length c1_0), (.slice A1_1 l1_1.length c1_1)] 35 (0, 0))) ∧ Aside0 (Below w.heap.size w w'))
 case atStart => exact ⟨(0), (by first | rfl | (simp; done) | (simp [*]; done)), H', ⟨Nat.le_refl _⟩, ⟨bk BK167⟩, ⟨bk BK168⟩, ⟨bw HB⟩⟩
 case round =>
  clear H'
  try clear c1
  try clear p2
  try clear c5
  try clear hcz6_0
  try clear hcz6_1
  try clear hfz6_0
  try clear hfz6_1
  obtain ⟨x10_1, rfl, HA, HK1, BK167, BK168, HB⟩ := hrel
  cases gk with
  | zero => exact absurd HA.out (by simp [spec_veSame.l0])
  | succ k1 =>
   have H := HA.out
   clear HA
   simp only [spec_veSame.l0] at H
   by_cases c7 : x10_1 < (l0_1.length : Int)
   rotate_left
   ·rw [if_neg c7] at H
    have c7b0 : decide (x10_1 < (l0_1.length : Int)) = false := decide_eq_false c7
    clear c7
    obtain rfl := Option.some.inj H
    go_wp2
    go_ret
    exact ⟨by first | rfl | (simp [errW_none, errW_some] <;> rfl) | (simp [*, errW_none, errW_some] <;> rfl), bw HB⟩
   rw [if_pos c7] at H
   have c7b0 : decide (x10_1 < (l0_1.length : Int)) = true := decide_eq_true c7
   clear c7
   by_cases c8 : 0 ≤ x10_1
   rotate_left
   ·rw [if_neg c8] at H
    exact absurd H (by simp)
   rw [if_pos c8] at H
   have c8b0 : decide (0 ≤ x10_1) = true := decide_eq_true c8
   clear c8
   by_cases c9 : x10_1 < (l0_1.length : Int)
   rotate_left
   ·rw [if_neg c9] at H
    exact absurd H (by simp)
   rw [if_pos c9] at H
   have c9b0 : decide (x10_1 < (l0_1.length : Int)) = true := decide_eq_true c9
   clear c9
   by_cases c10 : x10_1 < (l1_1.length : Int)
   rotate_left
   ·rw [if_neg c10] at H
    exact absurd H (by simp)
   rw [if_pos c10] at H
   have c10b0 : decide (x10_1 < (l1_1.length : Int)) = true := decide_eq_true c10
   clear c10
   by_cases c11 : (rd l0_1 x10_1) = (rd l1_1 x10_1)
   rotate_left
   ·rw [if_neg c11] at H
    have c11b0 : ((rd l0_1 x10_1) == (rd l1_1 x10_1)) = false := beq_eq_false_iff_ne.mpr c11
    have c11b1 : ((rd l0_1 x10_1) != (rd l1_1 x10_1)) = true := bne_iff_ne.mpr c11
    obtain rfl := Option.some.inj H
    have p169 : 0 ≤ (x10_1 : Int) := of_decide_eq_true ‹_›
    have q169 : x10_1 < (l0_1.length : Int) := of_decide_eq_true ‹_›
    obtain ⟨ad169, e169, hx169_0⟩ := Kd.at_int HR0_1.out x10_1 p169 q169
    cases e169
    replace hx169_0 := (HB.out.cell (World.block_lt_of_cell? w _ hx169_0)).trans hx169_0
    replace p169 := eq_true p169
    replace q169 := eq_true q169
    have hnb14 := NB168_167.out
    have hnc14 := NB167_168.out
    have hcz15_0 := bc0 BK168
    have hcz15_1 := bc1 BK168
    have hfz15_0 := blk_frozen BK168.out 0
    have hfz15_1 := blk_frozen BK168.out 1
    have p170 : 0 ≤ (x10_1 : Int) := of_decide_eq_true ‹_›
    have q170 : x10_1 < (l1_1.length : Int) := of_decide_eq_true ‹_›
    obtain ⟨ad170, e170, hx170_0⟩ := Kd.at_int HR1_1.out x10_1 p170 q170
    cases e170
    replace hx170_0 := (HB.out.cell (World.block_lt_of_cell? w _ hx170_0)).trans hx170_0
    replace p170 := eq_true p170
    replace q170 := eq_true q170
    go_wp2
    go_ret
    exact ⟨by first | rfl | (simp [errW_none, errW_some] <;> rfl) | (simp [*, errW_none, errW_some] <;> rfl), bw HB⟩
   rw [if_pos c11] at H
   have c11b0 : ((rd l0_1 x10_1) == (rd l1_1 x10_1)) = true := beq_iff_eq.mpr c11
   have c11b1 : ((rd l0_1 x10_1) != (rd l1_1 x10_1)) = false := bne_eq_false_iff_eq.mpr c11
   clear c11
   have H' := Aside0.mk H
   clear H
   have p169 : 0 ≤ (x10_1 : Int) := of_decide_eq_true ‹_›
   have q169 : x10_1 < (l0_1.length : Int) := of_decide_eq_true ‹_›
   obtain ⟨ad169, e169, hx169_0⟩ := Kd.at_int HR0_1.out x10_1 p169 q169
   cases e169
   replace hx169_0 := (HB.out.cell (World.block_lt_of_cell? w _ hx169_0)).trans hx169_0
   replace p169 := eq_true p169
   replace q169 := eq_true q169
   have hnb12 := NB168_167.out
   have hnc12 := NB167_168.out
   have hcz13_0 := bc0 BK168
   have hcz13_1 := bc1 BK168
   have hfz13_0 := blk_frozen BK168.out 0
   have hfz13_1 := blk_frozen BK168.out 1
   have p170 : 0 ≤ (x10_1 : Int) := of_decide_eq_true ‹_›
   have q170 : x10_1 < (l1_1.length : Int) := of_decide_eq_true ‹_›
   obtain ⟨ad170, e170, hx170_0⟩ := Kd.at_int HR1_1.out x10_1 p170 q170
   cases e170
   replace hx170_0 := (HB.out.cell (World.block_lt_of_cell? w _ hx170_0)).trans hx170_0
   replace p170 := eq_true p170
   replace q170 := eq_true q170
   go_wp2
   go_roundg k1
   case measure => have := HK1.out; omega
   case rel => exact ⟨(wrap64 (x10_1 + 1)), (by first | rfl | (simp; done) | (simp [*]; done)), H', ⟨by have := HK1.out; omega⟩, ⟨bk BK167⟩, ⟨bk BK168⟩, ⟨bw HB⟩⟩
def spec_l1Least.f (a0 : Int) (a1 : Int) : Option (Int) := if a0 < a1 then (some a0) else (some a1)
set_option maxHeartbeats 8000000 in
set_option maxRecDepth 100000 in
theorem spec_l1Least.calls (a0 : Int) (a1 : Int) (r : Int) (w : World) (h : spec_l1Least.f a0 a1 = some r) :
  Calls Try.prog 80 #[.int .i64 a0, .int .i64 a1] w fun e w' => e = .returned (.int .i64 r) ∧ Drawn0 w w' := by
 have H : (if a0 < a1 then (some a0) else (some a1)) = some r := h
 clear h
 by_cases c3 : a0 < a1
 rotate_left
 ·rw [if_neg c3] at H
  have c3b0 : decide (a0 < a1) = false := decide_eq_false c3
  clear c3
  obtain rfl := Option.some.inj H
  go_enter Try.func80, Try.ntmps80
  go_wp2
  go_ret
  exact ⟨by first | rfl | (simp; done) | (simp [*]; done), by repeat (first | exact Drawn0.refl _ | apply Drawn0.step)⟩
 rw [if_pos c3] at H
 have c3b0 : decide (a0 < a1) = true := decide_eq_true c3
 clear c3
 obtain rfl := Option.some.inj H
 go_enter Try.func80, Try.ntmps80
 go_wp2
 go_ret
 exact ⟨by first | rfl | (simp; done) | (simp [*]; done), by repeat (first | exact Drawn0.refl _ | apply Drawn0.step)⟩
def spec_veAmount.f (l0_0 : List Int) (l0_1 : List Int) (a1_0 : Int) (a1_1 : Int) : Option (Int) := if a1_0 ≥ 0 then (if 0 ≤ a1_0 then (if a1_0 < (l0_1.length : Int) then (if a1_1 ≥ 0 then (if 0 ≤ a1_1 then (if a1_1 < (l0_0.length : Int) then (if a1_1 < (l0_1.length : Int) then ((spec_l1Least.f (rd l0_1 a1_0) (wrap64 ((rd l0_0 a1_1) - (rd l0_1 a1_1)))).bind fun t183 => (some t183)) else (none)) else (none)) else (none)) else (some (rd l0_1 a1_0))) else (none)) else (none)) else (if a1_1 ≥ 0 then (if 0 ≤ a1_1 then (if a1_1 < (l0_0.length : Int) then (if a1_1 < (l0_1.length : Int) then ((spec_l1Least.f 60 (wrap64 ((rd l0_0 a1_1) - (rd l0_1 a1_1)))).bind fun t186 => (some t186)) else (none)) else (none)) else (none)) else (some 60))
set_option maxHeartbeats 8000000 in
set_option maxRecDepth 100000 in
theorem spec_veAmount.calls (A0_0 : Option Addr) (c0_0 : Nat) (l0_0 : List Int) (A0_1 : Option Addr) (c0_1 : Nat) (l0_1 : List Int) (a1_0 : Int) (a1_1 : Int) (r : Int) (w : World) (hr0_0 : Kd.C (Kd.int .i64) w A0_0 l0_0.length l0_0) (hc0_0 : l0_0.length ≤ c0_0) (hr0_1 : Kd.C (Kd.int .i64) w A0_1 l0_1.length l0_1) (hc0_1 : l0_1.length ≤ c0_1) (h : spec_veAmount.f l0_0 l0_1 a1_0 a1_1 = some r) :
  Calls Try.prog 58 #[.agg #[.slice A0_0 l0_0.length c0_0, .slice A0_1 l0_1.length c0_1], .agg #[.int .i64 a1_0, .int .i64 a1_1]] w fun e w' => e = .returned (.int .i64 r) ∧ Below w.heap.size w w' := by
 have hu35 := Try.underlying35
 have hu55 := Try.underlying55
 have HR0_0 := Aside0.mk hr0_0
 have HC0_0 := Aside0.mk hc0_0
 clear hr0_0 hc0_0
 have HR0_1 := Aside0.mk hr0_1
 have HC0_1 := Aside0.mk hc0_1
 clear hr0_1 hc0_1
 have HB := Aside0.mk (Below.refl w.heap.size w)
 have H : (if a1_0 ≥ 0 then (if 0 ≤ a1_0 then (if a1_0 < (l0_1.length : Int) then (if a1_1 ≥ 0 then (if 0 ≤ a1_1 then (if a1_1 < (l0_0.length : Int) then (if a1_1 < (l0_1.length : Int) then ((spec_l1Least.f (rd l0_1 a1_0) (wrap64 ((rd l0_0 a1_1) - (rd l0_1 a1_1)))).bind fun t183 => (some t183)) else (none)) else (none)) else (none)) else (some (rd l0_1 a1_0))) else (none)) else (none)) else (if a1_1 ≥ 0 then (if 0 ≤ a1_1 then (if a1_1 < (l0_0.length : Int) then (if a1_1 < (l0_1.length : Int) then ((spec_l1Least.f 60 (wrap64 ((rd l0_0 a1_1) - (rd l0_1 a1_1)))).bind fun t186 => (some t186)) else (none)) else (none)) else (none)) else (some 60))) = some r := h
 clear h
 by_cases c3 : a1_0 ≥ 0
 rotate_left
 ·rw [if_neg c3] at H
  have c3b0 : decide (0 ≤ a1_0) = false := decide_eq_false c3
  clear c3
  by_cases c21 : a1_1 ≥ 0
  rotate_left
  ·rw [if_neg c21] at H
   have c21b0 : decide (0 ≤ a1_1) = false := decide_eq_false c21
   clear c21
   obtain rfl := Option.some.inj H
   go_enter Try.func58, Try.ntmps58
   go_wp2_with (first | ((with_reducible refine gate_dst (N := 2) rfl ?_); refine bx 2 #[.slice A0_0 l0_0.length c0_0, .slice A0_1 l0_1.length c0_1] 35 ?_; intro gb178 hg w31 hbox hb; have BK178 := Aside0.mk (hbox); have GW178 := ge HB hg; have GE178 := ge HB hg; replace HB := bs HB hb; clear hb hbox hg) | ((with_reducible refine gate_dst (N := 3) rfl ?_); refine bx 3 #[.int .i64 a1_0, .int .i64 a1_1] 55 ?_; intro gb179 hg w32 hbox hb; have BK179 := Aside0.mk (hbox); have GW179 := ge HB hg; have GE179 := ge HB hg; replace HB := bs HB hb; have NB178_179 := nl BK178 hg; have NB179_178 := nr BK178 hg; replace BK178 := bb BK178 hb; clear hb hbox hg; have hnb33 := NB179_178.out; have hnc33 := NB178_179.out; have hcz34_0 := bc0 BK179; have hcz34_1 := bc1 BK179; have hfz34_0 := blk_frozen BK179.out 0; have hfz34_1 := blk_frozen BK179.out 1))
   repeat (go_quiet (first | ((with_reducible refine gate_dst (N := 2) rfl ?_); refine bx 2 #[.slice A0_0 l0_0.length c0_0, .slice A0_1 l0_1.length c0_1] 35 ?_; intro gb178 hg w31 hbox hb; have n0_ := bs HB hb; have n1_ := Aside0.mk (hbox); have n2_ := ge HB hg; have n3_ := ge HB hg; clear HB; have HB := n0_; have BK178 := n1_; have GW178 := n2_; have GE178 := n3_; clear n0_ n1_ n2_ n3_; clear hb hbox hg) | ((with_reducible refine gate_dst (N := 3) rfl ?_); refine bx 3 #[.int .i64 a1_0, .int .i64 a1_1] 55 ?_; intro gb179 hg w32 hbox hb; have n0_ := bb BK178 hb; have n1_ := bs HB hb; have n2_ := Aside0.mk (hbox); have n3_ := ge HB hg; have n4_ := ge HB hg; have n5_ := nl BK178 hg; have n6_ := nr BK178 hg; clear BK178; clear HB; have BK178 := n0_; have HB := n1_; have BK179 := n2_; have GW179 := n3_; have GE179 := n4_; have NB178_179 := n5_; have NB179_178 := n6_; clear n0_ n1_ n2_ n3_ n4_ n5_ n6_; clear hb hbox hg; have hnb33 := NB179_178.out; have hnc33 := NB178_179.out; have hcz34_0 := bc0 BK179; have hcz34_1 := bc1 BK179; have hfz34_0 := blk_frozen BK179.out 0; have hfz34_1 := blk_frozen BK179.out 1)); try go_wp2_with (first | ((with_reducible refine gate_dst (N := 2) rfl ?_); refine bx 2 #[.slice A0_0 l0_0.length c0_0, .slice A0_1 l0_1.length c0_1] 35 ?_; intro gb178 hg w31 hbox hb; have n0_ := bs HB hb; have n1_ := Aside0.mk (hbox); have n2_ := ge HB hg; have n3_ := ge HB hg; clear HB; have HB := n0_; have BK178 := n1_; have GW178 := n2_; have GE178 := n3_; clear n0_ n1_ n2_ n3_; clear hb hbox hg) | ((with_reducible refine gate_dst (N := 3) rfl ?_); refine bx 3 #[.int .i64 a1_0, .int .i64 a1_1] 55 ?_; intro gb179 hg w32 hbox hb; have n0_ := bb BK178 hb; have n1_ := bs HB hb; have n2_ := Aside0.mk (hbox); have n3_ := ge HB hg; have n4_ := ge HB hg; have n5_ := nl BK178 hg; have n6_ := nr BK178 hg; clear BK178; clear HB; have BK178 := n0_; have HB := n1_; have BK179 := n2_; have GW179 := n3_; have GE179 := n4_; have NB178_179 := n5_; have NB179_178 := n6_; clear n0_ n1_ n2_ n3_ n4_ n5_ n6_; clear hb hbox hg; have hnb33 := NB179_178.out; have hnc33 := NB178_179.out; have hcz34_0 := bc0 BK179; have hcz34_1 := bc1 BK179; have hfz34_0 := blk_frozen BK179.out 0; have hfz34_1 := blk_frozen BK179.out 1)))
   go_ret
   exact ⟨by first | rfl | (simp [errW_none, errW_some] <;> rfl) | (simp [*, errW_none, errW_some] <;> rfl), bw HB⟩
  rw [if_pos c21] at H
  have c21b0 : decide (0 ≤ a1_1) = true := decide_eq_true c21
  clear c21
  by_cases c22 : 0 ≤ a1_1
  rotate_left
  ·rw [if_neg c22] at H
   exact absurd H (by simp)
  rw [if_pos c22] at H
  have c22b0 : decide (0 ≤ a1_1) = true := decide_eq_true c22
  clear c22
  by_cases c23 : a1_1 < (l0_0.length : Int)
  rotate_left
  ·rw [if_neg c23] at H
   exact absurd H (by simp)
  rw [if_pos c23] at H
  have c23b0 : decide (a1_1 < (l0_0.length : Int)) = true := decide_eq_true c23
  clear c23
  by_cases c24 : a1_1 < (l0_1.length : Int)
  rotate_left
  ·rw [if_neg c24] at H
   exact absurd H (by simp)
  rw [if_pos c24] at H
  have c24b0 : decide (a1_1 < (l0_1.length : Int)) = true := decide_eq_true c24
  clear c24
  replace H := Option.bind_eq_some_iff.mp H
  obtain ⟨t186, A250, H⟩ := H
  (try dsimp only at H)
  have A25 := Aside0.mk A250
  clear A250
  obtain rfl := Option.some.inj H
  go_enter Try.func58, Try.ntmps58
  go_wp2_with (first | ((with_reducible refine gate_dst (N := 2) rfl ?_); refine bx 2 #[.slice A0_0 l0_0.length c0_0, .slice A0_1 l0_1.length c0_1] 35 ?_; intro gb178 hg w26 hbox hb; have BK178 := Aside0.mk (hbox); have GW178 := ge HB hg; have GE178 := ge HB hg; replace HB := bs HB hb; clear hb hbox hg) | ((with_reducible refine gate_dst (N := 3) rfl ?_); refine bx 3 #[.int .i64 a1_0, .int .i64 a1_1] 55 ?_; intro gb179 hg w27 hbox hb; have BK179 := Aside0.mk (hbox); have GW179 := ge HB hg; have GE179 := ge HB hg; replace HB := bs HB hb; have NB178_179 := nl BK178 hg; have NB179_178 := nr BK178 hg; replace BK178 := bb BK178 hb; clear hb hbox hg; have hnb28 := NB179_178.out; have hnc28 := NB178_179.out; have hcz29_0 := bc0 BK179; have hcz29_1 := bc1 BK179; have hfz29_0 := blk_frozen BK179.out 0; have hfz29_1 := blk_frozen BK179.out 1; have hcz30_0 := bc0 BK178; have hcz30_1 := bc1 BK178; have hfz30_0 := blk_frozen BK178.out 0; have hfz30_1 := blk_frozen BK178.out 1; have p184 : 0 ≤ (a1_1 : Int) := of_decide_eq_true ‹_›; have q184 : a1_1 < (l0_0.length : Int) := of_decide_eq_true ‹_›; obtain ⟨ad184, e184, hx184_0⟩ := Kd.at_int HR0_0.out a1_1 p184 q184; cases e184; replace hx184_0 := (HB.out.cell (World.block_lt_of_cell? w _ hx184_0)).trans hx184_0; replace p184 := eq_true p184; replace q184 := eq_true q184; have p185 : 0 ≤ (a1_1 : Int) := of_decide_eq_true ‹_›; have q185 : a1_1 < (l0_1.length : Int) := of_decide_eq_true ‹_›; obtain ⟨ad185, e185, hx185_0⟩ := Kd.at_int HR0_1.out a1_1 p185 q185; cases e185; replace hx185_0 := (HB.out.cell (World.block_lt_of_cell? w _ hx185_0)).trans hx185_0; replace p185 := eq_true p185; replace q185 := eq_true q185) | (go_at_call 80; (with_reducible refine (spec_l1Least.calls 60 (wrap64 ((rd l0_0 a1_1) - (rd l0_1 a1_1))) t186 _ A25.out).mono ?_); rintro e w' ⟨rfl, ⟨nd, rfl⟩⟩; (try first | exact ⟨rfl, _, World.drewN_drewN _ _ _⟩ | exact ⟨rfl, _, Eq.trans (World.drewN_drewN _ _ _) (congrArg (World.drewN _) (Nat.add_assoc _ _ _))⟩)))
  repeat (go_quiet (first | ((with_reducible refine gate_dst (N := 2) rfl ?_); refine bx 2 #[.slice A0_0 l0_0.length c0_0, .slice A0_1 l0_1.length c0_1] 35 ?_; intro gb178 hg w26 hbox hb; have n0_ := bs HB hb; have n1_ := Aside0.mk (hbox); have n2_ := ge HB hg; have n3_ := ge HB hg; clear HB; have HB := n0_; have BK178 := n1_; have GW178 := n2_; have GE178 := n3_; clear n0_ n1_ n2_ n3_; clear hb hbox hg) | ((with_reducible refine gate_dst (N := 3) rfl ?_); refine bx 3 #[.int .i64 a1_0, .int .i64 a1_1] 55 ?_; intro gb179 hg w27 hbox hb; have n0_ := bb BK178 hb; have n1_ := bs HB hb; have n2_ := Aside0.mk (hbox); have n3_ := ge HB hg; have n4_ := ge HB hg; have n5_ := nl BK178 hg; have n6_ := nr BK178 hg; clear BK178; clear HB; have BK178 := n0_; have HB := n1_; have BK179 := n2_; have GW179 := n3_; have GE179 := n4_; have NB178_179 := n5_; have NB179_178 := n6_; clear n0_ n1_ n2_ n3_ n4_ n5_ n6_; clear hb hbox hg; have hnb28 := NB179_178.out; have hnc28 := NB178_179.out; have hcz29_0 := bc0 BK179; have hcz29_1 := bc1 BK179; have hfz29_0 := blk_frozen BK179.out 0; have hfz29_1 := blk_frozen BK179.out 1; have hcz30_0 := bc0 BK178; have hcz30_1 := bc1 BK178; have hfz30_0 := blk_frozen BK178.out 0; have hfz30_1 := blk_frozen BK178.out 1; have p184 : 0 ≤ (a1_1 : Int) := of_decide_eq_true ‹_›; have q184 : a1_1 < (l0_0.length : Int) := of_decide_eq_true ‹_›; obtain ⟨ad184, e184, hx184_0⟩ := Kd.at_int HR0_0.out a1_1 p184 q184; cases e184; replace hx184_0 := (HB.out.cell (World.block_lt_of_cell? w _ hx184_0)).trans hx184_0; replace p184 := eq_true p184; replace q184 := eq_true q184; have p185 : 0 ≤ (a1_1 : Int) := of_decide_eq_true ‹_›; have q185 : a1_1 < (l0_1.length : Int) := of_decide_eq_true ‹_›; obtain ⟨ad185, e185, hx185_0⟩ := Kd.at_int HR0_1.out a1_1 p185 q185; cases e185; replace hx185_0 := (HB.out.cell (World.block_lt_of_cell? w _ hx185_0)).trans hx185_0; replace p185 := eq_true p185; replace q185 := eq_true q185) | (go_at_call 80; (with_reducible refine (spec_l1Least.calls 60 (wrap64 ((rd l0_0 a1_1) - (rd l0_1 a1_1))) t186 _ A25.out).mono ?_); rintro e w' ⟨rfl, ⟨nd, rfl⟩⟩; (try first | exact ⟨rfl, _, World.drewN_drewN _ _ _⟩ | exact ⟨rfl, _, Eq.trans (World.drewN_drewN _ _ _) (congrArg (World.drewN _) (Nat.add_assoc _ _ _))⟩))); try go_wp2_with (first | ((with_reducible refine gate_dst (N := 2) rfl ?_); refine bx 2 #[.slice A0_0 l0_0.length c0_0, .slice A0_1 l0_1.length c0_1] 35 ?_; intro gb178 hg w26 hbox hb; have n0_ := bs HB hb; have n1_ := Aside0.mk (hbox); have n2_ := ge HB hg; have n3_ := ge HB hg; clear HB; have HB := n0_; have BK178 := n1_; have GW178 := n2_; have GE178 := n3_; clear n0_ n1_ n2_ n3_; clear hb hbox hg) | ((with_reducible refine gate_dst (N := 3) rfl ?_); refine bx 3 #[.int .i64 a1_0, .int .i64 a1_1] 55 ?_; intro gb179 hg w27 hbox hb; have n0_ := bb BK178 hb; have n1_ := bs HB hb; have n2_ := Aside0.mk (hbox); have n3_ := ge HB hg; have n4_ := ge HB hg; have n5_ := nl BK178 hg; have n6_ := nr BK178 hg; clear BK178; clear HB; have BK178 := n0_; have HB := n1_; have BK179 := n2_; have GW179 := n3_; have GE179 := n4_; have NB178_179 := n5_; have NB179_178 := n6_; clear n0_ n1_ n2_ n3_ n4_ n5_ n6_; clear hb hbox hg; have hnb28 := NB179_178.out; have hnc28 := NB178_179.out; have hcz29_0 := bc0 BK179; have hcz29_1 := bc1 BK179; have hfz29_0 := blk_frozen BK179.out 0; have hfz29_1 := blk_frozen BK179.out 1; have hcz30_0 := bc0 BK178; have hcz30_1 := bc1 BK178; have hfz30_0 := blk_frozen BK178.out 0; have hfz30_1 := blk_frozen BK178.out 1; have p184 : 0 ≤ (a1_1 : Int) := of_decide_eq_true ‹_›; have q184 : a1_1 < (l0_0.length : Int) := of_decide_eq_true ‹_›; obtain ⟨ad184, e184, hx184_0⟩ := Kd.at_int HR0_0.out a1_1 p184 q184; cases e184; replace hx184_0 := (HB.out.cell (World.block_lt_of_cell? w _ hx184_0)).trans hx184_0; replace p184 := eq_true p184; replace q184 := eq_true q184; have p185 : 0 ≤ (a1_1 : Int) := of_decide_eq_true ‹_›; have q185 : a1_1 < (l0_1.length : Int) := of_decide_eq_true ‹_›; obtain ⟨ad185, e185, hx185_0⟩ := Kd.at_int HR0_1.out a1_1 p185 q185; cases e185; replace hx185_0 := (HB.out.cell (World.block_lt_of_cell? w _ hx185_0)).trans hx185_0; replace p185 := eq_true p185; replace q185 := eq_true q185) | (go_at_call 80; (with_reducible refine (spec_l1Least.calls 60 (wrap64 ((rd l0_0 a1_1) - (rd l0_1 a1_1))) t186 _ A25.out).mono ?_); rintro e w' ⟨rfl, ⟨nd, rfl⟩⟩; (try first | exact ⟨rfl, _, World.drewN_drewN _ _ _⟩ | exact ⟨rfl, _, Eq.trans (World.drewN_drewN _ _ _) (congrArg (World.drewN _) (Nat.add_assoc _ _ _))⟩))))
  go_ret
  exact ⟨by first | rfl | (simp [errW_none, errW_some] <;> rfl) | (simp [*, errW_none, errW_some] <;> rfl), bw HB⟩
 rw [if_pos c3] at H
 have c3b0 : decide (0 ≤ a1_0) = true := decide_eq_true c3
 clear c3
 by_cases c4 : 0 ≤ a1_0
 rotate_left
 ·rw [if_neg c4] at H
  exact absurd H (by simp)
 rw [if_pos c4] at H
 have c4b0 : decide (0 ≤ a1_0) = true := decide_eq_true c4
 clear c4
 by_cases c5 : a1_0 < (l0_1.length : Int)
 rotate_left
 ·rw [if_neg c5] at H
  exact absurd H (by simp)
 rw [if_pos c5] at H
 have c5b0 : decide (a1_0 < (l0_1.length : Int)) = true := decide_eq_true c5
 clear c5
 by_cases c6 : a1_1 ≥ 0
 rotate_left
 ·rw [if_neg c6] at H
  have c6b0 : decide (0 ≤ a1_1) = false := decide_eq_false c6
  clear c6
  obtain rfl := Option.some.inj H
  go_enter Try.func58, Try.ntmps58
  go_wp2_with (first | ((with_reducible refine gate_dst (N := 2) rfl ?_); refine bx 2 #[.slice A0_0 l0_0.length c0_0, .slice A0_1 l0_1.length c0_1] 35 ?_; intro gb178 hg w16 hbox hb; have BK178 := Aside0.mk (hbox); have GW178 := ge HB hg; have GE178 := ge HB hg; replace HB := bs HB hb; clear hb hbox hg) | ((with_reducible refine gate_dst (N := 3) rfl ?_); refine bx 3 #[.int .i64 a1_0, .int .i64 a1_1] 55 ?_; intro gb179 hg w17 hbox hb; have BK179 := Aside0.mk (hbox); have GW179 := ge HB hg; have GE179 := ge HB hg; replace HB := bs HB hb; have NB178_179 := nl BK178 hg; have NB179_178 := nr BK178 hg; replace BK178 := bb BK178 hb; clear hb hbox hg; have hnb18 := NB179_178.out; have hnc18 := NB178_179.out; have hcz19_0 := bc0 BK179; have hcz19_1 := bc1 BK179; have hfz19_0 := blk_frozen BK179.out 0; have hfz19_1 := blk_frozen BK179.out 1; have hcz20_0 := bc0 BK178; have hcz20_1 := bc1 BK178; have hfz20_0 := blk_frozen BK178.out 0; have hfz20_1 := blk_frozen BK178.out 1; have p180 : 0 ≤ (a1_0 : Int) := of_decide_eq_true ‹_›; have q180 : a1_0 < (l0_1.length : Int) := of_decide_eq_true ‹_›; obtain ⟨ad180, e180, hx180_0⟩ := Kd.at_int HR0_1.out a1_0 p180 q180; cases e180; replace hx180_0 := (HB.out.cell (World.block_lt_of_cell? w _ hx180_0)).trans hx180_0; replace p180 := eq_true p180; replace q180 := eq_true q180))
  repeat (go_quiet (first | ((with_reducible refine gate_dst (N := 2) rfl ?_); refine bx 2 #[.slice A0_0 l0_0.length c0_0, .slice A0_1 l0_1.length c0_1] 35 ?_; intro gb178 hg w16 hbox hb; have n0_ := bs HB hb; have n1_ := Aside0.mk (hbox); have n2_ := ge HB hg; have n3_ := ge HB hg; clear HB; have HB := n0_; have BK178 := n1_; have GW178 := n2_; have GE178 := n3_; clear n0_ n1_ n2_ n3_; clear hb hbox hg) | ((with_reducible refine gate_dst (N := 3) rfl ?_); refine bx 3 #[.int .i64 a1_0, .int .i64 a1_1] 55 ?_; intro gb179 hg w17 hbox hb; have n0_ := bb BK178 hb; have n1_ := bs HB hb; have n2_ := Aside0.mk (hbox); have n3_ := ge HB hg; have n4_ := ge HB hg; have n5_ := nl BK178 hg; have n6_ := nr BK178 hg; clear BK178; clear HB; have BK178 := n0_; have HB := n1_; have BK179 := n2_; have GW179 := n3_; have GE179 := n4_; have NB178_179 := n5_; have NB179_178 := n6_; clear n0_ n1_ n2_ n3_ n4_ n5_ n6_; clear hb hbox hg; have hnb18 := NB179_178.out; have hnc18 := NB178_179.out; have hcz19_0 := bc0 BK179; have hcz19_1 := bc1 BK179; have hfz19_0 := blk_frozen BK179.out 0; have hfz19_1 := blk_frozen BK179.out 1; have hcz20_0 := bc0 BK178; have hcz20_1 := bc1 BK178; have hfz20_0 := blk_frozen BK178.out 0; have hfz20_1 := blk_frozen BK178.out 1; have p180 : 0 ≤ (a1_0 : Int) := of_decide_eq_true ‹_›; have q180 : a1_0 < (l0_1.length : Int) := of_decide_eq_true ‹_›; obtain ⟨ad180, e180, hx180_0⟩ := Kd.at_int HR0_1.out a1_0 p180 q180; cases e180; replace hx180_0 := (HB.out.cell (World.block_lt_of_cell? w _ hx180_0)).trans hx180_0; replace p180 := eq_true p180; replace q180 := eq_true q180)); try go_wp2_with (first | ((with_reducible refine gate_dst (N := 2) rfl ?_); refine bx 2 #[.slice A0_0 l0_0.length c0_0, .slice A0_1 l0_1.length c0_1] 35 ?_; intro gb178 hg w16 hbox hb; have n0_ := bs HB hb; have n1_ := Aside0.mk (hbox); have n2_ := ge HB hg; have n3_ := ge HB hg; clear HB; have HB := n0_; have BK178 := n1_; have GW178 := n2_; have GE178 := n3_; clear n0_ n1_ n2_ n3_; clear hb hbox hg) | ((with_reducible refine gate_dst (N := 3) rfl ?_); refine bx 3 #[.int .i64 a1_0, .int .i64 a1_1] 55 ?_; intro gb179 hg w17 hbox hb; have n0_ := bb BK178 hb; have n1_ := bs HB hb; have n2_ := Aside0.mk (hbox); have n3_ := ge HB hg; have n4_ := ge HB hg; have n5_ := nl BK178 hg; have n6_ := nr BK178 hg; clear BK178; clear HB; have BK178 := n0_; have HB := n1_; have BK179 := n2_; have GW179 := n3_; have GE179 := n4_; have NB178_179 := n5_; have NB179_178 := n6_; clear n0_ n1_ n2_ n3_ n4_ n5_ n6_; clear hb hbox hg; have hnb18 := NB179_178.out; have hnc18 := NB178_179.out; have hcz19_0 := bc0 BK179; have hcz19_1 := bc1 BK179; have hfz19_0 := blk_frozen BK179.out 0; have hfz19_1 := blk_frozen BK179.out 1; have hcz20_0 := bc0 BK178; have hcz20_1 := bc1 BK178; have hfz20_0 := blk_frozen BK178.out 0; have hfz20_1 := blk_frozen BK178.out 1; have p180 : 0 ≤ (a1_0 : Int) := of_decide_eq_true ‹_›; have q180 : a1_0 < (l0_1.length : Int) := of_decide_eq_true ‹_›; obtain ⟨ad180, e180, hx180_0⟩ := Kd.at_int HR0_1.out a1_0 p180 q180; cases e180; replace hx180_0 := (HB.out.cell (World.block_lt_of_cell? w _ hx180_0)).trans hx180_0; replace p180 := eq_true p180; replace q180 := eq_true q180)))
  go_ret
  exact ⟨by first | rfl | (simp [errW_none, errW_some] <;> rfl) | (simp [*, errW_none, errW_some] <;> rfl), bw HB⟩
 rw [if_pos c6] at H
 have c6b0 : decide (0 ≤ a1_1) = true := decide_eq_true c6
 clear c6
 by_cases c7 : 0 ≤ a1_1
 rotate_left
 ·rw [if_neg c7] at H
  exact absurd H (by simp)
 rw [if_pos c7] at H
 have c7b0 : decide (0 ≤ a1_1) = true := decide_eq_true c7
 clear c7
 by_cases c8 : a1_1 < (l0_0.length : Int)
 rotate_left
 ·rw [if_neg c8] at H
  exact absurd H (by simp)
 rw [if_pos c8] at H
 have c8b0 : decide (a1_1 < (l0_0.length : Int)) = true := decide_eq_true c8
 clear c8
 by_cases c9 : a1_1 < (l0_1.length : Int)
 rotate_left
 ·rw [if_neg c9] at H
  exact absurd H (by simp)
 rw [if_pos c9] at H
 have c9b0 : decide (a1_1 < (l0_1.length : Int)) = true := decide_eq_true c9
 clear c9
 replace H := Option.bind_eq_some_iff.mp H
 obtain ⟨t183, A100, H⟩ := H
 (try dsimp only at H)
 have A10 := Aside0.mk A100
 clear A100
 obtain rfl := Option.some.inj H
 go_enter Try.func58, Try.ntmps58
 go_wp2_with (first | ((with_reducible refine gate_dst (N := 2) rfl ?_); refine bx 2 #[.slice A0_0 l0_0.length c0_0, .slice A0_1 l0_1.length c0_1] 35 ?_; intro gb178 hg w11 hbox hb; have BK178 := Aside0.mk (hbox); have GW178 := ge HB hg; have GE178 := ge HB hg; replace HB := bs HB hb; clear hb hbox hg) | ((with_reducible refine gate_dst (N := 3) rfl ?_); refine bx 3 #[.int .i64 a1_0, .int .i64 a1_1] 55 ?_; intro gb179 hg w12 hbox hb; have BK179 := Aside0.mk (hbox); have GW179 := ge HB hg; have GE179 := ge HB hg; replace HB := bs HB hb; have NB178_179 := nl BK178 hg; have NB179_178 := nr BK178 hg; replace BK178 := bb BK178 hb; clear hb hbox hg; have hnb13 := NB179_178.out; have hnc13 := NB178_179.out; have hcz14_0 := bc0 BK179; have hcz14_1 := bc1 BK179; have hfz14_0 := blk_frozen BK179.out 0; have hfz14_1 := blk_frozen BK179.out 1; have hcz15_0 := bc0 BK178; have hcz15_1 := bc1 BK178; have hfz15_0 := blk_frozen BK178.out 0; have hfz15_1 := blk_frozen BK178.out 1; have p180 : 0 ≤ (a1_0 : Int) := of_decide_eq_true ‹_›; have q180 : a1_0 < (l0_1.length : Int) := of_decide_eq_true ‹_›; obtain ⟨ad180, e180, hx180_0⟩ := Kd.at_int HR0_1.out a1_0 p180 q180; cases e180; replace hx180_0 := (HB.out.cell (World.block_lt_of_cell? w _ hx180_0)).trans hx180_0; replace p180 := eq_true p180; replace q180 := eq_true q180; have p181 : 0 ≤ (a1_1 : Int) := of_decide_eq_true ‹_›; have q181 : a1_1 < (l0_0.length : Int) := of_decide_eq_true ‹_›; obtain ⟨ad181, e181, hx181_0⟩ := Kd.at_int HR0_0.out a1_1 p181 q181; cases e181; replace hx181_0 := (HB.out.cell (World.block_lt_of_cell? w _ hx181_0)).trans hx181_0; replace p181 := eq_true p181; replace q181 := eq_true q181; have p182 : 0 ≤ (a1_1 : Int) := of_decide_eq_true ‹_›; have q182 : a1_1 < (l0_1.length : Int) := of_decide_eq_true ‹_›; obtain ⟨ad182, e182, hx182_0⟩ := Kd.at_int HR0_1.out a1_1 p182 q182; obtain rfl : ad180 = ad182 := (by injection e182); replace hx182_0 := (HB.out.cell (World.block_lt_of_cell? w _ hx182_0)).trans hx182_0; replace p182 := eq_true p182; replace q182 := eq_true q182) | (go_at_call 80; (with_reducible refine (spec_l1Least.calls (rd l0_1 a1_0) (wrap64 ((rd l0_0 a1_1) - (rd l0_1 a1_1))) t183 _ A10.out).mono ?_); rintro e w' ⟨rfl, ⟨nd, rfl⟩⟩; (try first | exact ⟨rfl, _, World.drewN_drewN _ _ _⟩ | exact ⟨rfl, _, Eq.trans (World.drewN_drewN _ _ _) (congrArg (World.drewN _) (Nat.add_assoc _ _ _))⟩)))
 repeat (go_quiet (first | ((with_reducible refine gate_dst (N := 2) rfl ?_); refine bx 2 #[.slice A0_0 l0_0.length c0_0, .slice A0_1 l0_1.length c0_1] 35 ?_; intro gb178 hg w11 hbox hb; have n0_ := bs HB hb; have n1_ := Aside0.mk (hbox); have n2_ := ge HB hg; have n3_ := ge HB hg; clear HB; have HB := n0_; have BK178 := n1_; have GW178 := n2_; have GE178 := n3_; clear n0_ n1_ n2_ n3_; clear hb hbox hg) | ((with_reducible refine gate_dst (N := 3) rfl ?_); refine bx 3 #[.int .i64 a1_0, .int .i64 a1_1] 55 ?_; intro gb179 hg w12 hbox hb; have n0_ := bb BK178 hb; have n1_ := bs HB hb; have n2_ := Aside0.mk (hbox); have n3_ := ge HB hg; have n4_ := ge HB hg; have n5_ := nl BK178 hg; have n6_ := nr BK178 hg; clear BK178; clear HB; have BK178 := n0_; have HB := n1_; have BK179 := n2_; have GW179 := n3_; have GE179 := n4_; have NB178_179 := n5_; have NB179_178 := n6_; clear n0_ n1_ n2_ n3_ n4_ n5_ n6_; clear hb hbox hg; have hnb13 := NB179_178.out; have hnc13 := NB178_179.out; have hcz14_0 := bc0 BK179; have hcz14_1 := bc1 BK179; have hfz14_0 := blk_frozen BK179.out 0; have hfz14_1 := blk_frozen BK179.out 1; have hcz15_0 := bc0 BK178; have hcz15_1 := bc1 BK178; have hfz15_0 := blk_frozen BK178.out 0; have hfz15_1 := blk_frozen BK178.out 1; have p180 : 0 ≤ (a1_0 : Int) := of_decide_eq_true ‹_›; have q180 : a1_0 < (l0_1.length : Int) := of_decide_eq_true ‹_›; obtain ⟨ad180, e180, hx180_0⟩ := Kd.at_int HR0_1.out a1_0 p180 q180; cases e180; replace hx180_0 := (HB.out.cell (World.block_lt_of_cell? w _ hx180_0)).trans hx180_0; replace p180 := eq_true p180; replace q180 := eq_true q180; have p181 : 0 ≤ (a1_1 : Int) := of_decide_eq_true ‹_›; have q181 : a1_1 < (l0_0.length : Int) := of_decide_eq_true ‹_›; obtain ⟨ad181, e181, hx181_0⟩ := Kd.at_int HR0_0.out a1_1 p181 q181; cases e181; replace hx181_0 := (HB.out.cell (World.block_lt_of_cell? w _ hx181_0)).trans hx181_0; replace p181 := eq_true p181; replace q181 := eq_true q181; have p182 : 0 ≤ (a1_1 : Int) := of_decide_eq_true ‹_›; have q182 : a1_1 < (l0_1.length : Int) := of_decide_eq_true ‹_›; obtain ⟨ad182, e182, hx182_0⟩ := Kd.at_int HR0_1.out a1_1 p182 q182; obtain rfl : ad180 = ad182 := (by injection e182); replace hx182_0 := (HB.out.cell (World.block_lt_of_cell? w _ hx182_0)).trans hx182_0; replace p182 := eq_true p182; replace q182 := eq_true q182) | (go_at_call 80; (with_reducible refine (spec_l1Least.calls (rd l0_1 a1_0) (wrap64 ((rd l0_0 a1_1) - (rd l0_1 a1_1))) t183 _ A10.out).mono ?_); rintro e w' ⟨rfl, ⟨nd, rfl⟩⟩; (try first | exact ⟨rfl, _, World.drewN_drewN _ _ _⟩ | exact ⟨rfl, _, Eq.trans (World.drewN_drewN _ _ _) (congrArg (World.drewN _) (Nat.add_assoc _ _ _))⟩))); try go_wp2_with (first | ((with_reducible refine gate_dst (N := 2) rfl ?_); refine bx 2 #[.slice A0_0 l0_0.length c0_0, .slice A0_1 l0_1.length c0_1] 35 ?_; intro gb178 hg w11 hbox hb; have n0_ := bs HB hb; have n1_ := Aside0.mk (hbox); have n2_ := ge HB hg; have n3_ := ge HB hg; clear HB; have HB := n0_; have BK178 := n1_; have GW178 := n2_; have GE178 := n3_; clear n0_ n1_ n2_ n3_; clear hb hbox hg) | ((with_reducible refine gate_dst (N := 3) rfl ?_); refine bx 3 #[.int .i64 a1_0, .int .i64 a1_1] 55 ?_; intro gb179 hg w12 hbox hb; have n0_ := bb BK178 hb; have n1_ := bs HB hb; have n2_ := Aside0.mk (hbox); have n3_ := ge HB hg; have n4_ := ge HB hg; have n5_ := nl BK178 hg; have n6_ := nr BK178 hg; clear BK178; clear HB; have BK178 := n0_; have HB := n1_; have BK179 := n2_; have GW179 := n3_; have GE179 := n4_; have NB178_179 := n5_; have NB179_178 := n6_; clear n0_ n1_ n2_ n3_ n4_ n5_ n6_; clear hb hbox hg; have hnb13 := NB179_178.out; have hnc13 := NB178_179.out; have hcz14_0 := bc0 BK179; have hcz14_1 := bc1 BK179; have hfz14_0 := blk_frozen BK179.out 0; have hfz14_1 := blk_frozen BK179.out 1; have hcz15_0 := bc0 BK178; have hcz15_1 := bc1 BK178; have hfz15_0 := blk_frozen BK178.out 0; have hfz15_1 := blk_frozen BK178.out 1; have p180 : 0 ≤ (a1_0 : Int) := of_decide_eq_true ‹_›; have q180 : a1_0 < (l0_1.length : Int) := of_decide_eq_true ‹_›; obtain ⟨ad180, e180, hx180_0⟩ := Kd.at_int HR0_1.out a1_0 p180 q180; cases e180; replace hx180_0 := (HB.out.cell (World.block_lt_of_cell? w _ hx180_0)).trans hx180_0; replace p180 := eq_true p180; replace q180 := eq_true q180; have p181 : 0 ≤ (a1_1 : Int) := of_decide_eq_true ‹_›; have q181 : a1_1 < (l0_0.length : Int) := of_decide_eq_true ‹_›; obtain ⟨ad181, e181, hx181_0⟩ := Kd.at_int HR0_0.out a1_1 p181 q181; cases e181; replace hx181_0 := (HB.out.cell (World.block_lt_of_cell? w _ hx181_0)).trans hx181_0; replace p181 := eq_true p181; replace q181 := eq_true q181; have p182 : 0 ≤ (a1_1 : Int) := of_decide_eq_true ‹_›; have q182 : a1_1 < (l0_1.length : Int) := of_decide_eq_true ‹_›; obtain ⟨ad182, e182, hx182_0⟩ := Kd.at_int HR0_1.out a1_1 p182 q182; obtain rfl : ad180 = ad182 := (by injection e182); replace hx182_0 := (HB.out.cell (World.block_lt_of_cell? w _ hx182_0)).trans hx182_0; replace p182 := eq_true p182; replace q182 := eq_true q182) | (go_at_call 80; (with_reducible refine (spec_l1Least.calls (rd l0_1 a1_0) (wrap64 ((rd l0_0 a1_1) - (rd l0_1 a1_1))) t183 _ A10.out).mono ?_); rintro e w' ⟨rfl, ⟨nd, rfl⟩⟩; (try first | exact ⟨rfl, _, World.drewN_drewN _ _ _⟩ | exact ⟨rfl, _, Eq.trans (World.drewN_drewN _ _ _) (congrArg (World.drewN _) (Nat.add_assoc _ _ _))⟩))))
 go_ret
 exact ⟨by first | rfl | (simp [errW_none, errW_some] <;> rfl) | (simp [*, errW_none, errW_some] <;> rfl), bw HB⟩
def spec_veMove.f (a0 : Int) (a1_0 : Int) (a1_1 : Int) : Option (Bool) := (spec_l1In.f a1_0 (-1) (wrap64 (a0 - 1))).bind fun t188 => (if t188 = true then ((spec_l1In.f a1_1 (-1) (wrap64 (a0 - 1))).bind fun t189 => (if t189 = true then (some (a1_0 != a1_1)) else (some false))) else (some false))
set_option maxHeartbeats 8000000 in
set_option maxRecDepth 100000 in
theorem spec_veMove.calls (a0 : Int) (a1_0 : Int) (a1_1 : Int) (r : Bool) (w : World) (h : spec_veMove.f a0 a1_0 a1_1 = some r) :
  Calls Try.prog 79 #[.int .i64 a0, .agg #[.int .i64 a1_0, .int .i64 a1_1]] w fun e w' => e = .returned (.bool r) ∧ Below w.heap.size w w' := by
 have hu55 := Try.underlying55
 have HB := Aside0.mk (Below.refl w.heap.size w)
 have H : ((spec_l1In.f a1_0 (-1) (wrap64 (a0 - 1))).bind fun t188 => (if t188 = true then ((spec_l1In.f a1_1 (-1) (wrap64 (a0 - 1))).bind fun t189 => (if t189 = true then (some (a1_0 != a1_1)) else (some false))) else (some false))) = some r := h
 clear h
 replace H := Option.bind_eq_some_iff.mp H
 obtain ⟨t188, A30, H⟩ := H
 (try dsimp only at H)
 have A3 := Aside0.mk A30
 clear A30
 by_cases c4 : t188 = true
 rotate_left
 ·replace c4 := Bool.eq_false_iff.mpr c4
  subst c4
  have H1 : (some false) = some r := by rw [if_neg (show ¬ (false = true) by decide)] at H; exact H
  clear H
  have H := H1
  clear H1
  obtain rfl := Option.some.inj H
  go_enter Try.func79, Try.ntmps79
  go_wp2_with (first | ((with_reducible refine gate_dst (N := 3) rfl ?_); refine bx 3 #[.int .i64 a1_0, .int .i64 a1_1] 55 ?_; intro gb187 hg w11 hbox hb; have BK187 := Aside0.mk (hbox); have GW187 := ge HB hg; have GE187 := ge HB hg; replace HB := bs HB hb; clear hb hbox hg; have hcz12_0 := bc0 BK187; have hcz12_1 := bc1 BK187; have hfz12_0 := blk_frozen BK187.out 0; have hfz12_1 := blk_frozen BK187.out 1) | ((with_reducible refine gate_callee (f := 69) rfl ?_); refine gl 9 Try.func69 #[.int .i64 a1_0, .int .i64 (-1), .int .i64 (wrap64 (a0 - 1))] ?_; (with_reducible refine (spec_l1In.calls a1_0 (-1) (wrap64 (a0 - 1)) false _ A3.out).mono ?_); rintro e w' ⟨rfl, ⟨nd, rfl⟩⟩; refine ⟨_, rfl, ?_⟩))
  go_ret
  exact ⟨by first | rfl | (simp [errW_none, errW_some] <;> rfl) | (simp [*, errW_none, errW_some] <;> rfl), bw HB⟩
 subst c4
 have H1 : ((spec_l1In.f a1_1 (-1) (wrap64 (a0 - 1))).bind fun t189 => (if t189 = true then (some (a1_0 != a1_1)) else (some false))) = some r := by rw [if_pos rfl] at H; exact H
 clear H
 have H := H1
 clear H1
 replace H := Option.bind_eq_some_iff.mp H
 obtain ⟨t189, A50, H⟩ := H
 (try dsimp only at H)
 have A5 := Aside0.mk A50
 clear A50
 by_cases c6 : t189 = true
 ·subst c6
  have H1 : (some (a1_0 != a1_1)) = some r := by rw [if_pos rfl] at H; exact H
  clear H
  have H := H1
  clear H1
  obtain rfl := Option.some.inj H
  go_enter Try.func79, Try.ntmps79
  go_wp2_with (first | ((with_reducible refine gate_dst (N := 3) rfl ?_); refine bx 3 #[.int .i64 a1_0, .int .i64 a1_1] 55 ?_; intro gb187 hg w7 hbox hb; have BK187 := Aside0.mk (hbox); have GW187 := ge HB hg; have GE187 := ge HB hg; replace HB := bs HB hb; clear hb hbox hg; have hcz8_0 := bc0 BK187; have hcz8_1 := bc1 BK187; have hfz8_0 := blk_frozen BK187.out 0; have hfz8_1 := blk_frozen BK187.out 1) | ((with_reducible refine gate_callee (f := 69) rfl ?_); refine gl 9 Try.func69 #[.int .i64 a1_0, .int .i64 (-1), .int .i64 (wrap64 (a0 - 1))] ?_; (with_reducible refine (spec_l1In.calls a1_0 (-1) (wrap64 (a0 - 1)) true _ A3.out).mono ?_); rintro e w' ⟨rfl, ⟨nd, rfl⟩⟩; refine ⟨_, rfl, ?_⟩) | (go_at_call 69; (with_reducible refine (spec_l1In.calls a1_1 (-1) (wrap64 (a0 - 1)) true _ A5.out).mono ?_); rintro e w' ⟨rfl, ⟨nd, rfl⟩⟩))
  go_ret
  exact ⟨by first | rfl | (simp [errW_none, errW_some] <;> rfl) | (simp [*, errW_none, errW_some] <;> rfl), bw HB⟩
 replace c6 := Bool.eq_false_iff.mpr c6
 subst c6
 have H1 : (some false) = some r := by rw [if_neg (show ¬ (false = true) by decide)] at H; exact H
 clear H
 have H := H1
 clear H1
 obtain rfl := Option.some.inj H
 go_enter Try.func79, Try.ntmps79
 go_wp2_with (first | ((with_reducible refine gate_dst (N := 3) rfl ?_); refine bx 3 #[.int .i64 a1_0, .int .i64 a1_1] 55 ?_; intro gb187 hg w9 hbox hb; have BK187 := Aside0.mk (hbox); have GW187 := ge HB hg; have GE187 := ge HB hg; replace HB := bs HB hb; clear hb hbox hg; have hcz10_0 := bc0 BK187; have hcz10_1 := bc1 BK187; have hfz10_0 := blk_frozen BK187.out 0; have hfz10_1 := blk_frozen BK187.out 1) | ((with_reducible refine gate_callee (f := 69) rfl ?_); refine gl 9 Try.func69 #[.int .i64 a1_0, .int .i64 (-1), .int .i64 (wrap64 (a0 - 1))] ?_; (with_reducible refine (spec_l1In.calls a1_0 (-1) (wrap64 (a0 - 1)) true _ A3.out).mono ?_); rintro e w' ⟨rfl, ⟨nd, rfl⟩⟩; refine ⟨_, rfl, ?_⟩) | (go_at_call 69; (with_reducible refine (spec_l1In.calls a1_1 (-1) (wrap64 (a0 - 1)) false _ A5.out).mono ?_); rintro e w' ⟨rfl, ⟨nd, rfl⟩⟩))
 go_ret
 exact ⟨by first | rfl | (simp [errW_none, errW_some] <;> rfl) | (simp [*, errW_none, errW_some] <;> rfl), bw HB⟩
mutual
def spec_veOn.l0 : Nat → Bool → List (S55) → Int → List Int → List Int → Option ((List (S55)))
 | 0, _, _, _, _, _ => none
 | k + 1, x1, x5, x6, x191000, x191001 => if x6 < (x191000.length : Int) then (spec_veOn.l1 k x1 x5 x6 (-1) x191000 x191001) else (some x5)
def spec_veOn.l1 : Nat → Bool → List (S55) → Int → Int → List Int → List Int → Option ((List (S55)))
 | 0, _, _, _, _, _, _ => none
 | k + 1, x1, x5, x6, x7, x191000, x191001 => if x7 < (x191000.length : Int) then ((spec_veMove.f (x191000.length : Int) x6 x7).bind fun t192 => (if t192 = true then (if x1 = true then (if x6 < 0 then (spec_veOn.l1 k x1 x5 x6 (wrap64 (x7 + 1)) x191000 x191001) else (if x7 < 0 then (spec_veOn.l1 k x1 x5 x6 (wrap64 (x7 + 1)) x191000 x191001) else ((spec_veAmount.f x191000 x191001 x6 x7).bind fun t193 => (if t193 = 0 then (spec_veOn.l1 k x1 x5 x6 (wrap64 (x7 + 1)) x191000 x191001) else (if x5.length < 8796093022208 then (spec_veOn.l1 k x1 (x5 ++ [(⟨x6, x7⟩ : S55)]) x6 (wrap64 (x7 + 1)) x191000 x191001) else (none)))))) else ((spec_veAmount.f x191000 x191001 x6 x7).bind fun t197 => (if t197 = 0 then (spec_veOn.l1 k x1 x5 x6 (wrap64 (x7 + 1)) x191000 x191001) else (if x5.length < 8796093022208 then (spec_veOn.l1 k x1 (x5 ++ [(⟨x6, x7⟩ : S55)]) x6 (wrap64 (x7 + 1)) x191000 x191001) else (none))))) else (spec_veOn.l1 k x1 x5 x6 (wrap64 (x7 + 1)) x191000 x191001))) else (spec_veOn.l0 k x1 x5 (wrap64 (x6 + 1)) x191000 x191001)
end
def spec_veOn.f (k : Nat) (l0_0 : List Int) (l0_1 : List Int) (a1 : Bool) : Option ((List (S55))) := spec_veOn.l0 k a1 ([] : List (S55)) (-1) l0_0 l0_1
set_option maxHeartbeats 8000000 in
set_option maxRecDepth 100000 in
theorem spec_veOn.calls (k : Nat) (A0_0 : Option Addr) (c0_0 : Nat) (l0_0 : List Int) (A0_1 : Option Addr) (c0_1 : Nat) (l0_1 : List Int) (a1 : Bool) (r : List (S55)) (w : World) (hr0_0 : Kd.C (Kd.int .i64) w A0_0 l0_0.length l0_0) (hc0_0 : l0_0.length ≤ c0_0) (hr0_1 : Kd.C (Kd.int .i64) w A0_1 l0_1.length l0_1) (hc0_1 : l0_1.length ≤ c0_1) (h : spec_veOn.f k l0_0 l0_1 a1 = some r) :
  Calls Try.prog 57 #[.agg #[.slice A0_0 l0_0.length c0_0, .slice A0_1 l0_1.length c0_1], .bool a1] w fun e w' => ∃ v0_ : Value, e = .returned (v0_) ∧ Kd.R k55 55 w' w.heap.size (fun _ => True) v0_ r ∧ Below w.heap.size w w' := by
 have hu35 := Try.underlying35
 have hu55 := Try.underlying55
 have HR0_0 := Aside0.mk hr0_0
 have HC0_0 := Aside0.mk hc0_0
 clear hr0_0 hc0_0
 have HR0_1 := Aside0.mk hr0_1
 have HC0_1 := Aside0.mk hc0_1
 clear hr0_1 hc0_1
 have HB := Aside0.mk (Below.refl w.heap.size w)
 have H : (spec_veOn.l0 k a1 ([] : List (S55)) (-1) l0_0 l0_1) = some r := h
 clear h
 have H' := Aside0.mk H
 clear H
 go_enter Try.func57, Try.ntmps57
 go_wp2_with (first | ((with_reducible refine gate_dst (N := 2) rfl ?_); refine bx 2 #[.slice A0_0 l0_0.length c0_0, .slice A0_1 l0_1.length c0_1] 35 ?_; intro gb190 hg w3 hbox hb; have BK190 := Aside0.mk (hbox); have GW190 := ge HB hg; have GE190 := ge HB hg; replace HB := bs HB hb; clear hb hbox hg))
 try simp only [Act.put, List.setIfInBounds_toArray, List.set_cons_zero, List.set_cons_succ]
 go_loopg [5, 6] k (fun kq v5 v6 w' => ∃ (x5_1 : List (S55)) (x6_1 : Int), v6 = .int .i64 x6_1 ∧ Aside0 (spec_veOn.l0 kq a1 x5_1 x6_1 l0_0 l0_1 = some r) ∧ Aside0 (kq ≤ k) ∧ Aside0 (Kd.R k55 55 w' w.heap.size (fun _ => True) v5 x5_1) ∧ Aside0 (w'.heap[gb190]? = some (.cells #[(.slice A0_0 l0_0.length c0_0), (.slice A0_1 l0_1.length c0_1)] 35 (0, 0))) ∧ Aside0 (Below w.heap.size w w'))
 case atStart => exact ⟨(([] : List (S55))), ((-1)), (by first | rfl | (simp; done) | (simp [*]; done)), H', ⟨Nat.le_refl _⟩, ⟨by first | exact Kd.R_nil _ _ _ _ _ | exact Kd.N_nil _ _ _ _ _ | exact Kd.V_nil _ _ _ _ _ | exact Kd.Q_nil _ _ _ _ _ | exact Kd.S_nil _ _ _ _ _⟩, ⟨bk BK190⟩, ⟨bw HB⟩⟩
 case round =>
  clear H'
  try clear p2
  obtain ⟨x5_1, x6_1, rfl, HA, HK1, HO_5, BK190, HB⟩ := hrel
  cases gk with
  | zero => exact absurd HA.out (by simp [spec_veOn.l0])
  | succ k1 =>
   have H := HA.out
   clear HA
   simp only [spec_veOn.l0] at H
   by_cases c4 : x6_1 < (l0_0.length : Int)
   rotate_left
   ·rw [if_neg c4] at H
    have c4b0 : decide (x6_1 < (l0_0.length : Int)) = false := decide_eq_false c4
    clear c4
    obtain rfl := Option.some.inj H
    have hcz77_0 := bc0 BK190
    have hcz77_1 := bc1 BK190
    have hfz77_0 := blk_frozen BK190.out 0
    have hfz77_1 := blk_frozen BK190.out 1
    go_wp2
    go_ret
    exact ⟨_, by first | rfl | (simp [errW_none, errW_some] <;> rfl) | (simp [*, errW_none, errW_some] <;> rfl), rk HO_5, bw HB⟩
   rw [if_pos c4] at H
   have c4b0 : decide (x6_1 < (l0_0.length : Int)) = true := decide_eq_true c4
   clear c4
   have H' := Aside0.mk H
   clear H
   have hcz5_0 := bc0 BK190
   have hcz5_1 := bc1 BK190
   have hfz5_0 := blk_frozen BK190.out 0
   have hfz5_1 := blk_frozen BK190.out 1
   go_wp2
   try simp only [Act.put, List.setIfInBounds_toArray, List.set_cons_zero, List.set_cons_succ]
   go_loopg [5, 7] k1 (fun kq v5 v7 w' => ∃ (x5_2 : List (S55)) (x7_2 : Int), v7 = .int .i64 x7_2 ∧ Aside0 (spec_veOn.l1 kq a1 x5_2 x6_1 x7_2 l0_0 l0_1 = some r) ∧ Aside0 (kq ≤ k1) ∧ Aside0 (Kd.R k55 55 w' w.heap.size (fun _ => True) v5 x5_2) ∧ Aside0 (w'.heap[gb190]? = some (.cells #[(.slice A0_0 l0_0.length c0_0), (.slice A0_1 l0_1.length c0_1)] 35 (0, 0))) ∧ Aside0 (Below w.heap.size w w'))
   case atStart => exact ⟨(x5_1), ((-1)), (by first | rfl | (simp; done) | (simp [*]; done)), H', ⟨Nat.le_refl _⟩, ⟨rk HO_5⟩, ⟨bk BK190⟩, ⟨bw HB⟩⟩
   case round =>
    clear H'
    try clear p2
    try clear c4
    try clear c4b0
    try clear c5
    try clear hcz5_0
    try clear hcz5_1
    try clear hfz5_0
    try clear hfz5_1
    try clear p2
    obtain ⟨x5_2, x7_2, rfl, HA, HK2, HO_5, BK190, HB⟩ := hrel
    cases gk with
    | zero => exact absurd HA.out (by simp [spec_veOn.l1])
    | succ k2 =>
     have H := HA.out
     clear HA
     simp only [spec_veOn.l1] at H
     by_cases c6 : x7_2 < (l0_0.length : Int)
     rotate_left
     ·rw [if_neg c6] at H
      have c6b0 : decide (x7_2 < (l0_0.length : Int)) = false := decide_eq_false c6
      clear c6
      have H' := Aside0.mk H
      clear H
      have hcz76_0 := bc0 BK190
      have hcz76_1 := bc1 BK190
      have hfz76_0 := blk_frozen BK190.out 0
      have hfz76_1 := blk_frozen BK190.out 1
      go_wp2
      go_roundg k2
      case measure => have := HK1.out; have := HK2.out; omega
      case rel => exact ⟨(x5_2), (wrap64 (x6_1 + 1)), (by first | rfl | (simp; done) | (simp [*]; done)), H', ⟨by have := HK1.out; have := HK2.out; omega⟩, ⟨rk HO_5⟩, ⟨bk BK190⟩, ⟨bw HB⟩⟩
     rw [if_pos c6] at H
     have c6b0 : decide (x7_2 < (l0_0.length : Int)) = true := decide_eq_true c6
     clear c6
     replace H := Option.bind_eq_some_iff.mp H
     obtain ⟨t192, A70, H⟩ := H
     (try dsimp only at H)
     have A7 := Aside0.mk A70
     clear A70
     by_cases c8 : t192 = true
     rotate_left
     ·replace c8 := Bool.eq_false_iff.mpr c8
      subst c8
      have H1 : (spec_veOn.l1 k2 a1 x5_2 x6_1 (wrap64 (x7_2 + 1)) l0_0 l0_1) = some r := by rw [if_neg (show ¬ (false = true) by decide)] at H; exact H
      clear H
      have H := H1
      clear H1
      have H' := Aside0.mk H
      clear H
      have hcz70_0 := bc0 BK190
      have hcz70_1 := bc1 BK190
      have hfz70_0 := blk_frozen BK190.out 0
      have hfz70_1 := blk_frozen BK190.out 1
      go_wp2_with (first | ((with_reducible refine gate_dst (N := 8) rfl ?_); refine bx 8 #[.int .i64 0, .int .i64 0] 55 ?_; intro gb191 hg w71 hbox hb; replace HO_5 := Aside0.mk (Kd.R_below (Kd.R_elderB (rk HO_5) gb191 (Nat.le_of_eq hg.symm)) hb); have BK191 := Aside0.mk (hbox); have GW191 := ge HB hg; have GE191 := ge HB hg; replace HB := bs HB hb; have NB190_191 := nl BK190 hg; have NB191_190 := nr BK190 hg; replace BK190 := bb BK190 hb; clear hb hbox hg; have hnb72 := NB191_190.out; have hnc72 := NB190_191.out; have hcz73_0 := bc0 BK191; have hcz73_1 := bc1 BK191; have hfz73_0 := blk_frozen BK191.out 0; have hfz73_1 := blk_frozen BK191.out 1; have hcz74_0 := bc0 BK190; have hcz74_1 := bc1 BK190; have hfz74_0 := blk_frozen BK190.out 0; have hfz74_1 := blk_frozen BK190.out 1) | ((with_reducible refine gate_callee (f := 79) rfl ?_); refine gl 30 Try.func79 #[.int .i64 (l0_0.length : Int), .agg #[.int .i64 x6_1, .int .i64 x7_2]] ?_; (with_reducible refine (spec_veMove.calls (l0_0.length : Int) x6_1 x7_2 false _ A7.out).mono ?_); rintro e w75 ⟨rfl, hb⟩; refine ⟨_, rfl, ?_⟩; replace HO_5 := Aside0.mk (Kd.R_below (by exact (Kd.R_mono (Kd.R_far (p := ⟨gb191, 1, none⟩) (Kd.R_far (p := ⟨gb191, 0, none⟩) (Kd.R_mono HO_5.out (fun k_ hk => (⟨hk, hk.2⟩ : _ ∧ k_ ≠ gb191))) (fun _ hk => hk.2) (.int .i64 x6_1)) (fun _ hk => hk.2) (.int .i64 x7_2)) (fun _ h_ => h_.1))) hb); replace BK190 := bb BK190 hb; replace BK191 := Aside0.mk (blk_below (g := gb191) (o := .cells #[.int .i64 x6_1, .int .i64 x7_2] 55 (0, 0)) (by refine blk_put (cs := #[.int .i64 x6_1, .int .i64 0]) ?_ 1 _ rfl; refine blk_put (cs := #[.int .i64 0, .int .i64 0]) ?_ 0 _ rfl; exact bk BK191) hb); replace HB := bs HB hb; (try clear hb)))
      go_roundg k2
      case measure => have := HK1.out; have := HK2.out; omega
      case rel => exact ⟨(x5_2), (wrap64 (x7_2 + 1)), (by first | rfl | (simp; done) | (simp [*]; done)), H', ⟨by have := HK1.out; have := HK2.out; omega⟩, ⟨by exact Kd.R_mono HO_5.out (fun _ hk => trivial)⟩, ⟨bk BK190⟩, ⟨bw HB⟩⟩
     subst c8
     have H1 : (if a1 = true then (if x6_1 < 0 then (spec_veOn.l1 k2 a1 x5_2 x6_1 (wrap64 (x7_2 + 1)) l0_0 l0_1) else (if x7_2 < 0 then (spec_veOn.l1 k2 a1 x5_2 x6_1 (wrap64 (x7_2 + 1)) l0_0 l0_1) else ((spec_veAmount.f l0_0 l0_1 x6_1 x7_2).bind fun t193 => (if t193 = 0 then (spec_veOn.l1 k2 a1 x5_2 x6_1 (wrap64 (x7_2 + 1)) l0_0 l0_1) else (if x5_2.length < 8796093022208 then (spec_veOn.l1 k2 a1 (x5_2 ++ [(⟨x6_1, x7_2⟩ : S55)]) x6_1 (wrap64 (x7_2 + 1)) l0_0 l0_1) else (none)))))) else ((spec_veAmount.f l0_0 l0_1 x6_1 x7_2).bind fun t197 => (if t197 = 0 then (spec_veOn.l1 k2 a1 x5_2 x6_1 (wrap64 (x7_2 + 1)) l0_0 l0_1) else (if x5_2.length < 8796093022208 then (spec_veOn.l1 k2 a1 (x5_2 ++ [(⟨x6_1, x7_2⟩ : S55)]) x6_1 (wrap64 (x7_2 + 1)) l0_0 l0_1) else (none))))) = some r := by rw [if_pos rfl] at H; exact H
     clear H
     have H := H1
     clear H1
     by_cases c9 : a1 = true
     rotate_left
     ·replace c9 := Bool.eq_false_iff.mpr c9
      subst c9
      have H1 : ((spec_veAmount.f l0_0 l0_1 x6_1 x7_2).bind fun t197 => (if t197 = 0 then (spec_veOn.l1 k2 false x5_2 x6_1 (wrap64 (x7_2 + 1)) l0_0 l0_1) else (if x5_2.length < 8796093022208 then (spec_veOn.l1 k2 false (x5_2 ++ [(⟨x6_1, x7_2⟩ : S55)]) x6_1 (wrap64 (x7_2 + 1)) l0_0 l0_1) else (none)))) = some r := by rw [if_neg (show ¬ (false = true) by decide)] at H; exact H
      clear H
      have H := H1
      clear H1
      replace H := Option.bind_eq_some_iff.mp H
      obtain ⟨t197, A470, H⟩ := H
      (try dsimp only at H)
      have A47 := Aside0.mk A470
      clear A470
      by_cases c48 : t197 = 0
      ·rw [if_pos c48] at H
       have c48b0 : (t197 == 0) = true := beq_iff_eq.mpr c48
       have c48b1 : (t197 != 0) = false := bne_eq_false_iff_eq.mpr c48
       clear c48
       have H' := Aside0.mk H
       clear H
       have hcz49_0 := bc0 BK190
       have hcz49_1 := bc1 BK190
       have hfz49_0 := blk_frozen BK190.out 0
       have hfz49_1 := blk_frozen BK190.out 1
       go_wp2_with (first | ((with_reducible refine gate_dst (N := 8) rfl ?_); refine bx 8 #[.int .i64 0, .int .i64 0] 55 ?_; intro gb191 hg w50 hbox hb; replace HO_5 := Aside0.mk (Kd.R_below (Kd.R_elderB (rk HO_5) gb191 (Nat.le_of_eq hg.symm)) hb); have BK191 := Aside0.mk (hbox); have GW191 := ge HB hg; have GE191 := ge HB hg; replace HB := bs HB hb; have NB190_191 := nl BK190 hg; have NB191_190 := nr BK190 hg; replace BK190 := bb BK190 hb; clear hb hbox hg; have hnb51 := NB191_190.out; have hnc51 := NB190_191.out; have hcz52_0 := bc0 BK191; have hcz52_1 := bc1 BK191; have hfz52_0 := blk_frozen BK191.out 0; have hfz52_1 := blk_frozen BK191.out 1; have hcz53_0 := bc0 BK190; have hcz53_1 := bc1 BK190; have hfz53_0 := blk_frozen BK190.out 0; have hfz53_1 := blk_frozen BK190.out 1) | ((with_reducible refine gate_callee (f := 79) rfl ?_); refine gl 30 Try.func79 #[.int .i64 (l0_0.length : Int), .agg #[.int .i64 x6_1, .int .i64 x7_2]] ?_; (with_reducible refine (spec_veMove.calls (l0_0.length : Int) x6_1 x7_2 true _ A7.out).mono ?_); rintro e w54 ⟨rfl, hb⟩; refine ⟨_, rfl, ?_⟩; replace HO_5 := Aside0.mk (Kd.R_below (by exact (Kd.R_mono (Kd.R_far (p := ⟨gb191, 1, none⟩) (Kd.R_far (p := ⟨gb191, 0, none⟩) (Kd.R_mono HO_5.out (fun k_ hk => (⟨hk, hk.2⟩ : _ ∧ k_ ≠ gb191))) (fun _ hk => hk.2) (.int .i64 x6_1)) (fun _ hk => hk.2) (.int .i64 x7_2)) (fun _ h_ => h_.1))) hb); replace BK190 := bb BK190 hb; replace BK191 := Aside0.mk (blk_below (g := gb191) (o := .cells #[.int .i64 x6_1, .int .i64 x7_2] 55 (0, 0)) (by refine blk_put (cs := #[.int .i64 x6_1, .int .i64 0]) ?_ 1 _ rfl; refine blk_put (cs := #[.int .i64 0, .int .i64 0]) ?_ 0 _ rfl; exact bk BK191) hb); replace HB := bs HB hb; (try clear hb); have hcz55_0 := bc0 BK190; have hcz55_1 := bc1 BK190; have hfz55_0 := blk_frozen BK190.out 0; have hfz55_1 := blk_frozen BK190.out 1; have hcz56_0 := bc0 BK191; have hcz56_1 := bc1 BK191; have hfz56_0 := blk_frozen BK191.out 0; have hfz56_1 := blk_frozen BK191.out 1) | (go_at_call 58; (with_reducible refine (spec_veAmount.calls _ _ l0_0 _ _ l0_1 x6_1 x7_2 t197 _ ?side1 ?side2 ?side3 ?side4 A47.out).mono ?_); (case side1 => exact ck HR0_0 HB); (case side2 => exact HC0_0.out); (case side3 => exact ck HR0_1 HB); (case side4 => exact HC0_1.out); rintro e w57 ⟨rfl, hb⟩; replace HO_5 := rb HO_5 hb; replace BK190 := bb BK190 hb; replace BK191 := bb BK191 hb; replace HB := bs HB hb; (try clear hb)))
       go_roundg k2
       case measure => have := HK1.out; have := HK2.out; omega
       case rel => exact ⟨(x5_2), (wrap64 (x7_2 + 1)), (by first | rfl | (simp; done) | (simp [*]; done)), H', ⟨by have := HK1.out; have := HK2.out; omega⟩, ⟨by exact Kd.R_mono HO_5.out (fun _ hk => trivial)⟩, ⟨bk BK190⟩, ⟨bw HB⟩⟩
      rw [if_neg c48] at H
      have c48b0 : (t197 == 0) = false := beq_eq_false_iff_ne.mpr c48
      have c48b1 : (t197 != 0) = true := bne_iff_ne.mpr c48
      by_cases c58 : x5_2.length < 8796093022208
      rotate_left
      ·rw [if_neg c58] at H
       exact absurd H (by simp)
      rw [if_pos c58] at H
      have LMc58 := Aside0.mk c58
      clear c58
      obtain ⟨y198, hy198⟩ : ∃ y_ : List (S55), y_ = (x5_2 ++ [(⟨x6_1, x7_2⟩ : S55)]) := ⟨_, rfl⟩
      replace H : (spec_veOn.l1 k2 false y198 x6_1 (wrap64 (x7_2 + 1)) l0_0 l0_1) = some r := by first | (rw [hy198]; with_reducible exact H) | (have H2_ := (Option.bind_some _ _).symm.trans H; rw [hy198]; with_reducible exact H2_) | (have H2_ := (Option.bind_some _ _).symm.trans H; with_reducible exact H2_) | with_reducible exact H | (rw [hy198]; exact H) | exact H
      have Ny198 := Aside0.mk hy198
      clear hy198
      have H' := Aside0.mk H
      clear H
      have hcz59_0 := bc0 BK190
      have hcz59_1 := bc1 BK190
      have hfz59_0 := blk_frozen BK190.out 0
      have hfz59_1 := blk_frozen BK190.out 1
      go_wp2_with (first | ((with_reducible refine gate_dst (N := 8) rfl ?_); refine bx 8 #[.int .i64 0, .int .i64 0] 55 ?_; intro gb191 hg w60 hbox hb; replace HO_5 := Aside0.mk (Kd.R_below (Kd.R_elderB (rk HO_5) gb191 (Nat.le_of_eq hg.symm)) hb); have BK191 := Aside0.mk (hbox); have GW191 := ge HB hg; have GE191 := ge HB hg; replace HB := bs HB hb; have NB190_191 := nl BK190 hg; have NB191_190 := nr BK190 hg; replace BK190 := bb BK190 hb; clear hb hbox hg; have hnb61 := NB191_190.out; have hnc61 := NB190_191.out; have hcz62_0 := bc0 BK191; have hcz62_1 := bc1 BK191; have hfz62_0 := blk_frozen BK191.out 0; have hfz62_1 := blk_frozen BK191.out 1; have hcz63_0 := bc0 BK190; have hcz63_1 := bc1 BK190; have hfz63_0 := blk_frozen BK190.out 0; have hfz63_1 := blk_frozen BK190.out 1) | ((with_reducible refine gate_callee (f := 79) rfl ?_); refine gl 30 Try.func79 #[.int .i64 (l0_0.length : Int), .agg #[.int .i64 x6_1, .int .i64 x7_2]] ?_; (with_reducible refine (spec_veMove.calls (l0_0.length : Int) x6_1 x7_2 true _ A7.out).mono ?_); rintro e w64 ⟨rfl, hb⟩; refine ⟨_, rfl, ?_⟩; replace HO_5 := Aside0.mk (Kd.R_below (by exact (Kd.R_mono (Kd.R_far (p := ⟨gb191, 1, none⟩) (Kd.R_far (p := ⟨gb191, 0, none⟩) (Kd.R_mono HO_5.out (fun k_ hk => (⟨hk, hk.2⟩ : _ ∧ k_ ≠ gb191))) (fun _ hk => hk.2) (.int .i64 x6_1)) (fun _ hk => hk.2) (.int .i64 x7_2)) (fun _ h_ => h_.1))) hb); replace BK190 := bb BK190 hb; replace BK191 := Aside0.mk (blk_below (g := gb191) (o := .cells #[.int .i64 x6_1, .int .i64 x7_2] 55 (0, 0)) (by refine blk_put (cs := #[.int .i64 x6_1, .int .i64 0]) ?_ 1 _ rfl; refine blk_put (cs := #[.int .i64 0, .int .i64 0]) ?_ 0 _ rfl; exact bk BK191) hb); replace HB := bs HB hb; (try clear hb); have hcz65_0 := bc0 BK190; have hcz65_1 := bc1 BK190; have hfz65_0 := blk_frozen BK190.out 0; have hfz65_1 := blk_frozen BK190.out 1; have hcz66_0 := bc0 BK191; have hcz66_1 := bc1 BK191; have hfz66_0 := blk_frozen BK191.out 0; have hfz66_1 := blk_frozen BK191.out 1) | (go_at_call 58; (with_reducible refine (spec_veAmount.calls _ _ l0_0 _ _ l0_1 x6_1 x7_2 t197 _ ?side1 ?side2 ?side3 ?side4 A47.out).mono ?_); (case side1 => exact ck HR0_0 HB); (case side2 => exact HC0_0.out); (case side3 => exact ck HR0_1 HB); (case side4 => exact HC0_1.out); rintro e w67 ⟨rfl, hb⟩; replace HO_5 := rb HO_5 hb; replace BK190 := bb BK190 hb; replace BK191 := bb BK191 hb; replace HB := bs HB hb; (try clear hb); have hcz68_0 := bc0 BK191; have hcz68_1 := bc1 BK191; have hfz68_0 := blk_frozen BK191.out 0; have hfz68_1 := blk_frozen BK191.out 1) | ((with_reducible refine gate_builtin (b := .append) (xs := #[.tmp 49, .tmp 51]) rfl ?_); at_builtin; refine Kd.R_append k55 (w0 := w) w.heap.size rfl (.tmp 49) (.tmp 51) 25 55 (.agg #[(.int .i64 0), (.int .i64 0)]) 16 rfl Try.underlying25 info55 rfl (by decide) (by omega) u5 x5_2 (⟨x6_1, x7_2⟩ : S55) [.int .i64 x6_1, .int .i64 x7_2] (fun k_ => k_ ≠ gb191) (fun _ => False) rfl rfl ?aP (fun _ hk => hk.elim) ?aF ?aO ?aB ?aS ?aL ?_; (case aP => exact k55_mkM _ _ _ (⟨x6_1, x7_2⟩ : S55)); (case aB => exact (bw HB)); (case aF => exact (fun k_ hk => Kd.freshB (g := gb191) (o := .cells #[.int .i64 x6_1, .int .i64 x7_2] 55 (0, 0)) (bk BK191) k_ hk)); (case aO => exact (by exact Kd.R_mono HO_5.out (fun _ hk => hk.2))); (case aS => exact (below_size (bw HB))); (case aL => have := LMc58.out; omega); intro v199 w69 ho hb hg hat; rw [← Ny198.out] at ho; have n0_ := Aside0.mk (blk_grown (g := gb190) (o := .cells #[.slice A0_0 l0_0.length c0_0, .slice A0_1 l0_1.length c0_1] 35 (0, 0)) (bk BK190) hg (Kd.R_ne HO_5.out BK190.out (by decide))); have n1_ := Aside0.mk (blk_grown (g := gb191) (o := .cells #[.int .i64 x6_1, .int .i64 x7_2] 55 (0, 0)) (bk BK191) hg (Kd.R_away HO_5.out (fun _ hk => hk.2))); have n2_ := Aside0.mk (hb); have n3_ := Aside0.mk (ho); clear BK190; clear BK191; clear HB; clear HO_5; have BK190 := n0_; have BK191 := n1_; have HB := n2_; have HO200 := n3_; clear n0_ n1_ n2_ n3_; clear ho hb hg hat))
      go_roundg k2
      case measure => have := HK1.out; have := HK2.out; omega
      case rel => exact ⟨(y198), (wrap64 (x7_2 + 1)), (by first | rfl | (simp; done) | (simp [*]; done)), H', ⟨by have := HK1.out; have := HK2.out; omega⟩, ⟨by exact Kd.R_mono HO200.out (fun _ hk => trivial)⟩, ⟨bk BK190⟩, ⟨bw HB⟩⟩
     subst c9
     have H1 : (if x6_1 < 0 then (spec_veOn.l1 k2 true x5_2 x6_1 (wrap64 (x7_2 + 1)) l0_0 l0_1) else (if x7_2 < 0 then (spec_veOn.l1 k2 true x5_2 x6_1 (wrap64 (x7_2 + 1)) l0_0 l0_1) else ((spec_veAmount.f l0_0 l0_1 x6_1 x7_2).bind fun t193 => (if t193 = 0 then (spec_veOn.l1 k2 true x5_2 x6_1 (wrap64 (x7_2 + 1)) l0_0 l0_1) else (if x5_2.length < 8796093022208 then (spec_veOn.l1 k2 true (x5_2 ++ [(⟨x6_1, x7_2⟩ : S55)]) x6_1 (wrap64 (x7_2 + 1)) l0_0 l0_1) else (none)))))) = some r := by rw [if_pos rfl] at H; exact H
     clear H
     have H := H1
     clear H1
     by_cases c10 : x6_1 < 0
     ·rw [if_pos c10] at H
      have c10b0 : decide (x6_1 < 0) = true := decide_eq_true c10
      clear c10
      have H' := Aside0.mk H
      clear H
      have hcz11_0 := bc0 BK190
      have hcz11_1 := bc1 BK190
      have hfz11_0 := blk_frozen BK190.out 0
      have hfz11_1 := blk_frozen BK190.out 1
      go_wp2_with (first | ((with_reducible refine gate_dst (N := 8) rfl ?_); refine bx 8 #[.int .i64 0, .int .i64 0] 55 ?_; intro gb191 hg w12 hbox hb; replace HO_5 := Aside0.mk (Kd.R_below (Kd.R_elderB (rk HO_5) gb191 (Nat.le_of_eq hg.symm)) hb); have BK191 := Aside0.mk (hbox); have GW191 := ge HB hg; have GE191 := ge HB hg; replace HB := bs HB hb; have NB190_191 := nl BK190 hg; have NB191_190 := nr BK190 hg; replace BK190 := bb BK190 hb; clear hb hbox hg; have hnb13 := NB191_190.out; have hnc13 := NB190_191.out; have hcz14_0 := bc0 BK191; have hcz14_1 := bc1 BK191; have hfz14_0 := blk_frozen BK191.out 0; have hfz14_1 := blk_frozen BK191.out 1; have hcz15_0 := bc0 BK190; have hcz15_1 := bc1 BK190; have hfz15_0 := blk_frozen BK190.out 0; have hfz15_1 := blk_frozen BK190.out 1) | ((with_reducible refine gate_callee (f := 79) rfl ?_); refine gl 30 Try.func79 #[.int .i64 (l0_0.length : Int), .agg #[.int .i64 x6_1, .int .i64 x7_2]] ?_; (with_reducible refine (spec_veMove.calls (l0_0.length : Int) x6_1 x7_2 true _ A7.out).mono ?_); rintro e w16 ⟨rfl, hb⟩; refine ⟨_, rfl, ?_⟩; replace HO_5 := Aside0.mk (Kd.R_below (by exact (Kd.R_mono (Kd.R_far (p := ⟨gb191, 1, none⟩) (Kd.R_far (p := ⟨gb191, 0, none⟩) (Kd.R_mono HO_5.out (fun k_ hk => (⟨hk, hk.2⟩ : _ ∧ k_ ≠ gb191))) (fun _ hk => hk.2) (.int .i64 x6_1)) (fun _ hk => hk.2) (.int .i64 x7_2)) (fun _ h_ => h_.1))) hb); replace BK190 := bb BK190 hb; replace BK191 := Aside0.mk (blk_below (g := gb191) (o := .cells #[.int .i64 x6_1, .int .i64 x7_2] 55 (0, 0)) (by refine blk_put (cs := #[.int .i64 x6_1, .int .i64 0]) ?_ 1 _ rfl; refine blk_put (cs := #[.int .i64 0, .int .i64 0]) ?_ 0 _ rfl; exact bk BK191) hb); replace HB := bs HB hb; (try clear hb)))
      go_roundg k2
      case measure => have := HK1.out; have := HK2.out; omega
      case rel => exact ⟨(x5_2), (wrap64 (x7_2 + 1)), (by first | rfl | (simp; done) | (simp [*]; done)), H', ⟨by have := HK1.out; have := HK2.out; omega⟩, ⟨by exact Kd.R_mono HO_5.out (fun _ hk => trivial)⟩, ⟨bk BK190⟩, ⟨bw HB⟩⟩
     rw [if_neg c10] at H
     have c10b0 : decide (x6_1 < 0) = false := decide_eq_false c10
     clear c10
     by_cases c17 : x7_2 < 0
     ·rw [if_pos c17] at H
      have c17b0 : decide (x7_2 < 0) = true := decide_eq_true c17
      clear c17
      have H' := Aside0.mk H
      clear H
      have hcz18_0 := bc0 BK190
      have hcz18_1 := bc1 BK190
      have hfz18_0 := blk_frozen BK190.out 0
      have hfz18_1 := blk_frozen BK190.out 1
      go_wp2_with (first | ((with_reducible refine gate_dst (N := 8) rfl ?_); refine bx 8 #[.int .i64 0, .int .i64 0] 55 ?_; intro gb191 hg w19 hbox hb; replace HO_5 := Aside0.mk (Kd.R_below (Kd.R_elderB (rk HO_5) gb191 (Nat.le_of_eq hg.symm)) hb); have BK191 := Aside0.mk (hbox); have GW191 := ge HB hg; have GE191 := ge HB hg; replace HB := bs HB hb; have NB190_191 := nl BK190 hg; have NB191_190 := nr BK190 hg; replace BK190 := bb BK190 hb; clear hb hbox hg; have hnb20 := NB191_190.out; have hnc20 := NB190_191.out; have hcz21_0 := bc0 BK191; have hcz21_1 := bc1 BK191; have hfz21_0 := blk_frozen BK191.out 0; have hfz21_1 := blk_frozen BK191.out 1; have hcz22_0 := bc0 BK190; have hcz22_1 := bc1 BK190; have hfz22_0 := blk_frozen BK190.out 0; have hfz22_1 := blk_frozen BK190.out 1) | ((with_reducible refine gate_callee (f := 79) rfl ?_); refine gl 30 Try.func79 #[.int .i64 (l0_0.length : Int), .agg #[.int .i64 x6_1, .int .i64 x7_2]] ?_; (with_reducible refine (spec_veMove.calls (l0_0.length : Int) x6_1 x7_2 true _ A7.out).mono ?_); rintro e w23 ⟨rfl, hb⟩; refine ⟨_, rfl, ?_⟩; replace HO_5 := Aside0.mk (Kd.R_below (by exact (Kd.R_mono (Kd.R_far (p := ⟨gb191, 1, none⟩) (Kd.R_far (p := ⟨gb191, 0, none⟩) (Kd.R_mono HO_5.out (fun k_ hk => (⟨hk, hk.2⟩ : _ ∧ k_ ≠ gb191))) (fun _ hk => hk.2) (.int .i64 x6_1)) (fun _ hk => hk.2) (.int .i64 x7_2)) (fun _ h_ => h_.1))) hb); replace BK190 := bb BK190 hb; replace BK191 := Aside0.mk (blk_below (g := gb191) (o := .cells #[.int .i64 x6_1, .int .i64 x7_2] 55 (0, 0)) (by refine blk_put (cs := #[.int .i64 x6_1, .int .i64 0]) ?_ 1 _ rfl; refine blk_put (cs := #[.int .i64 0, .int .i64 0]) ?_ 0 _ rfl; exact bk BK191) hb); replace HB := bs HB hb; (try clear hb)))
      go_roundg k2
      case measure => have := HK1.out; have := HK2.out; omega
      case rel => exact ⟨(x5_2), (wrap64 (x7_2 + 1)), (by first | rfl | (simp; done) | (simp [*]; done)), H', ⟨by have := HK1.out; have := HK2.out; omega⟩, ⟨by exact Kd.R_mono HO_5.out (fun _ hk => trivial)⟩, ⟨bk BK190⟩, ⟨bw HB⟩⟩
     rw [if_neg c17] at H
     have c17b0 : decide (x7_2 < 0) = false := decide_eq_false c17
     clear c17
     replace H := Option.bind_eq_some_iff.mp H
     obtain ⟨t193, A240, H⟩ := H
     (try dsimp only at H)
     have A24 := Aside0.mk A240
     clear A240
     by_cases c25 : t193 = 0
     ·rw [if_pos c25] at H
      have c25b0 : (t193 == 0) = true := beq_iff_eq.mpr c25
      have c25b1 : (t193 != 0) = false := bne_eq_false_iff_eq.mpr c25
      clear c25
      have H' := Aside0.mk H
      clear H
      have hcz26_0 := bc0 BK190
      have hcz26_1 := bc1 BK190
      have hfz26_0 := blk_frozen BK190.out 0
      have hfz26_1 := blk_frozen BK190.out 1
      go_wp2_with (first | ((with_reducible refine gate_dst (N := 8) rfl ?_); refine bx 8 #[.int .i64 0, .int .i64 0] 55 ?_; intro gb191 hg w27 hbox hb; replace HO_5 := Aside0.mk (Kd.R_below (Kd.R_elderB (rk HO_5) gb191 (Nat.le_of_eq hg.symm)) hb); have BK191 := Aside0.mk (hbox); have GW191 := ge HB hg; have GE191 := ge HB hg; replace HB := bs HB hb; have NB190_191 := nl BK190 hg; have NB191_190 := nr BK190 hg; replace BK190 := bb BK190 hb; clear hb hbox hg; have hnb28 := NB191_190.out; have hnc28 := NB190_191.out; have hcz29_0 := bc0 BK191; have hcz29_1 := bc1 BK191; have hfz29_0 := blk_frozen BK191.out 0; have hfz29_1 := blk_frozen BK191.out 1; have hcz30_0 := bc0 BK190; have hcz30_1 := bc1 BK190; have hfz30_0 := blk_frozen BK190.out 0; have hfz30_1 := blk_frozen BK190.out 1) | ((with_reducible refine gate_callee (f := 79) rfl ?_); refine gl 30 Try.func79 #[.int .i64 (l0_0.length : Int), .agg #[.int .i64 x6_1, .int .i64 x7_2]] ?_; (with_reducible refine (spec_veMove.calls (l0_0.length : Int) x6_1 x7_2 true _ A7.out).mono ?_); rintro e w31 ⟨rfl, hb⟩; refine ⟨_, rfl, ?_⟩; replace HO_5 := Aside0.mk (Kd.R_below (by exact (Kd.R_mono (Kd.R_far (p := ⟨gb191, 1, none⟩) (Kd.R_far (p := ⟨gb191, 0, none⟩) (Kd.R_mono HO_5.out (fun k_ hk => (⟨hk, hk.2⟩ : _ ∧ k_ ≠ gb191))) (fun _ hk => hk.2) (.int .i64 x6_1)) (fun _ hk => hk.2) (.int .i64 x7_2)) (fun _ h_ => h_.1))) hb); replace BK190 := bb BK190 hb; replace BK191 := Aside0.mk (blk_below (g := gb191) (o := .cells #[.int .i64 x6_1, .int .i64 x7_2] 55 (0, 0)) (by refine blk_put (cs := #[.int .i64 x6_1, .int .i64 0]) ?_ 1 _ rfl; refine blk_put (cs := #[.int .i64 0, .int .i64 0]) ?_ 0 _ rfl; exact bk BK191) hb); replace HB := bs HB hb; (try clear hb); have hcz32_0 := bc0 BK190; have hcz32_1 := bc1 BK190; have hfz32_0 := blk_frozen BK190.out 0; have hfz32_1 := blk_frozen BK190.out 1; have hcz33_0 := bc0 BK191; have hcz33_1 := bc1 BK191; have hfz33_0 := blk_frozen BK191.out 0; have hfz33_1 := blk_frozen BK191.out 1) | (go_at_call 58; (with_reducible refine (spec_veAmount.calls _ _ l0_0 _ _ l0_1 x6_1 x7_2 t193 _ ?side1 ?side2 ?side3 ?side4 A24.out).mono ?_); (case side1 => exact ck HR0_0 HB); (case side2 => exact HC0_0.out); (case side3 => exact ck HR0_1 HB); (case side4 => exact HC0_1.out); rintro e w34 ⟨rfl, hb⟩; replace HO_5 := rb HO_5 hb; replace BK190 := bb BK190 hb; replace BK191 := bb BK191 hb; replace HB := bs HB hb; (try clear hb)))
      go_roundg k2
      case measure => have := HK1.out; have := HK2.out; omega
      case rel => exact ⟨(x5_2), (wrap64 (x7_2 + 1)), (by first | rfl | (simp; done) | (simp [*]; done)), H', ⟨by have := HK1.out; have := HK2.out; omega⟩, ⟨by exact Kd.R_mono HO_5.out (fun _ hk => trivial)⟩, ⟨bk BK190⟩, ⟨bw HB⟩⟩
     rw [if_neg c25] at H
     have c25b0 : (t193 == 0) = false := beq_eq_false_iff_ne.mpr c25
     have c25b1 : (t193 != 0) = true := bne_iff_ne.mpr c25
     by_cases c35 : x5_2.length < 8796093022208
     rotate_left
     ·rw [if_neg c35] at H
      exact absurd H (by simp)
     rw [if_pos c35] at H
     have LMc35 := Aside0.mk c35
     clear c35
     obtain ⟨y194, hy194⟩ : ∃ y_ : List (S55), y_ = (x5_2 ++ [(⟨x6_1, x7_2⟩ : S55)]) := ⟨_, rfl⟩
     replace H : (spec_veOn.l1 k2 true y194 x6_1 (wrap64 (x7_2 + 1)) l0_0 l0_1) = some r := by first | (rw [hy194]; with_reducible exact H) | (have H2_ := (Option.bind_some _ _).symm.trans H; rw [hy194]; with_reducible exact H2_) | (have H2_ := (Option.bind_some _ _).symm.trans H; with_reducible exact H2_) | with_reducible exact H | (rw [hy194]; exact H) | exact H
     have Ny194 := Aside0.mk hy194
     clear hy194
     have H' := Aside0.mk H
     clear H
     have hcz36_0 := bc0 BK190
     have hcz36_1 := bc1 BK190
     have hfz36_0 := blk_frozen BK190.out 0
     have hfz36_1 := blk_frozen BK190.out 1
     go_wp2_with (first | ((with_reducible refine gate_dst (N := 8) rfl ?_); refine bx 8 #[.int .i64 0, .int .i64 0] 55 ?_; intro gb191 hg w37 hbox hb; replace HO_5 := Aside0.mk (Kd.R_below (Kd.R_elderB (rk HO_5) gb191 (Nat.le_of_eq hg.symm)) hb); have BK191 := Aside0.mk (hbox); have GW191 := ge HB hg; have GE191 := ge HB hg; replace HB := bs HB hb; have NB190_191 := nl BK190 hg; have NB191_190 := nr BK190 hg; replace BK190 := bb BK190 hb; clear hb hbox hg; have hnb38 := NB191_190.out; have hnc38 := NB190_191.out; have hcz39_0 := bc0 BK191; have hcz39_1 := bc1 BK191; have hfz39_0 := blk_frozen BK191.out 0; have hfz39_1 := blk_frozen BK191.out 1; have hcz40_0 := bc0 BK190; have hcz40_1 := bc1 BK190; have hfz40_0 := blk_frozen BK190.out 0; have hfz40_1 := blk_frozen BK190.out 1) | ((with_reducible refine gate_callee (f := 79) rfl ?_); refine gl 30 Try.func79 #[.int .i64 (l0_0.length : Int), .agg #[.int .i64 x6_1, .int .i64 x7_2]] ?_; (with_reducible refine (spec_veMove.calls (l0_0.length : Int) x6_1 x7_2 true _ A7.out).mono ?_); rintro e w41 ⟨rfl, hb⟩; refine ⟨_, rfl, ?_⟩; replace HO_5 := Aside0.mk (Kd.R_below (by exact (Kd.R_mono (Kd.R_far (p := ⟨gb191, 1, none⟩) (Kd.R_far (p := ⟨gb191, 0, none⟩) (Kd.R_mono HO_5.out (fun k_ hk => (⟨hk, hk.2⟩ : _ ∧ k_ ≠ gb191))) (fun _ hk => hk.2) (.int .i64 x6_1)) (fun _ hk => hk.2) (.int .i64 x7_2)) (fun _ h_ => h_.1))) hb); replace BK190 := bb BK190 hb; replace BK191 := Aside0.mk (blk_below (g := gb191) (o := .cells #[.int .i64 x6_1, .int .i64 x7_2] 55 (0, 0)) (by refine blk_put (cs := #[.int .i64 x6_1, .int .i64 0]) ?_ 1 _ rfl; refine blk_put (cs := #[.int .i64 0, .int .i64 0]) ?_ 0 _ rfl; exact bk BK191) hb); replace HB := bs HB hb; (try clear hb); have hcz42_0 := bc0 BK190; have hcz42_1 := bc1 BK190; have hfz42_0 := blk_frozen BK190.out 0; have hfz42_1 := blk_frozen BK190.out 1; have hcz43_0 := bc0 BK191; have hcz43_1 := bc1 BK191; have hfz43_0 := blk_frozen BK191.out 0; have hfz43_1 := blk_frozen BK191.out 1) | (go_at_call 58; (with_reducible refine (spec_veAmount.calls _ _ l0_0 _ _ l0_1 x6_1 x7_2 t193 _ ?side1 ?side2 ?side3 ?side4 A24.out).mono ?_); (case side1 => exact ck HR0_0 HB); (case side2 => exact HC0_0.out); (case side3 => exact ck HR0_1 HB); (case side4 => exact HC0_1.out); rintro e w44 ⟨rfl, hb⟩; replace HO_5 := rb HO_5 hb; replace BK190 := bb BK190 hb; replace BK191 := bb BK191 hb; replace HB := bs HB hb; (try clear hb); have hcz45_0 := bc0 BK191; have hcz45_1 := bc1 BK191; have hfz45_0 := blk_frozen BK191.out 0; have hfz45_1 := blk_frozen BK191.out 1) | ((with_reducible refine gate_builtin (b := .append) (xs := #[.tmp 49, .tmp 51]) rfl ?_); at_builtin; refine Kd.R_append k55 (w0 := w) w.heap.size rfl (.tmp 49) (.tmp 51) 25 55 (.agg #[(.int .i64 0), (.int .i64 0)]) 16 rfl Try.underlying25 info55 rfl (by decide) (by omega) u5 x5_2 (⟨x6_1, x7_2⟩ : S55) [.int .i64 x6_1, .int .i64 x7_2] (fun k_ => k_ ≠ gb191) (fun _ => False) rfl rfl ?aP (fun _ hk => hk.elim) ?aF ?aO ?aB ?aS ?aL ?_; (case aP => exact k55_mkM _ _ _ (⟨x6_1, x7_2⟩ : S55)); (case aB => exact (bw HB)); (case aF => exact (fun k_ hk => Kd.freshB (g := gb191) (o := .cells #[.int .i64 x6_1, .int .i64 x7_2] 55 (0, 0)) (bk BK191) k_ hk)); (case aO => exact (by exact Kd.R_mono HO_5.out (fun _ hk => hk.2))); (case aS => exact (below_size (bw HB))); (case aL => have := LMc35.out; omega); intro v195 w46 ho hb hg hat; rw [← Ny194.out] at ho; have n0_ := Aside0.mk (blk_grown (g := gb190) (o := .cells #[.slice A0_0 l0_0.length c0_0, .slice A0_1 l0_1.length c0_1] 35 (0, 0)) (bk BK190) hg (Kd.R_ne HO_5.out BK190.out (by decide))); have n1_ := Aside0.mk (blk_grown (g := gb191) (o := .cells #[.int .i64 x6_1, .int .i64 x7_2] 55 (0, 0)) (bk BK191) hg (Kd.R_away HO_5.out (fun _ hk => hk.2))); have n2_ := Aside0.mk (hb); have n3_ := Aside0.mk (ho); clear BK190; clear BK191; clear HB; clear HO_5; have BK190 := n0_; have BK191 := n1_; have HB := n2_; have HO196 := n3_; clear n0_ n1_ n2_ n3_; clear ho hb hg hat))
     go_roundg k2
     case measure => have := HK1.out; have := HK2.out; omega
     case rel => exact ⟨(y194), (wrap64 (x7_2 + 1)), (by first | rfl | (simp; done) | (simp [*]; done)), H', ⟨by have := HK1.out; have := HK2.out; omega⟩, ⟨by exact Kd.R_mono HO196.out (fun _ hk => trivial)⟩, ⟨bk BK190⟩, ⟨bw HB⟩⟩
def spec_l1Own.f (l0 : List Int) : Option (List Int) := (some (([] : List Int) : List Int)).bind fun y201 => (if y201.length + l0.length < 17592186044416 then (some (y201 ++ l0)) else (none))
set_option maxHeartbeats 8000000 in
set_option maxRecDepth 100000 in
theorem spec_l1Own.calls (A0 : Option Addr) (c0 : Nat) (l0 : List Int) (r : List Int) (w : World) (hr0 : Kd.C (Kd.int .i64) w A0 l0.length l0) (hc0 : l0.length ≤ c0) (h : spec_l1Own.f l0 = some r) :
  Calls Try.prog 81 #[.slice A0 l0.length c0] w fun e w' => ∃ v0_ : Value, e = .returned (v0_) ∧ Kd.R (Kd.int .i64) 3 w' w.heap.size (fun _ => True) v0_ r ∧ Below w.heap.size w w' := by
 have HR0 := Aside0.mk hr0
 have HC0 := Aside0.mk hc0
 clear hr0 hc0
 have HB := Aside0.mk (Below.refl w.heap.size w)
 have H : ((some (([] : List Int) : List Int)).bind fun y201 => (if y201.length + l0.length < 17592186044416 then (some (y201 ++ l0)) else (none))) = some r := h
 clear h
 obtain ⟨y201, hy201⟩ : ∃ y_ : List Int, y_ = (([] : List Int)) := ⟨_, rfl⟩
 replace H : (if y201.length + l0.length < 17592186044416 then (some (y201 ++ l0)) else (none)) = some r := by first | (rw [hy201]; with_reducible exact H) | (have H2_ := (Option.bind_some _ _).symm.trans H; rw [hy201]; with_reducible exact H2_) | (have H2_ := (Option.bind_some _ _).symm.trans H; with_reducible exact H2_) | with_reducible exact H | (rw [hy201]; exact H) | exact H
 have Ny201 := Aside0.mk hy201
 clear hy201
 by_cases c2 : y201.length + l0.length < 17592186044416
 rotate_left
 ·rw [if_neg c2] at H
  exact absurd H (by simp)
 rw [if_pos c2] at H
 have LMc2 := Aside0.mk c2
 clear c2
 obtain ⟨y204, hy204⟩ : ∃ y_ : List Int, y_ = (y201 ++ l0) := ⟨_, rfl⟩
 replace H : (some y204) = some r := by first | (rw [hy204]; with_reducible exact H) | (have H2_ := (Option.bind_some _ _).symm.trans H; rw [hy204]; with_reducible exact H2_) | (have H2_ := (Option.bind_some _ _).symm.trans H; with_reducible exact H2_) | with_reducible exact H | (rw [hy204]; exact H) | exact H
 have Ny204 := Aside0.mk hy204
 clear hy204
 obtain rfl := Option.some.inj H
 go_enter Try.func81, Try.ntmps81
 go_wp2_with (first | ((with_reducible refine gate_dst (N := 3) rfl ?_); refine Kd.R_lit (Kd.int .i64) _ 3 ?hg (N := 3) ?hd (xs := ([] : List Int)) (inner := []) (ok := fun _ => True) (okp := fun _ => True) ?hr ?hp (fun _ hk => hk) trivial (Below.refl _ _) (Nat.le_refl _) (by simp) ?_; (case hd => rfl); (case hg => rfl); (case hr => first | (go_simp; done) | (go_simp; rfl)); (case hp => exact (Reps.none _ _)); intro v202 w3 ho4 hb hg_ hnew_; clear hg_ hnew_; (first | rw [← Ny201.out] at ho4 | (simp only [Int.reduceToNat] at ho4; rw [← Ny201.out] at ho4)); have HO203 := lo ho4 HB; replace HB := bs HB hb; clear hb ho4) | ((with_reducible refine gate_builtin (b := .append) (xs := #[.tmp 3, .tmp 4]) rfl ?_); at_builtin; refine Kd.R_append_rows (Kd.int .i64) (w0 := w) w.heap.size rfl (.tmp 3) (.tmp 4) 30 3 (.int .i64 0) 8 rfl Try.underlying30 info3 rfl (by decide) (by omega) v202 y201 l0 _ _ _ (fun _ => True) (fun _ => False) rfl rfl ?aO ?aR (fun _ _ h => h) (fun _ h => h.elim) ?aF ?aB ?aS ?aL ?_; (case aR => exact ck HR0 HB); (case aB => exact (bw HB)); (case aF => exact (fun _ _ => trivial)); (case aO => exact (rk HO203)); (case aS => exact (below_size (bw HB))); (case aL => have := LMc2.out; omega); intro v205 w5 ho hb hg hat; rw [← Ny204.out] at ho; have n0_ := Aside0.mk (hb); have n1_ := Aside0.mk (ho); clear HB; clear HO203; have HB := n0_; have HO206 := n1_; clear n0_ n1_; clear ho hb hg hat))
 go_ret
 exact ⟨_, by first | rfl | (simp [errW_none, errW_some] <;> rfl) | (simp [*, errW_none, errW_some] <;> rfl), rk HO206, bw HB⟩
def spec_veMake.f (l0_0 : List Int) (l0_1 : List Int) (a1_0 : Int) (a1_1 : Int) : Option (List Int × List Int) := (spec_veAmount.f l0_0 l0_1 a1_0 a1_1).bind fun t210 => ((spec_l1Own.f l0_0).bind fun t211 => ((spec_l1Own.f l0_1).bind fun t214 => (if a1_0 ≥ 0 then (if 0 ≤ a1_0 then (if a1_0 < (t214.length : Int) then ((some (t214.set (a1_0 : Int).toNat (wrap64 ((rd t214 a1_0) - t210)) : List Int)).bind fun y219 => (if a1_1 ≥ 0 then (if 0 ≤ a1_1 then (if a1_1 < (t214.length : Int) then (some (t211, (y219.set (a1_1 : Int).toNat (wrap64 ((rd y219 a1_1) + t210))))) else (none)) else (none)) else (some (t211, y219)))) else (none)) else (none)) else (if a1_1 ≥ 0 then (if 0 ≤ a1_1 then (if a1_1 < (t214.length : Int) then (some (t211, (t214.set (a1_1 : Int).toNat (wrap64 ((rd t214 a1_1) + t210))))) else (none)) else (none)) else (some (t211, t214))))))
def spec_veMake.T2 : Bool × List (List Nat × List Nat) := (true, [([], []), ([0], [0]), ([1], [1]), ([], []), ([3], [3]), ([4, 2], [4]), ([2, 5], [2, 5]), ([], []), ([7, 6, 5, 0, 1, 2, 3, 4, 5, 6, 7], [6, 7])])
def spec_veMake.B2 : List Nat := [0, 1, 3, 0, 8, 31, 63, 0, 255]
theorem spec_veMake.tab2 : rtab .any (opsOf Try.f59 2) = spec_veMake.T2 := by kernel_rfl
theorem spec_veMake.bits2 : waitsOk spec_veMake.T2.2 spec_veMake.B2 = true := by kernel_rfl
set_option maxHeartbeats 8000000 in
set_option maxRecDepth 100000 in
theorem spec_veMake.calls (A0_0 : Option Addr) (c0_0 : Nat) (l0_0 : List Int) (A0_1 : Option Addr) (c0_1 : Nat) (l0_1 : List Int) (a1_0 : Int) (a1_1 : Int) (r1 : List Int) (r2 : List Int) (w : World) (hr0_0 : Kd.C (Kd.int .i64) w A0_0 l0_0.length l0_0) (hc0_0 : l0_0.length ≤ c0_0) (hr0_1 : Kd.C (Kd.int .i64) w A0_1 l0_1.length l0_1) (hc0_1 : l0_1.length ≤ c0_1) (h : spec_veMake.f l0_0 l0_1 a1_0 a1_1 = some (r1, r2)) :
  Calls Try.prog 59 #[.agg #[.slice A0_0 l0_0.length c0_0, .slice A0_1 l0_1.length c0_1], .agg #[.int .i64 a1_0, .int .i64 a1_1]] w fun e w' => ∃ v0_ v1_ : Value, e = .returned (.agg #[v0_, v1_]) ∧ Kd.R (Kd.int .i64) 3 w' w.heap.size (fun k_ => some k_ ≠ (v1_ : Value).ownBlock) v0_ r1 ∧ Kd.R (Kd.int .i64) 3 w' w.heap.size (fun k_ => some k_ ≠ (v0_ : Value).ownBlock) v1_ r2 ∧ Below w.heap.size w w' := by
 have hu35 := Try.underlying35
 have hu55 := Try.underlying55
 have HR0_0 := Aside0.mk hr0_0
 have HC0_0 := Aside0.mk hc0_0
 clear hr0_0 hc0_0
 have HR0_1 := Aside0.mk hr0_1
 have HC0_1 := Aside0.mk hc0_1
 clear hr0_1 hc0_1
 have HB := Aside0.mk (Below.refl w.heap.size w)
 have H : ((spec_veAmount.f l0_0 l0_1 a1_0 a1_1).bind fun t210 => ((spec_l1Own.f l0_0).bind fun t211 => ((spec_l1Own.f l0_1).bind fun t214 => (if a1_0 ≥ 0 then (if 0 ≤ a1_0 then (if a1_0 < (t214.length : Int) then ((some (t214.set (a1_0 : Int).toNat (wrap64 ((rd t214 a1_0) - t210)) : List Int)).bind fun y219 => (if a1_1 ≥ 0 then (if 0 ≤ a1_1 then (if a1_1 < (t214.length : Int) then (some (t211, (y219.set (a1_1 : Int).toNat (wrap64 ((rd y219 a1_1) + t210))))) else (none)) else (none)) else (some (t211, y219)))) else (none)) else (none)) else (if a1_1 ≥ 0 then (if 0 ≤ a1_1 then (if a1_1 < (t214.length : Int) then (some (t211, (t214.set (a1_1 : Int).toNat (wrap64 ((rd t214 a1_1) + t210))))) else (none)) else (none)) else (some (t211, t214))))))) = some (r1, r2) := h
 clear h
 replace H := Option.bind_eq_some_iff.mp H
 obtain ⟨t210, A30, H⟩ := H
 (try dsimp only at H)
 have A3 := Aside0.mk A30
 clear A30
 replace H := Option.bind_eq_some_iff.mp H
 obtain ⟨t211, A40, H⟩ := H
 (try dsimp only at H)
 have A4 := Aside0.mk A40
 clear A40
 replace H := Option.bind_eq_some_iff.mp H
 obtain ⟨t214, A50, H⟩ := H
 (try dsimp only at H)
 have A5 := Aside0.mk A50
 clear A50
 by_cases c6 : a1_0 ≥ 0
 rotate_left
 ·rw [if_neg c6] at H
  have c6b0 : decide (0 ≤ a1_0) = false := decide_eq_false c6
  clear c6
  by_cases c79 : a1_1 ≥ 0
  rotate_left
  ·rw [if_neg c79] at H
   have c79b0 : decide (0 ≤ a1_1) = false := decide_eq_false c79
   clear c79
   simp only [Option.some.injEq, Prod.mk.injEq] at H
   obtain ⟨rfl, rfl⟩ := H
   go_enter Try.func59, Try.ntmps59
   try go_wp2_with (first | ((with_reducible refine gate_dst (N := 2) rfl ?_); refine bx 2 #[.slice A0_0 l0_0.length c0_0, .slice A0_1 l0_1.length c0_1] 35 ?_; intro gb207 hg w113 hbox hb; have BK207 := Aside0.mk (hbox); have GW207 := ge HB hg; have GE207 := ge HB hg; replace HB := bs HB hb; clear hb hbox hg) | ((with_reducible refine gate_dst (N := 3) rfl ?_); refine bx 3 #[.int .i64 a1_0, .int .i64 a1_1] 55 ?_; intro gb208 hg w114 hbox hb; have BK208 := Aside0.mk (hbox); have GW208 := ge HB hg; have GE208 := ge HB hg; replace HB := bs HB hb; have NB207_208 := nl BK207 hg; have NB208_207 := nr BK207 hg; replace BK207 := bb BK207 hb; clear hb hbox hg) | ((with_reducible refine gate_dst (N := 4) rfl ?_); refine bx 4 #[.slice none 0 0, .slice none 0 0] 35 ?_; intro gb209 hg w115 hbox hb; have BK209 := Aside0.mk (hbox); have GW209 := ge HB hg; have GE209 := ge HB hg; replace HB := bs HB hb; have NB207_209 := nl BK207 hg; have NB209_207 := nr BK207 hg; replace BK207 := bb BK207 hb; have NB208_209 := nl BK208 hg; have NB209_208 := nr BK208 hg; replace BK208 := bb BK208 hb; clear hb hbox hg; have hnb116 := NB207_208.out; have hnc116 := NB208_207.out; have hnb117 := NB207_209.out; have hnc117 := NB209_207.out; have hcz118_0 := bc0 BK207; have hcz118_1 := bc1 BK207; have hfz118_0 := blk_frozen BK207.out 0; have hfz118_1 := blk_frozen BK207.out 1; have hnb119 := NB208_209.out; have hnc119 := NB209_208.out; have hcz120_0 := bc0 BK208; have hcz120_1 := bc1 BK208; have hfz120_0 := blk_frozen BK208.out 0; have hfz120_1 := blk_frozen BK208.out 1) | ((with_reducible refine gate_callee (f := 58) rfl ?_); refine gl 9 Try.func58 #[.agg #[.slice A0_0 l0_0.length c0_0, .slice A0_1 l0_1.length c0_1], .agg #[.int .i64 a1_0, .int .i64 a1_1]] ?_; (with_reducible refine (spec_veAmount.calls _ _ l0_0 _ _ l0_1 a1_0 a1_1 t210 _ ?side1 ?side2 ?side3 ?side4 A3.out).mono ?_); (case side1 => exact ck HR0_0 HB); (case side2 => exact HC0_0.out); (case side3 => exact ck HR0_1 HB); (case side4 => exact HC0_1.out); rintro e w121 ⟨rfl, hb⟩; refine ⟨_, rfl, ?_⟩; replace BK207 := bb BK207 hb; replace BK208 := bb BK208 hb; replace BK209 := bb BK209 hb; replace HB := bs HB hb; (try clear hb)))
   replace BK207 := Aside0.mk (blk_drew BK207.out)
   replace BK208 := Aside0.mk (blk_drew BK208.out)
   replace BK209 := Aside0.mk (blk_drew BK209.out)
   replace HB := Aside0.mk (below_drew1 HB.out)
   refine start_ (n := 9) (S := fun w' => w'.cell? ⟨gb207, 0, none⟩ = some (.slice A0_0 l0_0.length c0_0) ∧ w'.cell? ⟨gb207, 1, none⟩ = some (.slice A0_1 l0_1.length c0_1)) (ds := []) (bl 9 0) (by kernel_rfl) rfl rfl ⟨bc0 BK207, bc1 BK207⟩ (fun hHeld => ?_); refine with_tabW spec_veMake.tab2 spec_veMake.bits2 (fun HT_ HW_ => ?_)
   generalize w121.drew = w122 at BK207 BK208 BK209 HB hHeld ⊢
   refine pu 0 10 (bl 9 1) HT_.out (v := ?_) (a' := ?_) ?_ ?_ ?_
   rotate_left; (intro w'; go_simp; with_reducible rfl); rotate_left; (simp only [sqa, sqb, sqc, sqd, i64_w, i32_w]; rfl)
   refine pu 3 13 (bl 9 9) HT_.out (v := ?_) (a' := ?_) ?_ ?_ ?_
   rotate_left; (intro w'; go_simp; with_reducible rfl); rotate_left; (simp only [sqa, sqb, sqc, sqd, i64_w, i32_w]; rfl)
   refine tk 1 11 (bl 9 11) HT_.out HW_.out hHeld (v := ?_) (a' := ?_) ?_ ?_ ?_
   rotate_left; (rintro w' ⟨s0, s1⟩; go_simp; with_reducible rfl); rotate_left; (simp only [sqa, sqb, sqc, sqd, i64_w, i32_w]; rfl)
   refine tk 4 14 (bl 9 27) HT_.out HW_.out hHeld (v := ?_) (a' := ?_) ?_ ?_ ?_
   rotate_left; (rintro w' ⟨s0, s1⟩; go_simp; with_reducible rfl); rotate_left; (simp only [sqa, sqb, sqc, sqd, i64_w, i32_w]; rfl)
   refine join_ (σ := Value × Value × Nat) 1 (bl 9 255) (fun s_ => [(12, s_.1), (15, s_.2.1), (6, .pointer (some ⟨s_.2.2, 0, none⟩)), (16, .agg #[s_.1, s_.2.1])]) (fun s_ w' => (w'.cell? ⟨gb207, 0, none⟩ = some (.slice A0_0 l0_0.length c0_0) ∧ w'.cell? ⟨gb207, 1, none⟩ = some (.slice A0_1 l0_1.length c0_1)) ∧ (Kd.R (Kd.int .i64) 3 w' w.heap.size (fun k_ => some k_ ≠ (s_.2.1 : Value).ownBlock) s_.1 t211) ∧ (Kd.R (Kd.int .i64) 3 w' w.heap.size (fun k_ => some k_ ≠ (s_.1 : Value).ownBlock) s_.2.1 t214) ∧ (w'.heap[gb207]? = some (.cells #[.slice A0_0 l0_0.length c0_0, .slice A0_1 l0_1.length c0_1] 35 (0, 0))) ∧ (w'.heap[gb208]? = some (.cells #[.int .i64 a1_0, .int .i64 a1_1] 55 (0, 0))) ∧ (w'.heap[gb209]? = some (.cells #[.slice none 0 0, .slice none 0 0] 35 (0, 0))) ∧ (w'.heap[s_.2.2]? = some (.cells #[.slice none 0 0, .slice none 0 0] 35 (0, 0))) ∧ (w.heap.size ≤ s_.2.2) ∧ (w.heap.size ≤ s_.2.2) ∧ (gb207 ≠ s_.2.2) ∧ (s_.2.2 ≠ gb207) ∧ (gb208 ≠ s_.2.2) ∧ (s_.2.2 ≠ gb208) ∧ (gb209 ≠ s_.2.2) ∧ (s_.2.2 ≠ gb209) ∧ (Below w.heap.size w w')) ?_ ?_
   rotate_left
   ·intro hCont
    refine two_ (i := 2) (j := 7) (Ni := some 12) (Nj := some 6) (bl 9 31) (bl 9 155) rfl rfl rfl rfl (two_of HT_.out (by kernel_rfl)) (by decide) (by decide) (fun K hK => ?_) (fun K hK => ?_)
    ·skip
     refine gs Try.func81 #[.slice A0_0 l0_0.length c0_0] ?_
     with_reducible refine (spec_l1Own.calls _ _ l0_0 t211 _ ?side1 ?side2 A4.out).mono ?_
     (case side1 => exact ck HR0_0 HB)
     (case side2 => exact HC0_0.out)
     rintro e w123 ⟨v212, rfl, ho0, hb⟩
     refine ⟨_, rfl, ?_⟩
     have HO213 := lo ho0 HB
     replace BK207 := bb BK207 hb
     replace BK208 := bb BK208 hb
     replace BK209 := bb BK209 hb
     replace HB := bs HB hb
     (try clear hb); (try clear hb2); (try clear hk); (try clear hi); (try clear ho0)
     refine hK.out _ _ ⟨bc0 BK207, bc1 BK207⟩ (fun hHeld => ?_)
     clear hK K
     refine norm_ (a' := ?_) ?_ ?_; rotate_left; (show Act.put _ (some 12) _ = _; simp only [sqa, sqb, sqc, sqd, i64_w, i32_w]; rfl)
     refine two_ (i := 5) (j := 7) (Ni := some 15) (Nj := some 6) (bl 9 63) (bl 9 159) rfl rfl rfl rfl (two_of HT_.out (by kernel_rfl)) (by decide) (by decide) (fun K hK => ?_) (fun K hK => ?_)
     ·skip
      refine gs Try.func81 #[.slice A0_1 l0_1.length c0_1] ?_
      with_reducible refine (spec_l1Own.calls _ _ l0_1 t214 _ ?side1 ?side2 A5.out).mono ?_
      (case side1 => exact ck HR0_1 HB)
      (case side2 => exact HC0_1.out)
      rintro e w124 ⟨v215, rfl, ho0, hb⟩
      refine ⟨_, rfl, ?_⟩
      have HO216 := Aside0.mk (Kd.R_lower (Kd.R_new' ho0 (Kd.R_lt (rk HO213))) (below_size (bw HB)))
      replace HO213 := Aside0.mk (Kd.R_elder' (rk HO213) (Kd.R_base ho0) hb)
      replace BK207 := bb BK207 hb
      replace BK208 := bb BK208 hb
      replace BK209 := bb BK209 hb
      replace HB := bs HB hb
      (try clear hb); (try clear hb2); (try clear hk); (try clear hi); (try clear ho0)
      obtain ⟨Ao125, co125, eo125⟩ := Kd.R_slice HO216.out
      (first | subst eo125 | (injection eo125 with f1_ f2_ f3_; have f4_ := f1_.symm; have f5_ := f3_.symm; clear f1_ f2_ f3_; subst f4_; subst f5_))
      obtain ⟨Ao126, co126, eo126⟩ := Kd.R_slice HO213.out
      (first | subst eo126 | (injection eo126 with f1_ f2_ f3_; have f4_ := f1_.symm; have f5_ := f3_.symm; clear f1_ f2_ f3_; subst f4_; subst f5_))
      refine hK.out _ _ ⟨bc0 BK207, bc1 BK207⟩ (fun hHeld => ?_)
      clear hK K
      refine norm_ (a' := ?_) ?_ ?_; rotate_left; (show Act.put _ (some 15) _ = _; simp only [sqa, sqb, sqc, sqd, i64_w, i32_w]; rfl)
      refine pu 6 16 (bl 9 127) HT_.out (v := ?_) (a' := ?_) ?_ ?_ ?_
      rotate_left; (intro w'; go_simp; with_reducible rfl); rotate_left; (simp only [sqa, sqb, sqc, sqd, i64_w, i32_w]; rfl)
      refine on 7 6 (bl 9 255) HT_.out (fun K hK => ?_)
      refine box_step ?hg (N := 6) ?hd (cs := #[.slice none 0 0, .slice none 0 0]) (t := 35) ?hr ?_; (case hd => rfl); (case hg => rfl); (case hr => first | (go_simp; done) | (go_simp; rfl))
      intro gb217 hg w127 hbox hb
      replace HO213 := rb HO213 hb
      replace HO216 := rb HO216 hb
      have BK217 := Aside0.mk (hbox)
      have GW217 := ge HB hg
      have GE217 := ge HB hg
      replace HB := bs HB hb
      have NB207_217 := nl BK207 hg
      have NB217_207 := nr BK207 hg
      replace BK207 := bb BK207 hb
      have NB208_217 := nl BK208 hg
      have NB217_208 := nr BK208 hg
      replace BK208 := bb BK208 hb
      have NB209_217 := nl BK209 hg
      have NB217_209 := nr BK209 hg
      replace BK209 := bb BK209 hb
      clear hb hbox hg
      refine hK.out _ _ ⟨bc0 BK207, bc1 BK207⟩ (fun hHeld => ?_)
      clear hK K
      refine norm_ (a' := ?_) ?_ ?_; rotate_left; (show Act.put _ (some 6) _ = _; simp only [sqa, sqb, sqc, sqd, i64_w, i32_w]; rfl)
      exact norm_ (by simp only [putAll, Act.put, List.setIfInBounds_toArray, List.set_cons_zero, List.set_cons_succ]) (hCont (.slice Ao126 t211.length co126, .slice Ao125 t214.length co125, gb217) _ ⟨hHeld, (by exact Kd.R_mono HO213.out (fun _ hk => hk.2)), (by exact Kd.R_mono HO216.out (fun _ hk => hk.2)), (bk BK207), (bk BK208), (bk BK209), (bk BK217), GW217.out, GE217.out, NB207_217.out, NB217_207.out, NB208_217.out, NB217_208.out, NB209_217.out, NB217_209.out, (bw HB)⟩)
     ·skip
      refine box_step ?hg (N := 6) ?hd (cs := #[.slice none 0 0, .slice none 0 0]) (t := 35) ?hr ?_; (case hd => rfl); (case hg => rfl); (case hr => first | (go_simp; done) | (go_simp; rfl))
      intro gb217 hg w124 hbox hb
      replace HO213 := rb HO213 hb
      have BK217 := Aside0.mk (hbox)
      have GW217 := ge HB hg
      have GE217 := ge HB hg
      replace HB := bs HB hb
      have NB207_217 := nl BK207 hg
      have NB217_207 := nr BK207 hg
      replace BK207 := bb BK207 hb
      have NB208_217 := nl BK208 hg
      have NB217_208 := nr BK208 hg
      replace BK208 := bb BK208 hb
      have NB209_217 := nl BK209 hg
      have NB217_209 := nr BK209 hg
      replace BK209 := bb BK209 hb
      clear hb hbox hg
      refine hK.out _ _ ⟨bc0 BK207, bc1 BK207⟩ (fun hHeld => ?_)
      clear hK K
      refine norm_ (a' := ?_) ?_ ?_; rotate_left; (show Act.put _ (some 6) _ = _; simp only [sqa, sqb, sqc, sqd, i64_w, i32_w]; rfl)
      refine on 5 15 (bl 9 191) HT_.out (fun K hK => ?_)
      refine gs Try.func81 #[.slice A0_1 l0_1.length c0_1] ?_
      with_reducible refine (spec_l1Own.calls _ _ l0_1 t214 _ ?side1 ?side2 A5.out).mono ?_
      (case side1 => exact ck HR0_1 HB)
      (case side2 => exact HC0_1.out)
      rintro e w125 ⟨v215, rfl, ho0, hb⟩
      refine ⟨_, rfl, ?_⟩
      have HO216 := Aside0.mk (Kd.R_lower (Kd.R_new' ho0 (Kd.R_lt (rk HO213))) (below_size (bw HB)))
      replace HO213 := Aside0.mk (Kd.R_elder' (rk HO213) (Kd.R_base ho0) hb)
      replace BK207 := bb BK207 hb
      replace BK208 := bb BK208 hb
      replace BK209 := bb BK209 hb
      replace BK217 := bb BK217 hb
      replace HB := bs HB hb
      (try clear hb); (try clear hb2); (try clear hk); (try clear hi); (try clear ho0)
      obtain ⟨Ao126, co126, eo126⟩ := Kd.R_slice HO216.out
      (first | subst eo126 | (injection eo126 with f1_ f2_ f3_; have f4_ := f1_.symm; have f5_ := f3_.symm; clear f1_ f2_ f3_; subst f4_; subst f5_))
      obtain ⟨Ao127, co127, eo127⟩ := Kd.R_slice HO213.out
      (first | subst eo127 | (injection eo127 with f1_ f2_ f3_; have f4_ := f1_.symm; have f5_ := f3_.symm; clear f1_ f2_ f3_; subst f4_; subst f5_))
      refine hK.out _ _ ⟨bc0 BK207, bc1 BK207⟩ (fun hHeld => ?_)
      clear hK K
      refine norm_ (a' := ?_) ?_ ?_; rotate_left; (show Act.put _ (some 15) _ = _; simp only [sqa, sqb, sqc, sqd, i64_w, i32_w]; rfl)
      refine pu 6 16 (bl 9 255) HT_.out (v := ?_) (a' := ?_) ?_ ?_ ?_
      rotate_left; (intro w'; go_simp; with_reducible rfl); rotate_left; (simp only [sqa, sqb, sqc, sqd, i64_w, i32_w]; rfl)
      exact norm_ (by simp only [putAll, Act.put, List.setIfInBounds_toArray, List.set_cons_zero, List.set_cons_succ]) (hCont (.slice Ao127 t211.length co127, .slice Ao126 t214.length co126, gb217) _ ⟨hHeld, (by exact Kd.R_mono HO213.out (fun _ hk => hk.2)), (by exact Kd.R_mono HO216.out (fun _ hk => hk.2)), (bk BK207), (bk BK208), (bk BK209), (bk BK217), GW217.out, GE217.out, NB207_217.out, NB217_207.out, NB208_217.out, NB217_208.out, NB209_217.out, NB217_209.out, (bw HB)⟩)
    ·skip
     refine box_step ?hg (N := 6) ?hd (cs := #[.slice none 0 0, .slice none 0 0]) (t := 35) ?hr ?_; (case hd => rfl); (case hg => rfl); (case hr => first | (go_simp; done) | (go_simp; rfl))
     intro gb217 hg w123 hbox hb
     have BK217 := Aside0.mk (hbox)
     have GW217 := ge HB hg
     have GE217 := ge HB hg
     replace HB := bs HB hb
     have NB207_217 := nl BK207 hg
     have NB217_207 := nr BK207 hg
     replace BK207 := bb BK207 hb
     have NB208_217 := nl BK208 hg
     have NB217_208 := nr BK208 hg
     replace BK208 := bb BK208 hb
     have NB209_217 := nl BK209 hg
     have NB217_209 := nr BK209 hg
     replace BK209 := bb BK209 hb
     clear hb hbox hg
     refine hK.out _ _ ⟨bc0 BK207, bc1 BK207⟩ (fun hHeld => ?_)
     clear hK K
     refine norm_ (a' := ?_) ?_ ?_; rotate_left; (show Act.put _ (some 6) _ = _; simp only [sqa, sqb, sqc, sqd, i64_w, i32_w]; rfl)
     refine on 2 12 (bl 9 159) HT_.out (fun K hK => ?_)
     refine gs Try.func81 #[.slice A0_0 l0_0.length c0_0] ?_
     with_reducible refine (spec_l1Own.calls _ _ l0_0 t211 _ ?side1 ?side2 A4.out).mono ?_
     (case side1 => exact ck HR0_0 HB)
     (case side2 => exact HC0_0.out)
     rintro e w124 ⟨v212, rfl, ho0, hb⟩
     refine ⟨_, rfl, ?_⟩
     have HO213 := lo ho0 HB
     replace BK207 := bb BK207 hb
     replace BK208 := bb BK208 hb
     replace BK209 := bb BK209 hb
     replace BK217 := bb BK217 hb
     replace HB := bs HB hb
     (try clear hb); (try clear hb2); (try clear hk); (try clear hi); (try clear ho0)
     refine hK.out _ _ ⟨bc0 BK207, bc1 BK207⟩ (fun hHeld => ?_)
     clear hK K
     refine norm_ (a' := ?_) ?_ ?_; rotate_left; (show Act.put _ (some 12) _ = _; simp only [sqa, sqb, sqc, sqd, i64_w, i32_w]; rfl)
     refine on 5 15 (bl 9 191) HT_.out (fun K hK => ?_)
     refine gs Try.func81 #[.slice A0_1 l0_1.length c0_1] ?_
     with_reducible refine (spec_l1Own.calls _ _ l0_1 t214 _ ?side1 ?side2 A5.out).mono ?_
     (case side1 => exact ck HR0_1 HB)
     (case side2 => exact HC0_1.out)
     rintro e w125 ⟨v215, rfl, ho0, hb⟩
     refine ⟨_, rfl, ?_⟩
     have HO216 := Aside0.mk (Kd.R_lower (Kd.R_new' ho0 (Kd.R_lt (rk HO213))) (below_size (bw HB)))
     replace HO213 := Aside0.mk (Kd.R_elder' (rk HO213) (Kd.R_base ho0) hb)
     replace BK207 := bb BK207 hb
     replace BK208 := bb BK208 hb
     replace BK209 := bb BK209 hb
     replace BK217 := bb BK217 hb
     replace HB := bs HB hb
     (try clear hb); (try clear hb2); (try clear hk); (try clear hi); (try clear ho0)
     obtain ⟨Ao126, co126, eo126⟩ := Kd.R_slice HO216.out
     (first | subst eo126 | (injection eo126 with f1_ f2_ f3_; have f4_ := f1_.symm; have f5_ := f3_.symm; clear f1_ f2_ f3_; subst f4_; subst f5_))
     obtain ⟨Ao127, co127, eo127⟩ := Kd.R_slice HO213.out
     (first | subst eo127 | (injection eo127 with f1_ f2_ f3_; have f4_ := f1_.symm; have f5_ := f3_.symm; clear f1_ f2_ f3_; subst f4_; subst f5_))
     refine hK.out _ _ ⟨bc0 BK207, bc1 BK207⟩ (fun hHeld => ?_)
     clear hK K
     refine norm_ (a' := ?_) ?_ ?_; rotate_left; (show Act.put _ (some 15) _ = _; simp only [sqa, sqb, sqc, sqd, i64_w, i32_w]; rfl)
     refine pu 6 16 (bl 9 255) HT_.out (v := ?_) (a' := ?_) ?_ ?_ ?_
     rotate_left; (intro w'; go_simp; with_reducible rfl); rotate_left; (simp only [sqa, sqb, sqc, sqd, i64_w, i32_w]; rfl)
     exact norm_ (by simp only [putAll, Act.put, List.setIfInBounds_toArray, List.set_cons_zero, List.set_cons_succ]) (hCont (.slice Ao127 t211.length co127, .slice Ao126 t214.length co126, gb217) _ ⟨hHeld, (by exact Kd.R_mono HO213.out (fun _ hk => hk.2)), (by exact Kd.R_mono HO216.out (fun _ hk => hk.2)), (bk BK207), (bk BK208), (bk BK209), (bk BK217), GW217.out, GE217.out, NB207_217.out, NB217_207.out, NB208_217.out, NB217_208.out, NB209_217.out, NB217_209.out, (bw HB)⟩)
   rintro ⟨v212, v215, gb217⟩ w128 ⟨hS_, h0_, h1_, h2_, h3_, h4_, h5_, h6_, h7_, h8_, h9_, h10_, h11_, h12_, h13_, h14_⟩
   have HO213 := Aside0.mk h0_
   have HO216 := Aside0.mk h1_
   replace BK207 := Aside0.mk h2_
   replace BK208 := Aside0.mk h3_
   replace BK209 := Aside0.mk h4_
   have BK217 := Aside0.mk h5_
   have GW217 := GeC.mk h6_
   have GE217 := GeC.mk h7_
   have NB207_217 := NeC.mk h8_
   have NB217_207 := NeC.mk h9_
   have NB208_217 := NeC.mk h10_
   have NB217_208 := NeC.mk h11_
   have NB209_217 := NeC.mk h12_
   have NB217_209 := NeC.mk h13_
   replace HB := Aside0.mk h14_
   clear h0_ h1_ h2_ h3_ h4_ h5_ h6_ h7_ h8_ h9_ h10_ h11_ h12_ h13_ h14_
   have hHeld : w128.cell? ⟨gb207, 0, none⟩ = some (.slice A0_0 l0_0.length c0_0) ∧ w128.cell? ⟨gb207, 1, none⟩ = some (.slice A0_1 l0_1.length c0_1) := hS_
   obtain ⟨Ao129, co129, eo129⟩ := Kd.R_slice HO216.out
   (first | subst eo129 | (injection eo129 with f1_ f2_ f3_; have f4_ := f1_.symm; have f5_ := f3_.symm; clear f1_ f2_ f3_; subst f4_; subst f5_))
   obtain ⟨Ao130, co130, eo130⟩ := Kd.R_slice HO213.out
   (first | subst eo130 | (injection eo130 with f1_ f2_ f3_; have f4_ := f1_.symm; have f5_ := f3_.symm; clear f1_ f2_ f3_; subst f4_; subst f5_))
   refine norm_ (a' := ?_) ?_ ?_
   rotate_left
   ·simp only [putAll, Act.put, List.setIfInBounds_toArray, List.set_cons_zero, List.set_cons_succ]
    rfl
   refine one_ (i := 8) (N := none) (bl 9 511) rfl rfl (one_of HT_.out (by kernel_rfl)) (by decide) (fun K hK => ?_)
   have hs131 : w128.cell? ⟨gb217, 0, none⟩ = some (.slice none 0 0) := bc0 BK217
   have hfs131 := blk_frozen BK217.out 0
   have hns131_0 := NB207_217.out
   have hns131_1 := NB208_217.out
   have hns131_2 := NB209_217.out
   have hms131_0 := NB217_207.out
   have hms131_1 := NB217_208.out
   have hms131_2 := NB217_209.out
   have hs132 : w128.cell? ⟨gb217, 1, none⟩ = some (.slice none 0 0) := bc1 BK217
   have hfs132 := blk_frozen BK217.out 1
   have hns132_0 := NB207_217.out
   have hns132_1 := NB208_217.out
   have hns132_2 := NB209_217.out
   have hms132_0 := NB217_207.out
   have hms132_1 := NB217_208.out
   have hms132_2 := NB217_209.out
   refine skip_ (w1 := ?_) (by rfl) rfl ?_ ?_
   rotate_left
   ·go_simp
    rfl
   refine hK.out _ _ ⟨((cell_far (p := ⟨gb217, _, none⟩) NB207_217.out _).trans (((cell_far (p := ⟨gb217, _, none⟩) NB207_217.out _).trans (hHeld.1)))), ((cell_far (p := ⟨gb217, _, none⟩) NB207_217.out _).trans (((cell_far (p := ⟨gb217, _, none⟩) NB207_217.out _).trans (hHeld.2))))⟩ (fun hHeld => ?_)
   clear hK K
   refine done_ (done_of HT_.out (by kernel_rfl)) ?_
   have hnb133 := NB208_217.out
   have hnc133 := NB217_208.out
   have hcz134_0 := bc0 BK208
   have hcz134_1 := bc1 BK208
   have hfz134_0 := blk_frozen BK208.out 0
   have hfz134_1 := blk_frozen BK208.out 1
   have hnb135 := NB217_207.out
   have hnc135 := NB207_217.out
   have hnb136 := NB217_209.out
   have hnc136 := NB209_217.out
   have hcz137_0 := bc0 BK217
   have hcz137_1 := bc1 BK217
   have hfz137_0 := blk_frozen BK217.out 0
   have hfz137_1 := blk_frozen BK217.out 1
   have hcz138_0 := bc0 BK209
   have hcz138_1 := bc1 BK209
   have hfz138_0 := blk_frozen BK209.out 0
   have hfz138_1 := blk_frozen BK209.out 1
   try go_wp2
   refine bodyPost_ret (results_cell_row rfl _ _ gb209 35 #[.slice Ao130 t211.length co130, .slice Ao129 t214.length co129] (0, 0) _ rfl (by refine blk_put (cs := #[.slice Ao130 t211.length co130, .slice none 0 0]) ?_ 1 _ rfl; refine blk_put (cs := #[.slice none 0 0, .slice none 0 0]) ?_ 0 _ rfl; exact bk BK209) Try.underlying35 rfl (by kernel_rfl)) rfl ?_
   exact ⟨_, _, by first | rfl | (simp [errW_none, errW_some] <;> rfl) | (simp [*, errW_none, errW_some] <;> rfl), by exact Kd.R_mono (Kd.R_far (p := ⟨gb209, 1, none⟩) (Kd.R_far (p := ⟨gb209, 0, none⟩) (Kd.R_far (p := ⟨gb217, 1, none⟩) (Kd.R_far (p := ⟨gb217, 0, none⟩) (Kd.R_types (Kd.R_types HO213.out BK217.out (by decide)) BK209.out (by decide)) (fun _ hk => hk.1.2) (.slice Ao130 t211.length co130)) (fun _ hk => hk.1.2) (.slice Ao129 t214.length co129)) (fun _ hk => hk.2) (.slice Ao130 t211.length co130)) (fun _ hk => hk.2) (.slice Ao129 t214.length co129)) (fun _ hk => hk.1.1), by exact Kd.R_mono (Kd.R_far (p := ⟨gb209, 1, none⟩) (Kd.R_far (p := ⟨gb209, 0, none⟩) (Kd.R_far (p := ⟨gb217, 1, none⟩) (Kd.R_far (p := ⟨gb217, 0, none⟩) (Kd.R_types (Kd.R_types HO216.out BK217.out (by decide)) BK209.out (by decide)) (fun _ hk => hk.1.2) (.slice Ao130 t211.length co130)) (fun _ hk => hk.1.2) (.slice Ao129 t214.length co129)) (fun _ hk => hk.2) (.slice Ao130 t211.length co130)) (fun _ hk => hk.2) (.slice Ao129 t214.length co129)) (fun _ hk => hk.1.1), bw HB⟩
  rw [if_pos c79] at H
  have c79b0 : decide (0 ≤ a1_1) = true := decide_eq_true c79
  clear c79
  by_cases c80 : 0 ≤ a1_1
  rotate_left
  ·rw [if_neg c80] at H
   exact absurd H (by simp)
  rw [if_pos c80] at H
  have c80b0 : decide (0 ≤ a1_1) = true := decide_eq_true c80
  clear c80
  by_cases c81 : a1_1 < (t214.length : Int)
  rotate_left
  ·rw [if_neg c81] at H
   exact absurd H (by simp)
  rw [if_pos c81] at H
  have c81b0 : decide (a1_1 < (t214.length : Int)) = true := decide_eq_true c81
  clear c81
  obtain ⟨y223, hy223⟩ : ∃ y_ : List Int, y_ = (t214.set (a1_1 : Int).toNat (wrap64 ((rd t214 a1_1) + t210))) := ⟨_, rfl⟩
  replace H : (some (t211, y223)) = some (r1, r2) := by first | (rw [hy223]; with_reducible exact H) | (have H2_ := (Option.bind_some _ _).symm.trans H; rw [hy223]; with_reducible exact H2_) | (have H2_ := (Option.bind_some _ _).symm.trans H; with_reducible exact H2_) | with_reducible exact H | (rw [hy223]; exact H) | exact H
  have Ny223 := Aside0.mk hy223
  clear hy223
  simp only [Option.some.injEq, Prod.mk.injEq] at H
  obtain ⟨rfl, rfl⟩ := H
  go_enter Try.func59, Try.ntmps59
  try go_wp2_with (first | ((with_reducible refine gate_dst (N := 2) rfl ?_); refine bx 2 #[.slice A0_0 l0_0.length c0_0, .slice A0_1 l0_1.length c0_1] 35 ?_; intro gb207 hg w83 hbox hb; have BK207 := Aside0.mk (hbox); have GW207 := ge HB hg; have GE207 := ge HB hg; replace HB := bs HB hb; clear hb hbox hg) | ((with_reducible refine gate_dst (N := 3) rfl ?_); refine bx 3 #[.int .i64 a1_0, .int .i64 a1_1] 55 ?_; intro gb208 hg w84 hbox hb; have BK208 := Aside0.mk (hbox); have GW208 := ge HB hg; have GE208 := ge HB hg; replace HB := bs HB hb; have NB207_208 := nl BK207 hg; have NB208_207 := nr BK207 hg; replace BK207 := bb BK207 hb; clear hb hbox hg) | ((with_reducible refine gate_dst (N := 4) rfl ?_); refine bx 4 #[.slice none 0 0, .slice none 0 0] 35 ?_; intro gb209 hg w85 hbox hb; have BK209 := Aside0.mk (hbox); have GW209 := ge HB hg; have GE209 := ge HB hg; replace HB := bs HB hb; have NB207_209 := nl BK207 hg; have NB209_207 := nr BK207 hg; replace BK207 := bb BK207 hb; have NB208_209 := nl BK208 hg; have NB209_208 := nr BK208 hg; replace BK208 := bb BK208 hb; clear hb hbox hg; have hnb86 := NB207_208.out; have hnc86 := NB208_207.out; have hnb87 := NB207_209.out; have hnc87 := NB209_207.out; have hcz88_0 := bc0 BK207; have hcz88_1 := bc1 BK207; have hfz88_0 := blk_frozen BK207.out 0; have hfz88_1 := blk_frozen BK207.out 1; have hnb89 := NB208_209.out; have hnc89 := NB209_208.out; have hcz90_0 := bc0 BK208; have hcz90_1 := bc1 BK208; have hfz90_0 := blk_frozen BK208.out 0; have hfz90_1 := blk_frozen BK208.out 1) | ((with_reducible refine gate_callee (f := 58) rfl ?_); refine gl 9 Try.func58 #[.agg #[.slice A0_0 l0_0.length c0_0, .slice A0_1 l0_1.length c0_1], .agg #[.int .i64 a1_0, .int .i64 a1_1]] ?_; (with_reducible refine (spec_veAmount.calls _ _ l0_0 _ _ l0_1 a1_0 a1_1 t210 _ ?side1 ?side2 ?side3 ?side4 A3.out).mono ?_); (case side1 => exact ck HR0_0 HB); (case side2 => exact HC0_0.out); (case side3 => exact ck HR0_1 HB); (case side4 => exact HC0_1.out); rintro e w91 ⟨rfl, hb⟩; refine ⟨_, rfl, ?_⟩; replace BK207 := bb BK207 hb; replace BK208 := bb BK208 hb; replace BK209 := bb BK209 hb; replace HB := bs HB hb; (try clear hb)))
  replace BK207 := Aside0.mk (blk_drew BK207.out)
  replace BK208 := Aside0.mk (blk_drew BK208.out)
  replace BK209 := Aside0.mk (blk_drew BK209.out)
  replace HB := Aside0.mk (below_drew1 HB.out)
  refine start_ (n := 9) (S := fun w' => w'.cell? ⟨gb207, 0, none⟩ = some (.slice A0_0 l0_0.length c0_0) ∧ w'.cell? ⟨gb207, 1, none⟩ = some (.slice A0_1 l0_1.length c0_1)) (ds := []) (bl 9 0) (by kernel_rfl) rfl rfl ⟨bc0 BK207, bc1 BK207⟩ (fun hHeld => ?_); refine with_tabW spec_veMake.tab2 spec_veMake.bits2 (fun HT_ HW_ => ?_)
  generalize w91.drew = w92 at BK207 BK208 BK209 HB hHeld ⊢
  refine pu 0 10 (bl 9 1) HT_.out (v := ?_) (a' := ?_) ?_ ?_ ?_
  rotate_left; (intro w'; go_simp; with_reducible rfl); rotate_left; (simp only [sqa, sqb, sqc, sqd, i64_w, i32_w]; rfl)
  refine pu 3 13 (bl 9 9) HT_.out (v := ?_) (a' := ?_) ?_ ?_ ?_
  rotate_left; (intro w'; go_simp; with_reducible rfl); rotate_left; (simp only [sqa, sqb, sqc, sqd, i64_w, i32_w]; rfl)
  refine tk 1 11 (bl 9 11) HT_.out HW_.out hHeld (v := ?_) (a' := ?_) ?_ ?_ ?_
  rotate_left; (rintro w' ⟨s0, s1⟩; go_simp; with_reducible rfl); rotate_left; (simp only [sqa, sqb, sqc, sqd, i64_w, i32_w]; rfl)
  refine tk 4 14 (bl 9 27) HT_.out HW_.out hHeld (v := ?_) (a' := ?_) ?_ ?_ ?_
  rotate_left; (rintro w' ⟨s0, s1⟩; go_simp; with_reducible rfl); rotate_left; (simp only [sqa, sqb, sqc, sqd, i64_w, i32_w]; rfl)
  refine join_ (σ := Value × Value × Nat) 1 (bl 9 255) (fun s_ => [(12, s_.1), (15, s_.2.1), (6, .pointer (some ⟨s_.2.2, 0, none⟩)), (16, .agg #[s_.1, s_.2.1])]) (fun s_ w' => (w'.cell? ⟨gb207, 0, none⟩ = some (.slice A0_0 l0_0.length c0_0) ∧ w'.cell? ⟨gb207, 1, none⟩ = some (.slice A0_1 l0_1.length c0_1)) ∧ (Kd.R (Kd.int .i64) 3 w' w.heap.size (fun k_ => some k_ ≠ (s_.2.1 : Value).ownBlock) s_.1 t211) ∧ (Kd.R (Kd.int .i64) 3 w' w.heap.size (fun k_ => some k_ ≠ (s_.1 : Value).ownBlock) s_.2.1 t214) ∧ (w'.heap[gb207]? = some (.cells #[.slice A0_0 l0_0.length c0_0, .slice A0_1 l0_1.length c0_1] 35 (0, 0))) ∧ (w'.heap[gb208]? = some (.cells #[.int .i64 a1_0, .int .i64 a1_1] 55 (0, 0))) ∧ (w'.heap[gb209]? = some (.cells #[.slice none 0 0, .slice none 0 0] 35 (0, 0))) ∧ (w'.heap[s_.2.2]? = some (.cells #[.slice none 0 0, .slice none 0 0] 35 (0, 0))) ∧ (w.heap.size ≤ s_.2.2) ∧ (w.heap.size ≤ s_.2.2) ∧ (gb207 ≠ s_.2.2) ∧ (s_.2.2 ≠ gb207) ∧ (gb208 ≠ s_.2.2) ∧ (s_.2.2 ≠ gb208) ∧ (gb209 ≠ s_.2.2) ∧ (s_.2.2 ≠ gb209) ∧ (Below w.heap.size w w')) ?_ ?_
  rotate_left
  ·intro hCont
   refine two_ (i := 2) (j := 7) (Ni := some 12) (Nj := some 6) (bl 9 31) (bl 9 155) rfl rfl rfl rfl (two_of HT_.out (by kernel_rfl)) (by decide) (by decide) (fun K hK => ?_) (fun K hK => ?_)
   ·skip
    refine gs Try.func81 #[.slice A0_0 l0_0.length c0_0] ?_
    with_reducible refine (spec_l1Own.calls _ _ l0_0 t211 _ ?side1 ?side2 A4.out).mono ?_
    (case side1 => exact ck HR0_0 HB)
    (case side2 => exact HC0_0.out)
    rintro e w93 ⟨v212, rfl, ho0, hb⟩
    refine ⟨_, rfl, ?_⟩
    have HO213 := lo ho0 HB
    replace BK207 := bb BK207 hb
    replace BK208 := bb BK208 hb
    replace BK209 := bb BK209 hb
    replace HB := bs HB hb
    (try clear hb); (try clear hb2); (try clear hk); (try clear hi); (try clear ho0)
    refine hK.out _ _ ⟨bc0 BK207, bc1 BK207⟩ (fun hHeld => ?_)
    clear hK K
    refine norm_ (a' := ?_) ?_ ?_; rotate_left; (show Act.put _ (some 12) _ = _; simp only [sqa, sqb, sqc, sqd, i64_w, i32_w]; rfl)
    refine two_ (i := 5) (j := 7) (Ni := some 15) (Nj := some 6) (bl 9 63) (bl 9 159) rfl rfl rfl rfl (two_of HT_.out (by kernel_rfl)) (by decide) (by decide) (fun K hK => ?_) (fun K hK => ?_)
    ·skip
     refine gs Try.func81 #[.slice A0_1 l0_1.length c0_1] ?_
     with_reducible refine (spec_l1Own.calls _ _ l0_1 t214 _ ?side1 ?side2 A5.out).mono ?_
     (case side1 => exact ck HR0_1 HB)
     (case side2 => exact HC0_1.out)
     rintro e w94 ⟨v215, rfl, ho0, hb⟩
     refine ⟨_, rfl, ?_⟩
     have HO216 := Aside0.mk (Kd.R_lower (Kd.R_new' ho0 (Kd.R_lt (rk HO213))) (below_size (bw HB)))
     replace HO213 := Aside0.mk (Kd.R_elder' (rk HO213) (Kd.R_base ho0) hb)
     replace BK207 := bb BK207 hb
     replace BK208 := bb BK208 hb
     replace BK209 := bb BK209 hb
     replace HB := bs HB hb
     (try clear hb); (try clear hb2); (try clear hk); (try clear hi); (try clear ho0)
     obtain ⟨Ao95, co95, eo95⟩ := Kd.R_slice HO216.out
     (first | subst eo95 | (injection eo95 with f1_ f2_ f3_; have f4_ := f1_.symm; have f5_ := f3_.symm; clear f1_ f2_ f3_; subst f4_; subst f5_))
     obtain ⟨Ao96, co96, eo96⟩ := Kd.R_slice HO213.out
     (first | subst eo96 | (injection eo96 with f1_ f2_ f3_; have f4_ := f1_.symm; have f5_ := f3_.symm; clear f1_ f2_ f3_; subst f4_; subst f5_))
     refine hK.out _ _ ⟨bc0 BK207, bc1 BK207⟩ (fun hHeld => ?_)
     clear hK K
     refine norm_ (a' := ?_) ?_ ?_; rotate_left; (show Act.put _ (some 15) _ = _; simp only [sqa, sqb, sqc, sqd, i64_w, i32_w]; rfl)
     refine pu 6 16 (bl 9 127) HT_.out (v := ?_) (a' := ?_) ?_ ?_ ?_
     rotate_left; (intro w'; go_simp; with_reducible rfl); rotate_left; (simp only [sqa, sqb, sqc, sqd, i64_w, i32_w]; rfl)
     refine on 7 6 (bl 9 255) HT_.out (fun K hK => ?_)
     refine box_step ?hg (N := 6) ?hd (cs := #[.slice none 0 0, .slice none 0 0]) (t := 35) ?hr ?_; (case hd => rfl); (case hg => rfl); (case hr => first | (go_simp; done) | (go_simp; rfl))
     intro gb217 hg w97 hbox hb
     replace HO213 := rb HO213 hb
     replace HO216 := rb HO216 hb
     have BK217 := Aside0.mk (hbox)
     have GW217 := ge HB hg
     have GE217 := ge HB hg
     replace HB := bs HB hb
     have NB207_217 := nl BK207 hg
     have NB217_207 := nr BK207 hg
     replace BK207 := bb BK207 hb
     have NB208_217 := nl BK208 hg
     have NB217_208 := nr BK208 hg
     replace BK208 := bb BK208 hb
     have NB209_217 := nl BK209 hg
     have NB217_209 := nr BK209 hg
     replace BK209 := bb BK209 hb
     clear hb hbox hg
     refine hK.out _ _ ⟨bc0 BK207, bc1 BK207⟩ (fun hHeld => ?_)
     clear hK K
     refine norm_ (a' := ?_) ?_ ?_; rotate_left; (show Act.put _ (some 6) _ = _; simp only [sqa, sqb, sqc, sqd, i64_w, i32_w]; rfl)
     exact norm_ (by simp only [putAll, Act.put, List.setIfInBounds_toArray, List.set_cons_zero, List.set_cons_succ]) (hCont (.slice Ao96 t211.length co96, .slice Ao95 t214.length co95, gb217) _ ⟨hHeld, (by exact Kd.R_mono HO213.out (fun _ hk => hk.2)), (by exact Kd.R_mono HO216.out (fun _ hk => hk.2)), (bk BK207), (bk BK208), (bk BK209), (bk BK217), GW217.out, GE217.out, NB207_217.out, NB217_207.out, NB208_217.out, NB217_208.out, NB209_217.out, NB217_209.out, (bw HB)⟩)
    ·skip
     refine box_step ?hg (N := 6) ?hd (cs := #[.slice none 0 0, .slice none 0 0]) (t := 35) ?hr ?_; (case hd => rfl); (case hg => rfl); (case hr => first | (go_simp; done) | (go_simp; rfl))
     intro gb217 hg w94 hbox hb
     replace HO213 := rb HO213 hb
     have BK217 := Aside0.mk (hbox)
     have GW217 := ge HB hg
     have GE217 := ge HB hg
     replace HB := bs HB hb
     have NB207_217 := nl BK207 hg
     have NB217_207 := nr BK207 hg
     replace BK207 := bb BK207 hb
     have NB208_217 := nl BK208 hg
     have NB217_208 := nr BK208 hg
     replace BK208 := bb BK208 hb
     have NB209_217 := nl BK209 hg
     have NB217_209 := nr BK209 hg
     replace BK209 := bb BK209 hb
     clear hb hbox hg
     refine hK.out _ _ ⟨bc0 BK207, bc1 BK207⟩ (fun hHeld => ?_)
     clear hK K
     refine norm_ (a' := ?_) ?_ ?_; rotate_left; (show Act.put _ (some 6) _ = _; simp only [sqa, sqb, sqc, sqd, i64_w, i32_w]; rfl)
     refine on 5 15 (bl 9 191) HT_.out (fun K hK => ?_)
     refine gs Try.func81 #[.slice A0_1 l0_1.length c0_1] ?_
     with_reducible refine (spec_l1Own.calls _ _ l0_1 t214 _ ?side1 ?side2 A5.out).mono ?_
     (case side1 => exact ck HR0_1 HB)
     (case side2 => exact HC0_1.out)
     rintro e w95 ⟨v215, rfl, ho0, hb⟩
     refine ⟨_, rfl, ?_⟩
     have HO216 := Aside0.mk (Kd.R_lower (Kd.R_new' ho0 (Kd.R_lt (rk HO213))) (below_size (bw HB)))
     replace HO213 := Aside0.mk (Kd.R_elder' (rk HO213) (Kd.R_base ho0) hb)
     replace BK207 := bb BK207 hb
     replace BK208 := bb BK208 hb
     replace BK209 := bb BK209 hb
     replace BK217 := bb BK217 hb
     replace HB := bs HB hb
     (try clear hb); (try clear hb2); (try clear hk); (try clear hi); (try clear ho0)
     obtain ⟨Ao96, co96, eo96⟩ := Kd.R_slice HO216.out
     (first | subst eo96 | (injection eo96 with f1_ f2_ f3_; have f4_ := f1_.symm; have f5_ := f3_.symm; clear f1_ f2_ f3_; subst f4_; subst f5_))
     obtain ⟨Ao97, co97, eo97⟩ := Kd.R_slice HO213.out
     (first | subst eo97 | (injection eo97 with f1_ f2_ f3_; have f4_ := f1_.symm; have f5_ := f3_.symm; clear f1_ f2_ f3_; subst f4_; subst f5_))
     refine hK.out _ _ ⟨bc0 BK207, bc1 BK207⟩ (fun hHeld => ?_)
     clear hK K
     refine norm_ (a' := ?_) ?_ ?_; rotate_left; (show Act.put _ (some 15) _ = _; simp only [sqa, sqb, sqc, sqd, i64_w, i32_w]; rfl)
     refine pu 6 16 (bl 9 255) HT_.out (v := ?_) (a' := ?_) ?_ ?_ ?_
     rotate_left; (intro w'; go_simp; with_reducible rfl); rotate_left; (simp only [sqa, sqb, sqc, sqd, i64_w, i32_w]; rfl)
     exact norm_ (by simp only [putAll, Act.put, List.setIfInBounds_toArray, List.set_cons_zero, List.set_cons_succ]) (hCont (.slice Ao97 t211.length co97, .slice Ao96 t214.length co96, gb217) _ ⟨hHeld, (by exact Kd.R_mono HO213.out (fun _ hk => hk.2)), (by exact Kd.R_mono HO216.out (fun _ hk => hk.2)), (bk BK207), (bk BK208), (bk BK209), (bk BK217), GW217.out, GE217.out, NB207_217.out, NB217_207.out, NB208_217.out, NB217_208.out, NB209_217.out, NB217_209.out, (bw HB)⟩)
   ·skip
    refine box_step ?hg (N := 6) ?hd (cs := #[.slice none 0 0, .slice none 0 0]) (t := 35) ?hr ?_; (case hd => rfl); (case hg => rfl); (case hr => first | (go_simp; done) | (go_simp; rfl))
    intro gb217 hg w93 hbox hb
    have BK217 := Aside0.mk (hbox)
    have GW217 := ge HB hg
    have GE217 := ge HB hg
    replace HB := bs HB hb
    have NB207_217 := nl BK207 hg
    have NB217_207 := nr BK207 hg
    replace BK207 := bb BK207 hb
    have NB208_217 := nl BK208 hg
    have NB217_208 := nr BK208 hg
    replace BK208 := bb BK208 hb
    have NB209_217 := nl BK209 hg
    have NB217_209 := nr BK209 hg
    replace BK209 := bb BK209 hb
    clear hb hbox hg
    refine hK.out _ _ ⟨bc0 BK207, bc1 BK207⟩ (fun hHeld => ?_)
    clear hK K
    refine norm_ (a' := ?_) ?_ ?_; rotate_left; (show Act.put _ (some 6) _ = _; simp only [sqa, sqb, sqc, sqd, i64_w, i32_w]; rfl)
    refine on 2 12 (bl 9 159) HT_.out (fun K hK => ?_)
    refine gs Try.func81 #[.slice A0_0 l0_0.length c0_0] ?_
    with_reducible refine (spec_l1Own.calls _ _ l0_0 t211 _ ?side1 ?side2 A4.out).mono ?_
    (case side1 => exact ck HR0_0 HB)
    (case side2 => exact HC0_0.out)
    rintro e w94 ⟨v212, rfl, ho0, hb⟩
    refine ⟨_, rfl, ?_⟩
    have HO213 := lo ho0 HB
    replace BK207 := bb BK207 hb
    replace BK208 := bb BK208 hb
    replace BK209 := bb BK209 hb
    replace BK217 := bb BK217 hb
    replace HB := bs HB hb
    (try clear hb); (try clear hb2); (try clear hk); (try clear hi); (try clear ho0)
    refine hK.out _ _ ⟨bc0 BK207, bc1 BK207⟩ (fun hHeld => ?_)
    clear hK K
    refine norm_ (a' := ?_) ?_ ?_; rotate_left; (show Act.put _ (some 12) _ = _; simp only [sqa, sqb, sqc, sqd, i64_w, i32_w]; rfl)
    refine on 5 15 (bl 9 191) HT_.out (fun K hK => ?_)
    refine gs Try.func81 #[.slice A0_1 l0_1.length c0_1] ?_
    with_reducible refine (spec_l1Own.calls _ _ l0_1 t214 _ ?side1 ?side2 A5.out).mono ?_
    (case side1 => exact ck HR0_1 HB)
    (case side2 => exact HC0_1.out)
    rintro e w95 ⟨v215, rfl, ho0, hb⟩
    refine ⟨_, rfl, ?_⟩
    have HO216 := Aside0.mk (Kd.R_lower (Kd.R_new' ho0 (Kd.R_lt (rk HO213))) (below_size (bw HB)))
    replace HO213 := Aside0.mk (Kd.R_elder' (rk HO213) (Kd.R_base ho0) hb)
    replace BK207 := bb BK207 hb
    replace BK208 := bb BK208 hb
    replace BK209 := bb BK209 hb
    replace BK217 := bb BK217 hb
    replace HB := bs HB hb
    (try clear hb); (try clear hb2); (try clear hk); (try clear hi); (try clear ho0)
    obtain ⟨Ao96, co96, eo96⟩ := Kd.R_slice HO216.out
    (first | subst eo96 | (injection eo96 with f1_ f2_ f3_; have f4_ := f1_.symm; have f5_ := f3_.symm; clear f1_ f2_ f3_; subst f4_; subst f5_))
    obtain ⟨Ao97, co97, eo97⟩ := Kd.R_slice HO213.out
    (first | subst eo97 | (injection eo97 with f1_ f2_ f3_; have f4_ := f1_.symm; have f5_ := f3_.symm; clear f1_ f2_ f3_; subst f4_; subst f5_))
    refine hK.out _ _ ⟨bc0 BK207, bc1 BK207⟩ (fun hHeld => ?_)
    clear hK K
    refine norm_ (a' := ?_) ?_ ?_; rotate_left; (show Act.put _ (some 15) _ = _; simp only [sqa, sqb, sqc, sqd, i64_w, i32_w]; rfl)
    refine pu 6 16 (bl 9 255) HT_.out (v := ?_) (a' := ?_) ?_ ?_ ?_
    rotate_left; (intro w'; go_simp; with_reducible rfl); rotate_left; (simp only [sqa, sqb, sqc, sqd, i64_w, i32_w]; rfl)
    exact norm_ (by simp only [putAll, Act.put, List.setIfInBounds_toArray, List.set_cons_zero, List.set_cons_succ]) (hCont (.slice Ao97 t211.length co97, .slice Ao96 t214.length co96, gb217) _ ⟨hHeld, (by exact Kd.R_mono HO213.out (fun _ hk => hk.2)), (by exact Kd.R_mono HO216.out (fun _ hk => hk.2)), (bk BK207), (bk BK208), (bk BK209), (bk BK217), GW217.out, GE217.out, NB207_217.out, NB217_207.out, NB208_217.out, NB217_208.out, NB209_217.out, NB217_209.out, (bw HB)⟩)
  rintro ⟨v212, v215, gb217⟩ w98 ⟨hS_, h0_, h1_, h2_, h3_, h4_, h5_, h6_, h7_, h8_, h9_, h10_, h11_, h12_, h13_, h14_⟩
  have HO213 := Aside0.mk h0_
  have HO216 := Aside0.mk h1_
  replace BK207 := Aside0.mk h2_
  replace BK208 := Aside0.mk h3_
  replace BK209 := Aside0.mk h4_
  have BK217 := Aside0.mk h5_
  have GW217 := GeC.mk h6_
  have GE217 := GeC.mk h7_
  have NB207_217 := NeC.mk h8_
  have NB217_207 := NeC.mk h9_
  have NB208_217 := NeC.mk h10_
  have NB217_208 := NeC.mk h11_
  have NB209_217 := NeC.mk h12_
  have NB217_209 := NeC.mk h13_
  replace HB := Aside0.mk h14_
  clear h0_ h1_ h2_ h3_ h4_ h5_ h6_ h7_ h8_ h9_ h10_ h11_ h12_ h13_ h14_
  have hHeld : w98.cell? ⟨gb207, 0, none⟩ = some (.slice A0_0 l0_0.length c0_0) ∧ w98.cell? ⟨gb207, 1, none⟩ = some (.slice A0_1 l0_1.length c0_1) := hS_
  obtain ⟨Ao99, co99, eo99⟩ := Kd.R_slice HO216.out
  (first | subst eo99 | (injection eo99 with f1_ f2_ f3_; have f4_ := f1_.symm; have f5_ := f3_.symm; clear f1_ f2_ f3_; subst f4_; subst f5_))
  obtain ⟨Ao100, co100, eo100⟩ := Kd.R_slice HO213.out
  (first | subst eo100 | (injection eo100 with f1_ f2_ f3_; have f4_ := f1_.symm; have f5_ := f3_.symm; clear f1_ f2_ f3_; subst f4_; subst f5_))
  refine norm_ (a' := ?_) ?_ ?_
  rotate_left
  ·simp only [putAll, Act.put, List.setIfInBounds_toArray, List.set_cons_zero, List.set_cons_succ]
   rfl
  refine one_ (i := 8) (N := none) (bl 9 511) rfl rfl (one_of HT_.out (by kernel_rfl)) (by decide) (fun K hK => ?_)
  have hs101 : w98.cell? ⟨gb217, 0, none⟩ = some (.slice none 0 0) := bc0 BK217
  have hfs101 := blk_frozen BK217.out 0
  have hns101_0 := NB207_217.out
  have hns101_1 := NB208_217.out
  have hns101_2 := NB209_217.out
  have hms101_0 := NB217_207.out
  have hms101_1 := NB217_208.out
  have hms101_2 := NB217_209.out
  have hs102 : w98.cell? ⟨gb217, 1, none⟩ = some (.slice none 0 0) := bc1 BK217
  have hfs102 := blk_frozen BK217.out 1
  have hns102_0 := NB207_217.out
  have hns102_1 := NB208_217.out
  have hns102_2 := NB209_217.out
  have hms102_0 := NB217_207.out
  have hms102_1 := NB217_208.out
  have hms102_2 := NB217_209.out
  refine skip_ (w1 := ?_) (by rfl) rfl ?_ ?_
  rotate_left
  ·go_simp
   rfl
  refine hK.out _ _ ⟨((cell_far (p := ⟨gb217, _, none⟩) NB207_217.out _).trans (((cell_far (p := ⟨gb217, _, none⟩) NB207_217.out _).trans (hHeld.1)))), ((cell_far (p := ⟨gb217, _, none⟩) NB207_217.out _).trans (((cell_far (p := ⟨gb217, _, none⟩) NB207_217.out _).trans (hHeld.2))))⟩ (fun hHeld => ?_)
  clear hK K
  refine done_ (done_of HT_.out (by kernel_rfl)) ?_
  have n0_ : Aside0 (Kd.R (Kd.int .i64) 3 ((w98.setCell ⟨gb217, 0, none⟩ (.slice Ao100 t211.length co100)).setCell ⟨gb217, 1, none⟩ (.slice Ao99 t214.length co99)) w.heap.size (fun k_ => some k_ ≠ (.slice Ao99 t214.length co99 : Value).ownBlock) (.slice Ao100 t211.length co100) t211) := ⟨by exact Kd.R_mono (Kd.R_far (p := ⟨gb217, 1, none⟩) (Kd.R_far (p := ⟨gb217, 0, none⟩) (Kd.R_types HO213.out BK217.out (by decide)) (fun _ hk => hk.2) (.slice Ao100 t211.length co100)) (fun _ hk => hk.2) (.slice Ao99 t214.length co99)) (fun _ hk => hk.1)⟩
  have n1_ : Aside0 (Kd.R (Kd.int .i64) 3 ((w98.setCell ⟨gb217, 0, none⟩ (.slice Ao100 t211.length co100)).setCell ⟨gb217, 1, none⟩ (.slice Ao99 t214.length co99)) w.heap.size (fun k_ => some k_ ≠ (.slice Ao100 t211.length co100 : Value).ownBlock) (.slice Ao99 t214.length co99) t214) := ⟨by exact Kd.R_mono (Kd.R_far (p := ⟨gb217, 1, none⟩) (Kd.R_far (p := ⟨gb217, 0, none⟩) (Kd.R_types HO216.out BK217.out (by decide)) (fun _ hk => hk.2) (.slice Ao100 t211.length co100)) (fun _ hk => hk.2) (.slice Ao99 t214.length co99)) (fun _ hk => hk.1)⟩
  have n2_ : Aside0 (((w98.setCell ⟨gb217, 0, none⟩ (.slice Ao100 t211.length co100)).setCell ⟨gb217, 1, none⟩ (.slice Ao99 t214.length co99)).heap[gb207]? = some (.cells #[.slice A0_0 l0_0.length c0_0, .slice A0_1 l0_1.length c0_1] 35 (0, 0))) := ⟨bk BK207⟩
  have n3_ : Aside0 (((w98.setCell ⟨gb217, 0, none⟩ (.slice Ao100 t211.length co100)).setCell ⟨gb217, 1, none⟩ (.slice Ao99 t214.length co99)).heap[gb208]? = some (.cells #[.int .i64 a1_0, .int .i64 a1_1] 55 (0, 0))) := ⟨bk BK208⟩
  have n4_ : Aside0 (((w98.setCell ⟨gb217, 0, none⟩ (.slice Ao100 t211.length co100)).setCell ⟨gb217, 1, none⟩ (.slice Ao99 t214.length co99)).heap[gb209]? = some (.cells #[.slice none 0 0, .slice none 0 0] 35 (0, 0))) := ⟨bk BK209⟩
  have n5_ : Aside0 (((w98.setCell ⟨gb217, 0, none⟩ (.slice Ao100 t211.length co100)).setCell ⟨gb217, 1, none⟩ (.slice Ao99 t214.length co99)).heap[gb217]? = some (.cells #[.slice Ao100 t211.length co100, .slice Ao99 t214.length co99] 35 (0, 0))) := ⟨by refine blk_put (cs := #[.slice Ao100 t211.length co100, .slice none 0 0]) ?_ 1 _ rfl; refine blk_put (cs := #[.slice none 0 0, .slice none 0 0]) ?_ 0 _ rfl; exact bk BK217⟩
  have n6_ : Aside0 (Below w.heap.size w ((w98.setCell ⟨gb217, 0, none⟩ (.slice Ao100 t211.length co100)).setCell ⟨gb217, 1, none⟩ (.slice Ao99 t214.length co99))) := ⟨bw HB⟩
  (try clear HO213); (try clear HO216); (try clear BK207); (try clear BK208); (try clear BK209); (try clear BK217); (try clear HB)
  generalize ((w98.setCell ⟨gb217, 0, none⟩ (.slice Ao100 t211.length co100)).setCell ⟨gb217, 1, none⟩ (.slice Ao99 t214.length co99)) = w103 at n0_ n1_ n2_ n3_ n4_ n5_ n6_ ⊢
  have HO213 := n0_
  have HO216 := n1_
  have BK207 := n2_
  have BK208 := n3_
  have BK209 := n4_
  have BK217 := n5_
  have HB := n6_
  clear n0_ n1_ n2_ n3_ n4_ n5_ n6_
  have hnb104 := NB208_217.out
  have hnc104 := NB217_208.out
  have hcz105_0 := bc0 BK208
  have hcz105_1 := bc1 BK208
  have hfz105_0 := blk_frozen BK208.out 0
  have hfz105_1 := blk_frozen BK208.out 1
  have hnb106 := NB217_207.out
  have hnc106 := NB207_217.out
  have hnb107 := NB217_209.out
  have hnc107 := NB209_217.out
  have hcz108_0 := bc0 BK217
  have hcz108_1 := bc1 BK217
  have hfz108_0 := blk_frozen BK217.out 0
  have hfz108_1 := blk_frozen BK217.out 1
  have p222 : 0 ≤ (a1_1 : Int) := of_decide_eq_true ‹_›
  have q222 : a1_1 < (t214.length : Int) := of_decide_eq_true ‹_›
  obtain ⟨ad222, e222, hx222_0⟩ := Kd.at_int (Kd.R_reads' HO216.out).2.2 a1_1 p222 q222
  cases e222
  replace p222 := eq_true p222
  replace q222 := eq_true q222
  have p82 : 0 ≤ (a1_1 : Int) := of_decide_eq_true ‹_›
  have q82 : (a1_1 : Int) < ((t214.length : Int) : Int) := of_decide_eq_true ‹_›
  obtain ⟨go82, co82, eo82, gb82, gl82, cl82, HG82⟩ := Kd.R_form HO216.out (by omega)
  (first | cases eo82 | (injection eo82 with ea_ en_ ec_; (first | subst ea_ | (injection ea_ with ea_; subst ea_)); subst ec_; clear en_))
  have GB82 := Aside0.mk gb82
  have GG82 := Aside0.mk HG82
  clear gb82 gl82 HG82
  (first | simp only [add_plain] at hx222_0 | skip)
  obtain ⟨hx82_0, hf82_0⟩ := Kd.R_celln 0 HO216.out (a1_1 : Int) p82 q82
  replace p82 := eq_true p82
  replace q82 := eq_true q82
  obtain ⟨hy109_, hz109_⟩ := Kd.R_celln 0 HO216.out (a1_1 : Int) (of_decide_eq_true ‹_›) (of_decide_eq_true ‹_›)
  have HP109 := Kd.R_putg HO216.out (a1_1 : Int) (wrap64 ((rd t214 a1_1) + t210))
  try go_wp2_with (first | ((with_reducible refine gate_store (t := 3) (p := 40) rfl ?_); refine store_event (t := 3) (p := 40) (v := ?vo_w110) (w1 := (w103.setCell ⟨go82, (a1_1 : Int).toNat, none⟩ (.int .i64 (wrap64 ((rd t214 a1_1) + t210))))) ?hg ?ho ?hn ?hr ?_; (case ho => rfl); (case hg => rfl); (case hn => rfl); (case hr => first | (go_simp; done) | (go_simp; rfl)); intro w110 hw; have hg : w103.grownBy w110 (some go82) := (by rw [hw]; exact HP109.2); have hp_ : Kd.R (Kd.int .i64) 3 w110 w.heap.size (fun k_ => some k_ ≠ (.slice Ao100 t211.length co100 : Value).ownBlock) (.slice (some ⟨go82, 0, none⟩) t214.length co99) y223 := (by rw [hw, Ny223.out]; exact HP109.1); clear HP109; replace BK207 := Aside0.mk (blk_grown (g := gb207) (o := .cells #[.slice A0_0 l0_0.length c0_0, .slice A0_1 l0_1.length c0_1] 35 (0, 0)) (bk BK207) hg (Kd.R_ne HO216.out BK207.out (by decide))); replace BK208 := Aside0.mk (blk_grown (g := gb208) (o := .cells #[.int .i64 a1_0, .int .i64 a1_1] 55 (0, 0)) (bk BK208) hg (Kd.R_ne HO216.out BK208.out (by decide))); replace BK209 := Aside0.mk (blk_grown (g := gb209) (o := .cells #[.slice none 0 0, .slice none 0 0] 35 (0, 0)) (bk BK209) hg (Kd.R_ne HO216.out BK209.out (by decide))); replace HO213 := Aside0.mk (Kd.R_after (v := (.slice (some ⟨go82, 0, none⟩) t214.length co99)) (v1 := (.slice (some ⟨go82, 0, none⟩) t214.length co99)) (ok := (fun _ => True)) (by exact Kd.R_mono HO213.out (fun _ hk => ⟨trivial, hk⟩)) hg (.inl rfl)); replace BK217 := Aside0.mk (blk_grown (g := gb217) (o := .cells #[.slice Ao100 t211.length co100, .slice (some ⟨go82, 0, none⟩) t214.length co99] 35 (0, 0)) (bk BK217) hg (Kd.R_ne HO216.out BK217.out (by decide))); replace HO216 := Aside0.mk (hp_); replace HB := Aside0.mk ((by rw [hw]; exact below_set (HB.out) GB82.out : Below w.heap.size w w110)); clear hg hw hp_; have hcz111_0 := bc0 BK217; have hcz111_1 := bc1 BK217; have hfz111_0 := blk_frozen BK217.out 0; have hfz111_1 := blk_frozen BK217.out 1; have hcz112_0 := bc0 BK209; have hcz112_1 := bc1 BK209; have hfz112_0 := blk_frozen BK209.out 0; have hfz112_1 := blk_frozen BK209.out 1))
  refine bodyPost_ret (results_cell_row rfl _ _ gb209 35 #[.slice Ao100 t211.length co100, .slice (some ⟨go82, 0, none⟩) t214.length co99] (0, 0) _ rfl (by refine blk_put (cs := #[.slice Ao100 t211.length co100, .slice none 0 0]) ?_ 1 _ rfl; refine blk_put (cs := #[.slice none 0 0, .slice none 0 0]) ?_ 0 _ rfl; exact bk BK209) Try.underlying35 rfl (by kernel_rfl)) rfl ?_
  exact ⟨_, _, by first | rfl | (simp [errW_none, errW_some] <;> rfl) | (simp [*, errW_none, errW_some] <;> rfl), by exact Kd.R_mono (Kd.R_far (p := ⟨gb209, 1, none⟩) (Kd.R_far (p := ⟨gb209, 0, none⟩) (Kd.R_types HO213.out BK209.out (by decide)) (fun _ hk => hk.2) (.slice Ao100 t211.length co100)) (fun _ hk => hk.2) (.slice (some ⟨go82, 0, none⟩) t214.length co99)) (fun _ hk => hk.1.2), by exact Kd.R_mono (Kd.R_far (p := ⟨gb209, 1, none⟩) (Kd.R_far (p := ⟨gb209, 0, none⟩) (Kd.R_types HO216.out BK209.out (by decide)) (fun _ hk => hk.2) (.slice Ao100 t211.length co100)) (fun _ hk => hk.2) (.slice (some ⟨go82, 0, none⟩) t214.length co99)) (fun _ hk => hk.1), bw HB⟩
 rw [if_pos c6] at H
 have c6b0 : decide (0 ≤ a1_0) = true := decide_eq_true c6
 clear c6
 by_cases c7 : 0 ≤ a1_0
 rotate_left
 ·rw [if_neg c7] at H
  exact absurd H (by simp)
 rw [if_pos c7] at H
 have c7b0 : decide (0 ≤ a1_0) = true := decide_eq_true c7
 clear c7
 by_cases c8 : a1_0 < (t214.length : Int)
 rotate_left
 ·rw [if_neg c8] at H
  exact absurd H (by simp)
 rw [if_pos c8] at H
 have c8b0 : decide (a1_0 < (t214.length : Int)) = true := decide_eq_true c8
 clear c8
 obtain ⟨y219, hy219⟩ : ∃ y_ : List Int, y_ = (t214.set (a1_0 : Int).toNat (wrap64 ((rd t214 a1_0) - t210))) := ⟨_, rfl⟩
 replace H : (if a1_1 ≥ 0 then (if 0 ≤ a1_1 then (if a1_1 < (t214.length : Int) then (some (t211, (y219.set (a1_1 : Int).toNat (wrap64 ((rd y219 a1_1) + t210))))) else (none)) else (none)) else (some (t211, y219))) = some (r1, r2) := by first | (rw [hy219]; with_reducible exact H) | (have H2_ := (Option.bind_some _ _).symm.trans H; rw [hy219]; with_reducible exact H2_) | (have H2_ := (Option.bind_some _ _).symm.trans H; with_reducible exact H2_) | with_reducible exact H | (rw [hy219]; exact H) | exact H
 have Ny219 := Aside0.mk hy219
 clear hy219
 by_cases c10 : a1_1 ≥ 0
 rotate_left
 ·rw [if_neg c10] at H
  have c10b0 : decide (0 ≤ a1_1) = false := decide_eq_false c10
  clear c10
  simp only [Option.some.injEq, Prod.mk.injEq] at H
  obtain ⟨rfl, rfl⟩ := H
  go_enter Try.func59, Try.ntmps59
  try go_wp2_with (first | ((with_reducible refine gate_dst (N := 2) rfl ?_); refine bx 2 #[.slice A0_0 l0_0.length c0_0, .slice A0_1 l0_1.length c0_1] 35 ?_; intro gb207 hg w48 hbox hb; have BK207 := Aside0.mk (hbox); have GW207 := ge HB hg; have GE207 := ge HB hg; replace HB := bs HB hb; clear hb hbox hg) | ((with_reducible refine gate_dst (N := 3) rfl ?_); refine bx 3 #[.int .i64 a1_0, .int .i64 a1_1] 55 ?_; intro gb208 hg w49 hbox hb; have BK208 := Aside0.mk (hbox); have GW208 := ge HB hg; have GE208 := ge HB hg; replace HB := bs HB hb; have NB207_208 := nl BK207 hg; have NB208_207 := nr BK207 hg; replace BK207 := bb BK207 hb; clear hb hbox hg) | ((with_reducible refine gate_dst (N := 4) rfl ?_); refine bx 4 #[.slice none 0 0, .slice none 0 0] 35 ?_; intro gb209 hg w50 hbox hb; have BK209 := Aside0.mk (hbox); have GW209 := ge HB hg; have GE209 := ge HB hg; replace HB := bs HB hb; have NB207_209 := nl BK207 hg; have NB209_207 := nr BK207 hg; replace BK207 := bb BK207 hb; have NB208_209 := nl BK208 hg; have NB209_208 := nr BK208 hg; replace BK208 := bb BK208 hb; clear hb hbox hg; have hnb51 := NB207_208.out; have hnc51 := NB208_207.out; have hnb52 := NB207_209.out; have hnc52 := NB209_207.out; have hcz53_0 := bc0 BK207; have hcz53_1 := bc1 BK207; have hfz53_0 := blk_frozen BK207.out 0; have hfz53_1 := blk_frozen BK207.out 1; have hnb54 := NB208_209.out; have hnc54 := NB209_208.out; have hcz55_0 := bc0 BK208; have hcz55_1 := bc1 BK208; have hfz55_0 := blk_frozen BK208.out 0; have hfz55_1 := blk_frozen BK208.out 1) | ((with_reducible refine gate_callee (f := 58) rfl ?_); refine gl 9 Try.func58 #[.agg #[.slice A0_0 l0_0.length c0_0, .slice A0_1 l0_1.length c0_1], .agg #[.int .i64 a1_0, .int .i64 a1_1]] ?_; (with_reducible refine (spec_veAmount.calls _ _ l0_0 _ _ l0_1 a1_0 a1_1 t210 _ ?side1 ?side2 ?side3 ?side4 A3.out).mono ?_); (case side1 => exact ck HR0_0 HB); (case side2 => exact HC0_0.out); (case side3 => exact ck HR0_1 HB); (case side4 => exact HC0_1.out); rintro e w56 ⟨rfl, hb⟩; refine ⟨_, rfl, ?_⟩; replace BK207 := bb BK207 hb; replace BK208 := bb BK208 hb; replace BK209 := bb BK209 hb; replace HB := bs HB hb; (try clear hb)))
  replace BK207 := Aside0.mk (blk_drew BK207.out)
  replace BK208 := Aside0.mk (blk_drew BK208.out)
  replace BK209 := Aside0.mk (blk_drew BK209.out)
  replace HB := Aside0.mk (below_drew1 HB.out)
  refine start_ (n := 9) (S := fun w' => w'.cell? ⟨gb207, 0, none⟩ = some (.slice A0_0 l0_0.length c0_0) ∧ w'.cell? ⟨gb207, 1, none⟩ = some (.slice A0_1 l0_1.length c0_1)) (ds := []) (bl 9 0) (by kernel_rfl) rfl rfl ⟨bc0 BK207, bc1 BK207⟩ (fun hHeld => ?_); refine with_tabW spec_veMake.tab2 spec_veMake.bits2 (fun HT_ HW_ => ?_)
  generalize w56.drew = w57 at BK207 BK208 BK209 HB hHeld ⊢
  refine pu 0 10 (bl 9 1) HT_.out (v := ?_) (a' := ?_) ?_ ?_ ?_
  rotate_left; (intro w'; go_simp; with_reducible rfl); rotate_left; (simp only [sqa, sqb, sqc, sqd, i64_w, i32_w]; rfl)
  refine pu 3 13 (bl 9 9) HT_.out (v := ?_) (a' := ?_) ?_ ?_ ?_
  rotate_left; (intro w'; go_simp; with_reducible rfl); rotate_left; (simp only [sqa, sqb, sqc, sqd, i64_w, i32_w]; rfl)
  refine tk 1 11 (bl 9 11) HT_.out HW_.out hHeld (v := ?_) (a' := ?_) ?_ ?_ ?_
  rotate_left; (rintro w' ⟨s0, s1⟩; go_simp; with_reducible rfl); rotate_left; (simp only [sqa, sqb, sqc, sqd, i64_w, i32_w]; rfl)
  refine tk 4 14 (bl 9 27) HT_.out HW_.out hHeld (v := ?_) (a' := ?_) ?_ ?_ ?_
  rotate_left; (rintro w' ⟨s0, s1⟩; go_simp; with_reducible rfl); rotate_left; (simp only [sqa, sqb, sqc, sqd, i64_w, i32_w]; rfl)
  refine join_ (σ := Value × Value × Nat) 1 (bl 9 255) (fun s_ => [(12, s_.1), (15, s_.2.1), (6, .pointer (some ⟨s_.2.2, 0, none⟩)), (16, .agg #[s_.1, s_.2.1])]) (fun s_ w' => (w'.cell? ⟨gb207, 0, none⟩ = some (.slice A0_0 l0_0.length c0_0) ∧ w'.cell? ⟨gb207, 1, none⟩ = some (.slice A0_1 l0_1.length c0_1)) ∧ (Kd.R (Kd.int .i64) 3 w' w.heap.size (fun k_ => some k_ ≠ (s_.2.1 : Value).ownBlock) s_.1 t211) ∧ (Kd.R (Kd.int .i64) 3 w' w.heap.size (fun k_ => some k_ ≠ (s_.1 : Value).ownBlock) s_.2.1 t214) ∧ (w'.heap[gb207]? = some (.cells #[.slice A0_0 l0_0.length c0_0, .slice A0_1 l0_1.length c0_1] 35 (0, 0))) ∧ (w'.heap[gb208]? = some (.cells #[.int .i64 a1_0, .int .i64 a1_1] 55 (0, 0))) ∧ (w'.heap[gb209]? = some (.cells #[.slice none 0 0, .slice none 0 0] 35 (0, 0))) ∧ (w'.heap[s_.2.2]? = some (.cells #[.slice none 0 0, .slice none 0 0] 35 (0, 0))) ∧ (w.heap.size ≤ s_.2.2) ∧ (w.heap.size ≤ s_.2.2) ∧ (gb207 ≠ s_.2.2) ∧ (s_.2.2 ≠ gb207) ∧ (gb208 ≠ s_.2.2) ∧ (s_.2.2 ≠ gb208) ∧ (gb209 ≠ s_.2.2) ∧ (s_.2.2 ≠ gb209) ∧ (Below w.heap.size w w')) ?_ ?_
  rotate_left
  ·intro hCont
   refine two_ (i := 2) (j := 7) (Ni := some 12) (Nj := some 6) (bl 9 31) (bl 9 155) rfl rfl rfl rfl (two_of HT_.out (by kernel_rfl)) (by decide) (by decide) (fun K hK => ?_) (fun K hK => ?_)
   ·skip
    refine gs Try.func81 #[.slice A0_0 l0_0.length c0_0] ?_
    with_reducible refine (spec_l1Own.calls _ _ l0_0 t211 _ ?side1 ?side2 A4.out).mono ?_
    (case side1 => exact ck HR0_0 HB)
    (case side2 => exact HC0_0.out)
    rintro e w58 ⟨v212, rfl, ho0, hb⟩
    refine ⟨_, rfl, ?_⟩
    have HO213 := lo ho0 HB
    replace BK207 := bb BK207 hb
    replace BK208 := bb BK208 hb
    replace BK209 := bb BK209 hb
    replace HB := bs HB hb
    (try clear hb); (try clear hb2); (try clear hk); (try clear hi); (try clear ho0)
    refine hK.out _ _ ⟨bc0 BK207, bc1 BK207⟩ (fun hHeld => ?_)
    clear hK K
    refine norm_ (a' := ?_) ?_ ?_; rotate_left; (show Act.put _ (some 12) _ = _; simp only [sqa, sqb, sqc, sqd, i64_w, i32_w]; rfl)
    refine two_ (i := 5) (j := 7) (Ni := some 15) (Nj := some 6) (bl 9 63) (bl 9 159) rfl rfl rfl rfl (two_of HT_.out (by kernel_rfl)) (by decide) (by decide) (fun K hK => ?_) (fun K hK => ?_)
    ·skip
     refine gs Try.func81 #[.slice A0_1 l0_1.length c0_1] ?_
     with_reducible refine (spec_l1Own.calls _ _ l0_1 t214 _ ?side1 ?side2 A5.out).mono ?_
     (case side1 => exact ck HR0_1 HB)
     (case side2 => exact HC0_1.out)
     rintro e w59 ⟨v215, rfl, ho0, hb⟩
     refine ⟨_, rfl, ?_⟩
     have HO216 := Aside0.mk (Kd.R_lower (Kd.R_new' ho0 (Kd.R_lt (rk HO213))) (below_size (bw HB)))
     replace HO213 := Aside0.mk (Kd.R_elder' (rk HO213) (Kd.R_base ho0) hb)
     replace BK207 := bb BK207 hb
     replace BK208 := bb BK208 hb
     replace BK209 := bb BK209 hb
     replace HB := bs HB hb
     (try clear hb); (try clear hb2); (try clear hk); (try clear hi); (try clear ho0)
     obtain ⟨Ao60, co60, eo60⟩ := Kd.R_slice HO216.out
     (first | subst eo60 | (injection eo60 with f1_ f2_ f3_; have f4_ := f1_.symm; have f5_ := f3_.symm; clear f1_ f2_ f3_; subst f4_; subst f5_))
     obtain ⟨Ao61, co61, eo61⟩ := Kd.R_slice HO213.out
     (first | subst eo61 | (injection eo61 with f1_ f2_ f3_; have f4_ := f1_.symm; have f5_ := f3_.symm; clear f1_ f2_ f3_; subst f4_; subst f5_))
     refine hK.out _ _ ⟨bc0 BK207, bc1 BK207⟩ (fun hHeld => ?_)
     clear hK K
     refine norm_ (a' := ?_) ?_ ?_; rotate_left; (show Act.put _ (some 15) _ = _; simp only [sqa, sqb, sqc, sqd, i64_w, i32_w]; rfl)
     refine pu 6 16 (bl 9 127) HT_.out (v := ?_) (a' := ?_) ?_ ?_ ?_
     rotate_left; (intro w'; go_simp; with_reducible rfl); rotate_left; (simp only [sqa, sqb, sqc, sqd, i64_w, i32_w]; rfl)
     refine on 7 6 (bl 9 255) HT_.out (fun K hK => ?_)
     refine box_step ?hg (N := 6) ?hd (cs := #[.slice none 0 0, .slice none 0 0]) (t := 35) ?hr ?_; (case hd => rfl); (case hg => rfl); (case hr => first | (go_simp; done) | (go_simp; rfl))
     intro gb217 hg w62 hbox hb
     replace HO213 := rb HO213 hb
     replace HO216 := rb HO216 hb
     have BK217 := Aside0.mk (hbox)
     have GW217 := ge HB hg
     have GE217 := ge HB hg
     replace HB := bs HB hb
     have NB207_217 := nl BK207 hg
     have NB217_207 := nr BK207 hg
     replace BK207 := bb BK207 hb
     have NB208_217 := nl BK208 hg
     have NB217_208 := nr BK208 hg
     replace BK208 := bb BK208 hb
     have NB209_217 := nl BK209 hg
     have NB217_209 := nr BK209 hg
     replace BK209 := bb BK209 hb
     clear hb hbox hg
     refine hK.out _ _ ⟨bc0 BK207, bc1 BK207⟩ (fun hHeld => ?_)
     clear hK K
     refine norm_ (a' := ?_) ?_ ?_; rotate_left; (show Act.put _ (some 6) _ = _; simp only [sqa, sqb, sqc, sqd, i64_w, i32_w]; rfl)
     exact norm_ (by simp only [putAll, Act.put, List.setIfInBounds_toArray, List.set_cons_zero, List.set_cons_succ]) (hCont (.slice Ao61 t211.length co61, .slice Ao60 t214.length co60, gb217) _ ⟨hHeld, (by exact Kd.R_mono HO213.out (fun _ hk => hk.2)), (by exact Kd.R_mono HO216.out (fun _ hk => hk.2)), (bk BK207), (bk BK208), (bk BK209), (bk BK217), GW217.out, GE217.out, NB207_217.out, NB217_207.out, NB208_217.out, NB217_208.out, NB209_217.out, NB217_209.out, (bw HB)⟩)
    ·skip
     refine box_step ?hg (N := 6) ?hd (cs := #[.slice none 0 0, .slice none 0 0]) (t := 35) ?hr ?_; (case hd => rfl); (case hg => rfl); (case hr => first | (go_simp; done) | (go_simp; rfl))
     intro gb217 hg w59 hbox hb
     replace HO213 := rb HO213 hb
     have BK217 := Aside0.mk (hbox)
     have GW217 := ge HB hg
     have GE217 := ge HB hg
     replace HB := bs HB hb
     have NB207_217 := nl BK207 hg
     have NB217_207 := nr BK207 hg
     replace BK207 := bb BK207 hb
     have NB208_217 := nl BK208 hg
     have NB217_208 := nr BK208 hg
     replace BK208 := bb BK208 hb
     have NB209_217 := nl BK209 hg
     have NB217_209 := nr BK209 hg
     replace BK209 := bb BK209 hb
     clear hb hbox hg
     refine hK.out _ _ ⟨bc0 BK207, bc1 BK207⟩ (fun hHeld => ?_)
     clear hK K
     refine norm_ (a' := ?_) ?_ ?_; rotate_left; (show Act.put _ (some 6) _ = _; simp only [sqa, sqb, sqc, sqd, i64_w, i32_w]; rfl)
     refine on 5 15 (bl 9 191) HT_.out (fun K hK => ?_)
     refine gs Try.func81 #[.slice A0_1 l0_1.length c0_1] ?_
     with_reducible refine (spec_l1Own.calls _ _ l0_1 t214 _ ?side1 ?side2 A5.out).mono ?_
     (case side1 => exact ck HR0_1 HB)
     (case side2 => exact HC0_1.out)
     rintro e w60 ⟨v215, rfl, ho0, hb⟩
     refine ⟨_, rfl, ?_⟩
     have HO216 := Aside0.mk (Kd.R_lower (Kd.R_new' ho0 (Kd.R_lt (rk HO213))) (below_size (bw HB)))
     replace HO213 := Aside0.mk (Kd.R_elder' (rk HO213) (Kd.R_base ho0) hb)
     replace BK207 := bb BK207 hb
     replace BK208 := bb BK208 hb
     replace BK209 := bb BK209 hb
     replace BK217 := bb BK217 hb
     replace HB := bs HB hb
     (try clear hb); (try clear hb2); (try clear hk); (try clear hi); (try clear ho0)
     obtain ⟨Ao61, co61, eo61⟩ := Kd.R_slice HO216.out
     (first | subst eo61 | (injection eo61 with f1_ f2_ f3_; have f4_ := f1_.symm; have f5_ := f3_.symm; clear f1_ f2_ f3_; subst f4_; subst f5_))
     obtain ⟨Ao62, co62, eo62⟩ := Kd.R_slice HO213.out
     (first | subst eo62 | (injection eo62 with f1_ f2_ f3_; have f4_ := f1_.symm; have f5_ := f3_.symm; clear f1_ f2_ f3_; subst f4_; subst f5_))
     refine hK.out _ _ ⟨bc0 BK207, bc1 BK207⟩ (fun hHeld => ?_)
     clear hK K
     refine norm_ (a' := ?_) ?_ ?_; rotate_left; (show Act.put _ (some 15) _ = _; simp only [sqa, sqb, sqc, sqd, i64_w, i32_w]; rfl)
     refine pu 6 16 (bl 9 255) HT_.out (v := ?_) (a' := ?_) ?_ ?_ ?_
     rotate_left; (intro w'; go_simp; with_reducible rfl); rotate_left; (simp only [sqa, sqb, sqc, sqd, i64_w, i32_w]; rfl)
     exact norm_ (by simp only [putAll, Act.put, List.setIfInBounds_toArray, List.set_cons_zero, List.set_cons_succ]) (hCont (.slice Ao62 t211.length co62, .slice Ao61 t214.length co61, gb217) _ ⟨hHeld, (by exact Kd.R_mono HO213.out (fun _ hk => hk.2)), (by exact Kd.R_mono HO216.out (fun _ hk => hk.2)), (bk BK207), (bk BK208), (bk BK209), (bk BK217), GW217.out, GE217.out, NB207_217.out, NB217_207.out, NB208_217.out, NB217_208.out, NB209_217.out, NB217_209.out, (bw HB)⟩)
   ·skip
    refine box_step ?hg (N := 6) ?hd (cs := #[.slice none 0 0, .slice none 0 0]) (t := 35) ?hr ?_; (case hd => rfl); (case hg => rfl); (case hr => first | (go_simp; done) | (go_simp; rfl))
    intro gb217 hg w58 hbox hb
    have BK217 := Aside0.mk (hbox)
    have GW217 := ge HB hg
    have GE217 := ge HB hg
    replace HB := bs HB hb
    have NB207_217 := nl BK207 hg
    have NB217_207 := nr BK207 hg
    replace BK207 := bb BK207 hb
    have NB208_217 := nl BK208 hg
    have NB217_208 := nr BK208 hg
    replace BK208 := bb BK208 hb
    have NB209_217 := nl BK209 hg
    have NB217_209 := nr BK209 hg
    replace BK209 := bb BK209 hb
    clear hb hbox hg
    refine hK.out _ _ ⟨bc0 BK207, bc1 BK207⟩ (fun hHeld => ?_)
    clear hK K
    refine norm_ (a' := ?_) ?_ ?_; rotate_left; (show Act.put _ (some 6) _ = _; simp only [sqa, sqb, sqc, sqd, i64_w, i32_w]; rfl)
    refine on 2 12 (bl 9 159) HT_.out (fun K hK => ?_)
    refine gs Try.func81 #[.slice A0_0 l0_0.length c0_0] ?_
    with_reducible refine (spec_l1Own.calls _ _ l0_0 t211 _ ?side1 ?side2 A4.out).mono ?_
    (case side1 => exact ck HR0_0 HB)
    (case side2 => exact HC0_0.out)
    rintro e w59 ⟨v212, rfl, ho0, hb⟩
    refine ⟨_, rfl, ?_⟩
    have HO213 := lo ho0 HB
    replace BK207 := bb BK207 hb
    replace BK208 := bb BK208 hb
    replace BK209 := bb BK209 hb
    replace BK217 := bb BK217 hb
    replace HB := bs HB hb
    (try clear hb); (try clear hb2); (try clear hk); (try clear hi); (try clear ho0)
    refine hK.out _ _ ⟨bc0 BK207, bc1 BK207⟩ (fun hHeld => ?_)
    clear hK K
    refine norm_ (a' := ?_) ?_ ?_; rotate_left; (show Act.put _ (some 12) _ = _; simp only [sqa, sqb, sqc, sqd, i64_w, i32_w]; rfl)
    refine on 5 15 (bl 9 191) HT_.out (fun K hK => ?_)
    refine gs Try.func81 #[.slice A0_1 l0_1.length c0_1] ?_
    with_reducible refine (spec_l1Own.calls _ _ l0_1 t214 _ ?side1 ?side2 A5.out).mono ?_
    (case side1 => exact ck HR0_1 HB)
    (case side2 => exact HC0_1.out)
    rintro e w60 ⟨v215, rfl, ho0, hb⟩
    refine ⟨_, rfl, ?_⟩
    have HO216 := Aside0.mk (Kd.R_lower (Kd.R_new' ho0 (Kd.R_lt (rk HO213))) (below_size (bw HB)))
    replace HO213 := Aside0.mk (Kd.R_elder' (rk HO213) (Kd.R_base ho0) hb)
    replace BK207 := bb BK207 hb
    replace BK208 := bb BK208 hb
    replace BK209 := bb BK209 hb
    replace BK217 := bb BK217 hb
    replace HB := bs HB hb
    (try clear hb); (try clear hb2); (try clear hk); (try clear hi); (try clear ho0)
    obtain ⟨Ao61, co61, eo61⟩ := Kd.R_slice HO216.out
    (first | subst eo61 | (injection eo61 with f1_ f2_ f3_; have f4_ := f1_.symm; have f5_ := f3_.symm; clear f1_ f2_ f3_; subst f4_; subst f5_))
    obtain ⟨Ao62, co62, eo62⟩ := Kd.R_slice HO213.out
    (first | subst eo62 | (injection eo62 with f1_ f2_ f3_; have f4_ := f1_.symm; have f5_ := f3_.symm; clear f1_ f2_ f3_; subst f4_; subst f5_))
    refine hK.out _ _ ⟨bc0 BK207, bc1 BK207⟩ (fun hHeld => ?_)
    clear hK K
    refine norm_ (a' := ?_) ?_ ?_; rotate_left; (show Act.put _ (some 15) _ = _; simp only [sqa, sqb, sqc, sqd, i64_w, i32_w]; rfl)
    refine pu 6 16 (bl 9 255) HT_.out (v := ?_) (a' := ?_) ?_ ?_ ?_
    rotate_left; (intro w'; go_simp; with_reducible rfl); rotate_left; (simp only [sqa, sqb, sqc, sqd, i64_w, i32_w]; rfl)
    exact norm_ (by simp only [putAll, Act.put, List.setIfInBounds_toArray, List.set_cons_zero, List.set_cons_succ]) (hCont (.slice Ao62 t211.length co62, .slice Ao61 t214.length co61, gb217) _ ⟨hHeld, (by exact Kd.R_mono HO213.out (fun _ hk => hk.2)), (by exact Kd.R_mono HO216.out (fun _ hk => hk.2)), (bk BK207), (bk BK208), (bk BK209), (bk BK217), GW217.out, GE217.out, NB207_217.out, NB217_207.out, NB208_217.out, NB217_208.out, NB209_217.out, NB217_209.out, (bw HB)⟩)
  rintro ⟨v212, v215, gb217⟩ w63 ⟨hS_, h0_, h1_, h2_, h3_, h4_, h5_, h6_, h7_, h8_, h9_, h10_, h11_, h12_, h13_, h14_⟩
  have HO213 := Aside0.mk h0_
  have HO216 := Aside0.mk h1_
  replace BK207 := Aside0.mk h2_
  replace BK208 := Aside0.mk h3_
  replace BK209 := Aside0.mk h4_
  have BK217 := Aside0.mk h5_
  have GW217 := GeC.mk h6_
  have GE217 := GeC.mk h7_
  have NB207_217 := NeC.mk h8_
  have NB217_207 := NeC.mk h9_
  have NB208_217 := NeC.mk h10_
  have NB217_208 := NeC.mk h11_
  have NB209_217 := NeC.mk h12_
  have NB217_209 := NeC.mk h13_
  replace HB := Aside0.mk h14_
  clear h0_ h1_ h2_ h3_ h4_ h5_ h6_ h7_ h8_ h9_ h10_ h11_ h12_ h13_ h14_
  have hHeld : w63.cell? ⟨gb207, 0, none⟩ = some (.slice A0_0 l0_0.length c0_0) ∧ w63.cell? ⟨gb207, 1, none⟩ = some (.slice A0_1 l0_1.length c0_1) := hS_
  obtain ⟨Ao64, co64, eo64⟩ := Kd.R_slice HO216.out
  (first | subst eo64 | (injection eo64 with f1_ f2_ f3_; have f4_ := f1_.symm; have f5_ := f3_.symm; clear f1_ f2_ f3_; subst f4_; subst f5_))
  obtain ⟨Ao65, co65, eo65⟩ := Kd.R_slice HO213.out
  (first | subst eo65 | (injection eo65 with f1_ f2_ f3_; have f4_ := f1_.symm; have f5_ := f3_.symm; clear f1_ f2_ f3_; subst f4_; subst f5_))
  refine norm_ (a' := ?_) ?_ ?_
  rotate_left
  ·simp only [putAll, Act.put, List.setIfInBounds_toArray, List.set_cons_zero, List.set_cons_succ]
   rfl
  refine one_ (i := 8) (N := none) (bl 9 511) rfl rfl (one_of HT_.out (by kernel_rfl)) (by decide) (fun K hK => ?_)
  have hs66 : w63.cell? ⟨gb217, 0, none⟩ = some (.slice none 0 0) := bc0 BK217
  have hfs66 := blk_frozen BK217.out 0
  have hns66_0 := NB207_217.out
  have hns66_1 := NB208_217.out
  have hns66_2 := NB209_217.out
  have hms66_0 := NB217_207.out
  have hms66_1 := NB217_208.out
  have hms66_2 := NB217_209.out
  have hs67 : w63.cell? ⟨gb217, 1, none⟩ = some (.slice none 0 0) := bc1 BK217
  have hfs67 := blk_frozen BK217.out 1
  have hns67_0 := NB207_217.out
  have hns67_1 := NB208_217.out
  have hns67_2 := NB209_217.out
  have hms67_0 := NB217_207.out
  have hms67_1 := NB217_208.out
  have hms67_2 := NB217_209.out
  refine skip_ (w1 := ?_) (by rfl) rfl ?_ ?_
  rotate_left
  ·go_simp
   rfl
  refine hK.out _ _ ⟨((cell_far (p := ⟨gb217, _, none⟩) NB207_217.out _).trans (((cell_far (p := ⟨gb217, _, none⟩) NB207_217.out _).trans (hHeld.1)))), ((cell_far (p := ⟨gb217, _, none⟩) NB207_217.out _).trans (((cell_far (p := ⟨gb217, _, none⟩) NB207_217.out _).trans (hHeld.2))))⟩ (fun hHeld => ?_)
  clear hK K
  refine done_ (done_of HT_.out (by kernel_rfl)) ?_
  have n0_ : Aside0 (Kd.R (Kd.int .i64) 3 ((w63.setCell ⟨gb217, 0, none⟩ (.slice Ao65 t211.length co65)).setCell ⟨gb217, 1, none⟩ (.slice Ao64 t214.length co64)) w.heap.size (fun k_ => some k_ ≠ (.slice Ao64 t214.length co64 : Value).ownBlock) (.slice Ao65 t211.length co65) t211) := ⟨by exact Kd.R_mono (Kd.R_far (p := ⟨gb217, 1, none⟩) (Kd.R_far (p := ⟨gb217, 0, none⟩) (Kd.R_types HO213.out BK217.out (by decide)) (fun _ hk => hk.2) (.slice Ao65 t211.length co65)) (fun _ hk => hk.2) (.slice Ao64 t214.length co64)) (fun _ hk => hk.1)⟩
  have n1_ : Aside0 (Kd.R (Kd.int .i64) 3 ((w63.setCell ⟨gb217, 0, none⟩ (.slice Ao65 t211.length co65)).setCell ⟨gb217, 1, none⟩ (.slice Ao64 t214.length co64)) w.heap.size (fun k_ => some k_ ≠ (.slice Ao65 t211.length co65 : Value).ownBlock) (.slice Ao64 t214.length co64) t214) := ⟨by exact Kd.R_mono (Kd.R_far (p := ⟨gb217, 1, none⟩) (Kd.R_far (p := ⟨gb217, 0, none⟩) (Kd.R_types HO216.out BK217.out (by decide)) (fun _ hk => hk.2) (.slice Ao65 t211.length co65)) (fun _ hk => hk.2) (.slice Ao64 t214.length co64)) (fun _ hk => hk.1)⟩
  have n2_ : Aside0 (((w63.setCell ⟨gb217, 0, none⟩ (.slice Ao65 t211.length co65)).setCell ⟨gb217, 1, none⟩ (.slice Ao64 t214.length co64)).heap[gb207]? = some (.cells #[.slice A0_0 l0_0.length c0_0, .slice A0_1 l0_1.length c0_1] 35 (0, 0))) := ⟨bk BK207⟩
  have n3_ : Aside0 (((w63.setCell ⟨gb217, 0, none⟩ (.slice Ao65 t211.length co65)).setCell ⟨gb217, 1, none⟩ (.slice Ao64 t214.length co64)).heap[gb208]? = some (.cells #[.int .i64 a1_0, .int .i64 a1_1] 55 (0, 0))) := ⟨bk BK208⟩
  have n4_ : Aside0 (((w63.setCell ⟨gb217, 0, none⟩ (.slice Ao65 t211.length co65)).setCell ⟨gb217, 1, none⟩ (.slice Ao64 t214.length co64)).heap[gb209]? = some (.cells #[.slice none 0 0, .slice none 0 0] 35 (0, 0))) := ⟨bk BK209⟩
  have n5_ : Aside0 (((w63.setCell ⟨gb217, 0, none⟩ (.slice Ao65 t211.length co65)).setCell ⟨gb217, 1, none⟩ (.slice Ao64 t214.length co64)).heap[gb217]? = some (.cells #[.slice Ao65 t211.length co65, .slice Ao64 t214.length co64] 35 (0, 0))) := ⟨by refine blk_put (cs := #[.slice Ao65 t211.length co65, .slice none 0 0]) ?_ 1 _ rfl; refine blk_put (cs := #[.slice none 0 0, .slice none 0 0]) ?_ 0 _ rfl; exact bk BK217⟩
  have n6_ : Aside0 (Below w.heap.size w ((w63.setCell ⟨gb217, 0, none⟩ (.slice Ao65 t211.length co65)).setCell ⟨gb217, 1, none⟩ (.slice Ao64 t214.length co64))) := ⟨bw HB⟩
  (try clear HO213); (try clear HO216); (try clear BK207); (try clear BK208); (try clear BK209); (try clear BK217); (try clear HB)
  generalize ((w63.setCell ⟨gb217, 0, none⟩ (.slice Ao65 t211.length co65)).setCell ⟨gb217, 1, none⟩ (.slice Ao64 t214.length co64)) = w68 at n0_ n1_ n2_ n3_ n4_ n5_ n6_ ⊢
  have HO213 := n0_
  have HO216 := n1_
  have BK207 := n2_
  have BK208 := n3_
  have BK209 := n4_
  have BK217 := n5_
  have HB := n6_
  clear n0_ n1_ n2_ n3_ n4_ n5_ n6_
  have hnb69 := NB208_217.out
  have hnc69 := NB217_208.out
  have hcz70_0 := bc0 BK208
  have hcz70_1 := bc1 BK208
  have hfz70_0 := blk_frozen BK208.out 0
  have hfz70_1 := blk_frozen BK208.out 1
  have hnb71 := NB217_207.out
  have hnc71 := NB207_217.out
  have hnb72 := NB217_209.out
  have hnc72 := NB209_217.out
  have hcz73_0 := bc0 BK217
  have hcz73_1 := bc1 BK217
  have hfz73_0 := blk_frozen BK217.out 0
  have hfz73_1 := blk_frozen BK217.out 1
  have p218 : 0 ≤ (a1_0 : Int) := of_decide_eq_true ‹_›
  have q218 : a1_0 < (t214.length : Int) := of_decide_eq_true ‹_›
  obtain ⟨ad218, e218, hx218_0⟩ := Kd.at_int (Kd.R_reads' HO216.out).2.2 a1_0 p218 q218
  cases e218
  replace p218 := eq_true p218
  replace q218 := eq_true q218
  have p9 : 0 ≤ (a1_0 : Int) := of_decide_eq_true ‹_›
  have q9 : (a1_0 : Int) < ((t214.length : Int) : Int) := of_decide_eq_true ‹_›
  obtain ⟨go9, co9, eo9, gb9, gl9, cl9, HG9⟩ := Kd.R_form HO216.out (by omega)
  (first | cases eo9 | (injection eo9 with ea_ en_ ec_; (first | subst ea_ | (injection ea_ with ea_; subst ea_)); subst ec_; clear en_))
  have GB9 := Aside0.mk gb9
  have GG9 := Aside0.mk HG9
  clear gb9 gl9 HG9
  (first | simp only [add_plain] at hx218_0 | skip)
  obtain ⟨hx9_0, hf9_0⟩ := Kd.R_celln 0 HO216.out (a1_0 : Int) p9 q9
  replace p9 := eq_true p9
  replace q9 := eq_true q9
  obtain ⟨hy74_, hz74_⟩ := Kd.R_celln 0 HO216.out (a1_0 : Int) (of_decide_eq_true ‹_›) (of_decide_eq_true ‹_›)
  have HP74 := Kd.R_putg HO216.out (a1_0 : Int) (wrap64 ((rd t214 a1_0) - t210))
  try go_wp2_with (first | ((with_reducible refine gate_store (t := 3) (p := 28) rfl ?_); refine store_event (t := 3) (p := 28) (v := ?vo_w75) (w1 := (w68.setCell ⟨go9, (a1_0 : Int).toNat, none⟩ (.int .i64 (wrap64 ((rd t214 a1_0) - t210))))) ?hg ?ho ?hn ?hr ?_; (case ho => rfl); (case hg => rfl); (case hn => rfl); (case hr => first | (go_simp; done) | (go_simp; rfl)); intro w75 hw; have hg : w68.grownBy w75 (some go9) := (by rw [hw]; exact HP74.2); have hp_ : Kd.R (Kd.int .i64) 3 w75 w.heap.size (fun k_ => some k_ ≠ (.slice Ao65 t211.length co65 : Value).ownBlock) (.slice (some ⟨go9, 0, none⟩) t214.length co64) y219 := (by rw [hw, Ny219.out]; exact HP74.1); clear HP74; replace BK207 := Aside0.mk (blk_grown (g := gb207) (o := .cells #[.slice A0_0 l0_0.length c0_0, .slice A0_1 l0_1.length c0_1] 35 (0, 0)) (bk BK207) hg (Kd.R_ne HO216.out BK207.out (by decide))); replace BK208 := Aside0.mk (blk_grown (g := gb208) (o := .cells #[.int .i64 a1_0, .int .i64 a1_1] 55 (0, 0)) (bk BK208) hg (Kd.R_ne HO216.out BK208.out (by decide))); replace BK209 := Aside0.mk (blk_grown (g := gb209) (o := .cells #[.slice none 0 0, .slice none 0 0] 35 (0, 0)) (bk BK209) hg (Kd.R_ne HO216.out BK209.out (by decide))); replace HO213 := Aside0.mk (Kd.R_after (v := (.slice (some ⟨go9, 0, none⟩) t214.length co64)) (v1 := (.slice (some ⟨go9, 0, none⟩) t214.length co64)) (ok := (fun _ => True)) (by exact Kd.R_mono HO213.out (fun _ hk => ⟨trivial, hk⟩)) hg (.inl rfl)); replace BK217 := Aside0.mk (blk_grown (g := gb217) (o := .cells #[.slice Ao65 t211.length co65, .slice (some ⟨go9, 0, none⟩) t214.length co64] 35 (0, 0)) (bk BK217) hg (Kd.R_ne HO216.out BK217.out (by decide))); replace HO216 := Aside0.mk (hp_); replace HB := Aside0.mk ((by rw [hw]; exact below_set (HB.out) GB9.out : Below w.heap.size w w75)); clear hg hw hp_; have hcz76_0 := bc0 BK208; have hcz76_1 := bc1 BK208; have hfz76_0 := blk_frozen BK208.out 0; have hfz76_1 := blk_frozen BK208.out 1; have hcz77_0 := bc0 BK217; have hcz77_1 := bc1 BK217; have hfz77_0 := blk_frozen BK217.out 0; have hfz77_1 := blk_frozen BK217.out 1; have hcz78_0 := bc0 BK209; have hcz78_1 := bc1 BK209; have hfz78_0 := blk_frozen BK209.out 0; have hfz78_1 := blk_frozen BK209.out 1))
  refine bodyPost_ret (results_cell_row rfl _ _ gb209 35 #[.slice Ao65 t211.length co65, .slice (some ⟨go9, 0, none⟩) t214.length co64] (0, 0) _ rfl (by refine blk_put (cs := #[.slice Ao65 t211.length co65, .slice none 0 0]) ?_ 1 _ rfl; refine blk_put (cs := #[.slice none 0 0, .slice none 0 0]) ?_ 0 _ rfl; exact bk BK209) Try.underlying35 rfl (by kernel_rfl)) rfl ?_
  exact ⟨_, _, by first | rfl | (simp [errW_none, errW_some] <;> rfl) | (simp [*, errW_none, errW_some] <;> rfl), by exact Kd.R_mono (Kd.R_far (p := ⟨gb209, 1, none⟩) (Kd.R_far (p := ⟨gb209, 0, none⟩) (Kd.R_types HO213.out BK209.out (by decide)) (fun _ hk => hk.2) (.slice Ao65 t211.length co65)) (fun _ hk => hk.2) (.slice (some ⟨go9, 0, none⟩) t214.length co64)) (fun _ hk => hk.1.2), by exact Kd.R_mono (Kd.R_far (p := ⟨gb209, 1, none⟩) (Kd.R_far (p := ⟨gb209, 0, none⟩) (Kd.R_types HO216.out BK209.out (by decide)) (fun _ hk => hk.2) (.slice Ao65 t211.length co65)) (fun _ hk => hk.2) (.slice (some ⟨go9, 0, none⟩) t214.length co64)) (fun _ hk => hk.1), bw HB⟩
 rw [if_pos c10] at H
 have c10b0 : decide (0 ≤ a1_1) = true := decide_eq_true c10
 clear c10
 by_cases c11 : 0 ≤ a1_1
 rotate_left
 ·rw [if_neg c11] at H
  exact absurd H (by simp)
 rw [if_pos c11] at H
 have c11b0 : decide (0 ≤ a1_1) = true := decide_eq_true c11
 clear c11
 by_cases c12 : a1_1 < (t214.length : Int)
 rotate_left
 ·rw [if_neg c12] at H
  exact absurd H (by simp)
 rw [if_pos c12] at H
 have c12b0 : decide (a1_1 < (t214.length : Int)) = true := decide_eq_true c12
 clear c12
 obtain ⟨y221, hy221⟩ : ∃ y_ : List Int, y_ = (y219.set (a1_1 : Int).toNat (wrap64 ((rd y219 a1_1) + t210))) := ⟨_, rfl⟩
 replace H : (some (t211, y221)) = some (r1, r2) := by first | (rw [hy221]; with_reducible exact H) | (have H2_ := (Option.bind_some _ _).symm.trans H; rw [hy221]; with_reducible exact H2_) | (have H2_ := (Option.bind_some _ _).symm.trans H; with_reducible exact H2_) | with_reducible exact H | (rw [hy221]; exact H) | exact H
 have Ny221 := Aside0.mk hy221
 clear hy221
 simp only [Option.some.injEq, Prod.mk.injEq] at H
 obtain ⟨rfl, rfl⟩ := H
 go_enter Try.func59, Try.ntmps59
 try go_wp2_with (first | ((with_reducible refine gate_dst (N := 2) rfl ?_); refine bx 2 #[.slice A0_0 l0_0.length c0_0, .slice A0_1 l0_1.length c0_1] 35 ?_; intro gb207 hg w14 hbox hb; have BK207 := Aside0.mk (hbox); have GW207 := ge HB hg; have GE207 := ge HB hg; replace HB := bs HB hb; clear hb hbox hg) | ((with_reducible refine gate_dst (N := 3) rfl ?_); refine bx 3 #[.int .i64 a1_0, .int .i64 a1_1] 55 ?_; intro gb208 hg w15 hbox hb; have BK208 := Aside0.mk (hbox); have GW208 := ge HB hg; have GE208 := ge HB hg; replace HB := bs HB hb; have NB207_208 := nl BK207 hg; have NB208_207 := nr BK207 hg; replace BK207 := bb BK207 hb; clear hb hbox hg) | ((with_reducible refine gate_dst (N := 4) rfl ?_); refine bx 4 #[.slice none 0 0, .slice none 0 0] 35 ?_; intro gb209 hg w16 hbox hb; have BK209 := Aside0.mk (hbox); have GW209 := ge HB hg; have GE209 := ge HB hg; replace HB := bs HB hb; have NB207_209 := nl BK207 hg; have NB209_207 := nr BK207 hg; replace BK207 := bb BK207 hb; have NB208_209 := nl BK208 hg; have NB209_208 := nr BK208 hg; replace BK208 := bb BK208 hb; clear hb hbox hg; have hnb17 := NB207_208.out; have hnc17 := NB208_207.out; have hnb18 := NB207_209.out; have hnc18 := NB209_207.out; have hcz19_0 := bc0 BK207; have hcz19_1 := bc1 BK207; have hfz19_0 := blk_frozen BK207.out 0; have hfz19_1 := blk_frozen BK207.out 1; have hnb20 := NB208_209.out; have hnc20 := NB209_208.out; have hcz21_0 := bc0 BK208; have hcz21_1 := bc1 BK208; have hfz21_0 := blk_frozen BK208.out 0; have hfz21_1 := blk_frozen BK208.out 1) | ((with_reducible refine gate_callee (f := 58) rfl ?_); refine gl 9 Try.func58 #[.agg #[.slice A0_0 l0_0.length c0_0, .slice A0_1 l0_1.length c0_1], .agg #[.int .i64 a1_0, .int .i64 a1_1]] ?_; (with_reducible refine (spec_veAmount.calls _ _ l0_0 _ _ l0_1 a1_0 a1_1 t210 _ ?side1 ?side2 ?side3 ?side4 A3.out).mono ?_); (case side1 => exact ck HR0_0 HB); (case side2 => exact HC0_0.out); (case side3 => exact ck HR0_1 HB); (case side4 => exact HC0_1.out); rintro e w22 ⟨rfl, hb⟩; refine ⟨_, rfl, ?_⟩; replace BK207 := bb BK207 hb; replace BK208 := bb BK208 hb; replace BK209 := bb BK209 hb; replace HB := bs HB hb; (try clear hb)))
 replace BK207 := Aside0.mk (blk_drew BK207.out)
 replace BK208 := Aside0.mk (blk_drew BK208.out)
 replace BK209 := Aside0.mk (blk_drew BK209.out)
 replace HB := Aside0.mk (below_drew1 HB.out)
 refine start_ (n := 9) (S := fun w' => w'.cell? ⟨gb207, 0, none⟩ = some (.slice A0_0 l0_0.length c0_0) ∧ w'.cell? ⟨gb207, 1, none⟩ = some (.slice A0_1 l0_1.length c0_1)) (ds := []) (bl 9 0) (by kernel_rfl) rfl rfl ⟨bc0 BK207, bc1 BK207⟩ (fun hHeld => ?_); refine with_tabW spec_veMake.tab2 spec_veMake.bits2 (fun HT_ HW_ => ?_)
 generalize w22.drew = w23 at BK207 BK208 BK209 HB hHeld ⊢
 refine pu 0 10 (bl 9 1) HT_.out (v := ?_) (a' := ?_) ?_ ?_ ?_
 rotate_left; (intro w'; go_simp; with_reducible rfl); rotate_left; (simp only [sqa, sqb, sqc, sqd, i64_w, i32_w]; rfl)
 refine pu 3 13 (bl 9 9) HT_.out (v := ?_) (a' := ?_) ?_ ?_ ?_
 rotate_left; (intro w'; go_simp; with_reducible rfl); rotate_left; (simp only [sqa, sqb, sqc, sqd, i64_w, i32_w]; rfl)
 refine tk 1 11 (bl 9 11) HT_.out HW_.out hHeld (v := ?_) (a' := ?_) ?_ ?_ ?_
 rotate_left; (rintro w' ⟨s0, s1⟩; go_simp; with_reducible rfl); rotate_left; (simp only [sqa, sqb, sqc, sqd, i64_w, i32_w]; rfl)
 refine tk 4 14 (bl 9 27) HT_.out HW_.out hHeld (v := ?_) (a' := ?_) ?_ ?_ ?_
 rotate_left; (rintro w' ⟨s0, s1⟩; go_simp; with_reducible rfl); rotate_left; (simp only [sqa, sqb, sqc, sqd, i64_w, i32_w]; rfl)
 refine join_ (σ := Value × Value × Nat) 1 (bl 9 255) (fun s_ => [(12, s_.1), (15, s_.2.1), (6, .pointer (some ⟨s_.2.2, 0, none⟩)), (16, .agg #[s_.1, s_.2.1])]) (fun s_ w' => (w'.cell? ⟨gb207, 0, none⟩ = some (.slice A0_0 l0_0.length c0_0) ∧ w'.cell? ⟨gb207, 1, none⟩ = some (.slice A0_1 l0_1.length c0_1)) ∧ (Kd.R (Kd.int .i64) 3 w' w.heap.size (fun k_ => some k_ ≠ (s_.2.1 : Value).ownBlock) s_.1 t211) ∧ (Kd.R (Kd.int .i64) 3 w' w.heap.size (fun k_ => some k_ ≠ (s_.1 : Value).ownBlock) s_.2.1 t214) ∧ (w'.heap[gb207]? = some (.cells #[.slice A0_0 l0_0.length c0_0, .slice A0_1 l0_1.length c0_1] 35 (0, 0))) ∧ (w'.heap[gb208]? = some (.cells #[.int .i64 a1_0, .int .i64 a1_1] 55 (0, 0))) ∧ (w'.heap[gb209]? = some (.cells #[.slice none 0 0, .slice none 0 0] 35 (0, 0))) ∧ (w'.heap[s_.2.2]? = some (.cells #[.slice none 0 0, .slice none 0 0] 35 (0, 0))) ∧ (w.heap.size ≤ s_.2.2) ∧ (w.heap.size ≤ s_.2.2) ∧ (gb207 ≠ s_.2.2) ∧ (s_.2.2 ≠ gb207) ∧ (gb208 ≠ s_.2.2) ∧ (s_.2.2 ≠ gb208) ∧ (gb209 ≠ s_.2.2) ∧ (s_.2.2 ≠ gb209) ∧ (Below w.heap.size w w')) ?_ ?_
 rotate_left
 ·intro hCont
  refine two_ (i := 2) (j := 7) (Ni := some 12) (Nj := some 6) (bl 9 31) (bl 9 155) rfl rfl rfl rfl (two_of HT_.out (by kernel_rfl)) (by decide) (by decide) (fun K hK => ?_) (fun K hK => ?_)
  ·skip
   refine gs Try.func81 #[.slice A0_0 l0_0.length c0_0] ?_
   with_reducible refine (spec_l1Own.calls _ _ l0_0 t211 _ ?side1 ?side2 A4.out).mono ?_
   (case side1 => exact ck HR0_0 HB)
   (case side2 => exact HC0_0.out)
   rintro e w24 ⟨v212, rfl, ho0, hb⟩
   refine ⟨_, rfl, ?_⟩
   have HO213 := lo ho0 HB
   replace BK207 := bb BK207 hb
   replace BK208 := bb BK208 hb
   replace BK209 := bb BK209 hb
   replace HB := bs HB hb
   (try clear hb); (try clear hb2); (try clear hk); (try clear hi); (try clear ho0)
   refine hK.out _ _ ⟨bc0 BK207, bc1 BK207⟩ (fun hHeld => ?_)
   clear hK K
   refine norm_ (a' := ?_) ?_ ?_; rotate_left; (show Act.put _ (some 12) _ = _; simp only [sqa, sqb, sqc, sqd, i64_w, i32_w]; rfl)
   refine two_ (i := 5) (j := 7) (Ni := some 15) (Nj := some 6) (bl 9 63) (bl 9 159) rfl rfl rfl rfl (two_of HT_.out (by kernel_rfl)) (by decide) (by decide) (fun K hK => ?_) (fun K hK => ?_)
   ·skip
    refine gs Try.func81 #[.slice A0_1 l0_1.length c0_1] ?_
    with_reducible refine (spec_l1Own.calls _ _ l0_1 t214 _ ?side1 ?side2 A5.out).mono ?_
    (case side1 => exact ck HR0_1 HB)
    (case side2 => exact HC0_1.out)
    rintro e w25 ⟨v215, rfl, ho0, hb⟩
    refine ⟨_, rfl, ?_⟩
    have HO216 := Aside0.mk (Kd.R_lower (Kd.R_new' ho0 (Kd.R_lt (rk HO213))) (below_size (bw HB)))
    replace HO213 := Aside0.mk (Kd.R_elder' (rk HO213) (Kd.R_base ho0) hb)
    replace BK207 := bb BK207 hb
    replace BK208 := bb BK208 hb
    replace BK209 := bb BK209 hb
    replace HB := bs HB hb
    (try clear hb); (try clear hb2); (try clear hk); (try clear hi); (try clear ho0)
    obtain ⟨Ao26, co26, eo26⟩ := Kd.R_slice HO216.out
    (first | subst eo26 | (injection eo26 with f1_ f2_ f3_; have f4_ := f1_.symm; have f5_ := f3_.symm; clear f1_ f2_ f3_; subst f4_; subst f5_))
    obtain ⟨Ao27, co27, eo27⟩ := Kd.R_slice HO213.out
    (first | subst eo27 | (injection eo27 with f1_ f2_ f3_; have f4_ := f1_.symm; have f5_ := f3_.symm; clear f1_ f2_ f3_; subst f4_; subst f5_))
    refine hK.out _ _ ⟨bc0 BK207, bc1 BK207⟩ (fun hHeld => ?_)
    clear hK K
    refine norm_ (a' := ?_) ?_ ?_; rotate_left; (show Act.put _ (some 15) _ = _; simp only [sqa, sqb, sqc, sqd, i64_w, i32_w]; rfl)
    refine pu 6 16 (bl 9 127) HT_.out (v := ?_) (a' := ?_) ?_ ?_ ?_
    rotate_left; (intro w'; go_simp; with_reducible rfl); rotate_left; (simp only [sqa, sqb, sqc, sqd, i64_w, i32_w]; rfl)
    refine on 7 6 (bl 9 255) HT_.out (fun K hK => ?_)
    refine box_step ?hg (N := 6) ?hd (cs := #[.slice none 0 0, .slice none 0 0]) (t := 35) ?hr ?_; (case hd => rfl); (case hg => rfl); (case hr => first | (go_simp; done) | (go_simp; rfl))
    intro gb217 hg w28 hbox hb
    replace HO213 := rb HO213 hb
    replace HO216 := rb HO216 hb
    have BK217 := Aside0.mk (hbox)
    have GW217 := ge HB hg
    have GE217 := ge HB hg
    replace HB := bs HB hb
    have NB207_217 := nl BK207 hg
    have NB217_207 := nr BK207 hg
    replace BK207 := bb BK207 hb
    have NB208_217 := nl BK208 hg
    have NB217_208 := nr BK208 hg
    replace BK208 := bb BK208 hb
    have NB209_217 := nl BK209 hg
    have NB217_209 := nr BK209 hg
    replace BK209 := bb BK209 hb
    clear hb hbox hg
    refine hK.out _ _ ⟨bc0 BK207, bc1 BK207⟩ (fun hHeld => ?_)
    clear hK K
    refine norm_ (a' := ?_) ?_ ?_; rotate_left; (show Act.put _ (some 6) _ = _; simp only [sqa, sqb, sqc, sqd, i64_w, i32_w]; rfl)
    exact norm_ (by simp only [putAll, Act.put, List.setIfInBounds_toArray, List.set_cons_zero, List.set_cons_succ]) (hCont (.slice Ao27 t211.length co27, .slice Ao26 t214.length co26, gb217) _ ⟨hHeld, (by exact Kd.R_mono HO213.out (fun _ hk => hk.2)), (by exact Kd.R_mono HO216.out (fun _ hk => hk.2)), (bk BK207), (bk BK208), (bk BK209), (bk BK217), GW217.out, GE217.out, NB207_217.out, NB217_207.out, NB208_217.out, NB217_208.out, NB209_217.out, NB217_209.out, (bw HB)⟩)
   ·skip
    refine box_step ?hg (N := 6) ?hd (cs := #[.slice none 0 0, .slice none 0 0]) (t := 35) ?hr ?_; (case hd => rfl); (case hg => rfl); (case hr => first | (go_simp; done) | (go_simp; rfl))
    intro gb217 hg w25 hbox hb
    replace HO213 := rb HO213 hb
    have BK217 := Aside0.mk (hbox)
    have GW217 := ge HB hg
    have GE217 := ge HB hg
    replace HB := bs HB hb
    have NB207_217 := nl BK207 hg
    have NB217_207 := nr BK207 hg
    replace BK207 := bb BK207 hb
    have NB208_217 := nl BK208 hg
    have NB217_208 := nr BK208 hg
    replace BK208 := bb BK208 hb
    have NB209_217 := nl BK209 hg
    have NB217_209 := nr BK209 hg
    replace BK209 := bb BK209 hb
    clear hb hbox hg
    refine hK.out _ _ ⟨bc0 BK207, bc1 BK207⟩ (fun hHeld => ?_)
    clear hK K
    refine norm_ (a' := ?_) ?_ ?_; rotate_left; (show Act.put _ (some 6) _ = _; simp only [sqa, sqb, sqc, sqd, i64_w, i32_w]; rfl)
    refine on 5 15 (bl 9 191) HT_.out (fun K hK => ?_)
    refine gs Try.func81 #[.slice A0_1 l0_1.length c0_1] ?_
    with_reducible refine (spec_l1Own.calls _ _ l0_1 t214 _ ?side1 ?side2 A5.out).mono ?_
    (case side1 => exact ck HR0_1 HB)
    (case side2 => exact HC0_1.out)
    rintro e w26 ⟨v215, rfl, ho0, hb⟩
    refine ⟨_, rfl, ?_⟩
    have HO216 := Aside0.mk (Kd.R_lower (Kd.R_new' ho0 (Kd.R_lt (rk HO213))) (below_size (bw HB)))
    replace HO213 := Aside0.mk (Kd.R_elder' (rk HO213) (Kd.R_base ho0) hb)
    replace BK207 := bb BK207 hb
    replace BK208 := bb BK208 hb
    replace BK209 := bb BK209 hb
    replace BK217 := bb BK217 hb
    replace HB := bs HB hb
    (try clear hb); (try clear hb2); (try clear hk); (try clear hi); (try clear ho0)
    obtain ⟨Ao27, co27, eo27⟩ := Kd.R_slice HO216.out
    (first | subst eo27 | (injection eo27 with f1_ f2_ f3_; have f4_ := f1_.symm; have f5_ := f3_.symm; clear f1_ f2_ f3_; subst f4_; subst f5_))
    obtain ⟨Ao28, co28, eo28⟩ := Kd.R_slice HO213.out
    (first | subst eo28 | (injection eo28 with f1_ f2_ f3_; have f4_ := f1_.symm; have f5_ := f3_.symm; clear f1_ f2_ f3_; subst f4_; subst f5_))
    refine hK.out _ _ ⟨bc0 BK207, bc1 BK207⟩ (fun hHeld => ?_)
    clear hK K
    refine norm_ (a' := ?_) ?_ ?_; rotate_left; (show Act.put _ (some 15) _ = _; simp only [sqa, sqb, sqc, sqd, i64_w, i32_w]; rfl)
    refine pu 6 16 (bl 9 255) HT_.out (v := ?_) (a' := ?_) ?_ ?_ ?_
    rotate_left; (intro w'; go_simp; with_reducible rfl); rotate_left; (simp only [sqa, sqb, sqc, sqd, i64_w, i32_w]; rfl)
    exact norm_ (by simp only [putAll, Act.put, List.setIfInBounds_toArray, List.set_cons_zero, List.set_cons_succ]) (hCont (.slice Ao28 t211.length co28, .slice Ao27 t214.length co27, gb217) _ ⟨hHeld, (by exact Kd.R_mono HO213.out (fun _ hk => hk.2)), (by exact Kd.R_mono HO216.out (fun _ hk => hk.2)), (bk BK207), (bk BK208), (bk BK209), (bk BK217), GW217.out, GE217.out, NB207_217.out, NB217_207.out, NB208_217.out, NB217_208.out, NB209_217.out, NB217_209.out, (bw HB)⟩)
  ·skip
   refine box_step ?hg (N := 6) ?hd (cs := #[.slice none 0 0, .slice none 0 0]) (t := 35) ?hr ?_; (case hd => rfl); (case hg => rfl); (case hr => first | (go_simp; done) | (go_simp; rfl))
   intro gb217 hg w24 hbox hb
   have BK217 := Aside0.mk (hbox)
   have GW217 := ge HB hg
   have GE217 := ge HB hg
   replace HB := bs HB hb
   have NB207_217 := nl BK207 hg
   have NB217_207 := nr BK207 hg
   replace BK207 := bb BK207 hb
   have NB208_217 := nl BK208 hg
   have NB217_208 := nr BK208 hg
   replace BK208 := bb BK208 hb
   have NB209_217 := nl BK209 hg
   have NB217_209 := nr BK209 hg
   replace BK209 := bb BK209 hb
   clear hb hbox hg
   refine hK.out _ _ ⟨bc0 BK207, bc1 BK207⟩ (fun hHeld => ?_)
   clear hK K
   refine norm_ (a' := ?_) ?_ ?_; rotate_left; (show Act.put _ (some 6) _ = _; simp only [sqa, sqb, sqc, sqd, i64_w, i32_w]; rfl)
   refine on 2 12 (bl 9 159) HT_.out (fun K hK => ?_)
   refine gs Try.func81 #[.slice A0_0 l0_0.length c0_0] ?_
   with_reducible refine (spec_l1Own.calls _ _ l0_0 t211 _ ?side1 ?side2 A4.out).mono ?_
   (case side1 => exact ck HR0_0 HB)
   (case side2 => exact HC0_0.out)
   rintro e w25 ⟨v212, rfl, ho0, hb⟩
   refine ⟨_, rfl, ?_⟩
   have HO213 := lo ho0 HB
   replace BK207 := bb BK207 hb
   replace BK208 := bb BK208 hb
   replace BK209 := bb BK209 hb
   replace BK217 := bb BK217 hb
   replace HB := bs HB hb
   (try clear hb); (try clear hb2); (try clear hk); (try clear hi); (try clear ho0)
   refine hK.out _ _ ⟨bc0 BK207, bc1 BK207⟩ (fun hHeld => ?_)
   clear hK K
   refine norm_ (a' := ?_) ?_ ?_; rotate_left; (show Act.put _ (some 12) _ = _; simp only [sqa, sqb, sqc, sqd, i64_w, i32_w]; rfl)
   refine on 5 15 (bl 9 191) HT_.out (fun K hK => ?_)
   refine gs Try.func81 #[.slice A0_1 l0_1.length c0_1] ?_
   with_reducible refine (spec_l1Own.calls _ _ l0_1 t214 _ ?side1 ?side2 A5.out).mono ?_
   (case side1 => exact ck HR0_1 HB)
   (case side2 => exact HC0_1.out)
   rintro e w26 ⟨v215, rfl, ho0, hb⟩
   refine ⟨_, rfl, ?_⟩
   have HO216 := Aside0.mk (Kd.R_lower (Kd.R_new' ho0 (Kd.R_lt (rk HO213))) (below_size (bw HB)))
   replace HO213 := Aside0.mk (Kd.R_elder' (rk HO213) (Kd.R_base ho0) hb)
   replace BK207 := bb BK207 hb
   replace BK208 := bb BK208 hb
   replace BK209 := bb BK209 hb
   replace BK217 := bb BK217 hb
   replace HB := bs HB hb
   (try clear hb); (try clear hb2); (try clear hk); (try clear hi); (try clear ho0)
   obtain ⟨Ao27, co27, eo27⟩ := Kd.R_slice HO216.out
   (first | subst eo27 | (injection eo27 with f1_ f2_ f3_; have f4_ := f1_.symm; have f5_ := f3_.symm; clear f1_ f2_ f3_; subst f4_; subst f5_))
   obtain ⟨Ao28, co28, eo28⟩ := Kd.R_slice HO213.out
   (first | subst eo28 | (injection eo28 with f1_ f2_ f3_; have f4_ := f1_.symm; have f5_ := f3_.symm; clear f1_ f2_ f3_; subst f4_; subst f5_))
   refine hK.out _ _ ⟨bc0 BK207, bc1 BK207⟩ (fun hHeld => ?_)
   clear hK K
   refine norm_ (a' := ?_) ?_ ?_; rotate_left; (show Act.put _ (some 15) _ = _; simp only [sqa, sqb, sqc, sqd, i64_w, i32_w]; rfl)
   refine pu 6 16 (bl 9 255) HT_.out (v := ?_) (a' := ?_) ?_ ?_ ?_
   rotate_left; (intro w'; go_simp; with_reducible rfl); rotate_left; (simp only [sqa, sqb, sqc, sqd, i64_w, i32_w]; rfl)
   exact norm_ (by simp only [putAll, Act.put, List.setIfInBounds_toArray, List.set_cons_zero, List.set_cons_succ]) (hCont (.slice Ao28 t211.length co28, .slice Ao27 t214.length co27, gb217) _ ⟨hHeld, (by exact Kd.R_mono HO213.out (fun _ hk => hk.2)), (by exact Kd.R_mono HO216.out (fun _ hk => hk.2)), (bk BK207), (bk BK208), (bk BK209), (bk BK217), GW217.out, GE217.out, NB207_217.out, NB217_207.out, NB208_217.out, NB217_208.out, NB209_217.out, NB217_209.out, (bw HB)⟩)
 rintro ⟨v212, v215, gb217⟩ w29 ⟨hS_, h0_, h1_, h2_, h3_, h4_, h5_, h6_, h7_, h8_, h9_, h10_, h11_, h12_, h13_, h14_⟩
 have HO213 := Aside0.mk h0_
 have HO216 := Aside0.mk h1_
 replace BK207 := Aside0.mk h2_
 replace BK208 := Aside0.mk h3_
 replace BK209 := Aside0.mk h4_
 have BK217 := Aside0.mk h5_
 have GW217 := GeC.mk h6_
 have GE217 := GeC.mk h7_
 have NB207_217 := NeC.mk h8_
 have NB217_207 := NeC.mk h9_
 have NB208_217 := NeC.mk h10_
 have NB217_208 := NeC.mk h11_
 have NB209_217 := NeC.mk h12_
 have NB217_209 := NeC.mk h13_
 replace HB := Aside0.mk h14_
 clear h0_ h1_ h2_ h3_ h4_ h5_ h6_ h7_ h8_ h9_ h10_ h11_ h12_ h13_ h14_
 have hHeld : w29.cell? ⟨gb207, 0, none⟩ = some (.slice A0_0 l0_0.length c0_0) ∧ w29.cell? ⟨gb207, 1, none⟩ = some (.slice A0_1 l0_1.length c0_1) := hS_
 obtain ⟨Ao30, co30, eo30⟩ := Kd.R_slice HO216.out
 (first | subst eo30 | (injection eo30 with f1_ f2_ f3_; have f4_ := f1_.symm; have f5_ := f3_.symm; clear f1_ f2_ f3_; subst f4_; subst f5_))
 obtain ⟨Ao31, co31, eo31⟩ := Kd.R_slice HO213.out
 (first | subst eo31 | (injection eo31 with f1_ f2_ f3_; have f4_ := f1_.symm; have f5_ := f3_.symm; clear f1_ f2_ f3_; subst f4_; subst f5_))
 refine norm_ (a' := ?_) ?_ ?_
 rotate_left
 ·simp only [putAll, Act.put, List.setIfInBounds_toArray, List.set_cons_zero, List.set_cons_succ]
  rfl
 refine one_ (i := 8) (N := none) (bl 9 511) rfl rfl (one_of HT_.out (by kernel_rfl)) (by decide) (fun K hK => ?_)
 have hs32 : w29.cell? ⟨gb217, 0, none⟩ = some (.slice none 0 0) := bc0 BK217
 have hfs32 := blk_frozen BK217.out 0
 have hns32_0 := NB207_217.out
 have hns32_1 := NB208_217.out
 have hns32_2 := NB209_217.out
 have hms32_0 := NB217_207.out
 have hms32_1 := NB217_208.out
 have hms32_2 := NB217_209.out
 have hs33 : w29.cell? ⟨gb217, 1, none⟩ = some (.slice none 0 0) := bc1 BK217
 have hfs33 := blk_frozen BK217.out 1
 have hns33_0 := NB207_217.out
 have hns33_1 := NB208_217.out
 have hns33_2 := NB209_217.out
 have hms33_0 := NB217_207.out
 have hms33_1 := NB217_208.out
 have hms33_2 := NB217_209.out
 refine skip_ (w1 := ?_) (by rfl) rfl ?_ ?_
 rotate_left
 ·go_simp
  rfl
 refine hK.out _ _ ⟨((cell_far (p := ⟨gb217, _, none⟩) NB207_217.out _).trans (((cell_far (p := ⟨gb217, _, none⟩) NB207_217.out _).trans (hHeld.1)))), ((cell_far (p := ⟨gb217, _, none⟩) NB207_217.out _).trans (((cell_far (p := ⟨gb217, _, none⟩) NB207_217.out _).trans (hHeld.2))))⟩ (fun hHeld => ?_)
 clear hK K
 refine done_ (done_of HT_.out (by kernel_rfl)) ?_
 have n0_ : Aside0 (Kd.R (Kd.int .i64) 3 ((w29.setCell ⟨gb217, 0, none⟩ (.slice Ao31 t211.length co31)).setCell ⟨gb217, 1, none⟩ (.slice Ao30 t214.length co30)) w.heap.size (fun k_ => some k_ ≠ (.slice Ao30 t214.length co30 : Value).ownBlock) (.slice Ao31 t211.length co31) t211) := ⟨by exact Kd.R_mono (Kd.R_far (p := ⟨gb217, 1, none⟩) (Kd.R_far (p := ⟨gb217, 0, none⟩) (Kd.R_types HO213.out BK217.out (by decide)) (fun _ hk => hk.2) (.slice Ao31 t211.length co31)) (fun _ hk => hk.2) (.slice Ao30 t214.length co30)) (fun _ hk => hk.1)⟩
 have n1_ : Aside0 (Kd.R (Kd.int .i64) 3 ((w29.setCell ⟨gb217, 0, none⟩ (.slice Ao31 t211.length co31)).setCell ⟨gb217, 1, none⟩ (.slice Ao30 t214.length co30)) w.heap.size (fun k_ => some k_ ≠ (.slice Ao31 t211.length co31 : Value).ownBlock) (.slice Ao30 t214.length co30) t214) := ⟨by exact Kd.R_mono (Kd.R_far (p := ⟨gb217, 1, none⟩) (Kd.R_far (p := ⟨gb217, 0, none⟩) (Kd.R_types HO216.out BK217.out (by decide)) (fun _ hk => hk.2) (.slice Ao31 t211.length co31)) (fun _ hk => hk.2) (.slice Ao30 t214.length co30)) (fun _ hk => hk.1)⟩
 have n2_ : Aside0 (((w29.setCell ⟨gb217, 0, none⟩ (.slice Ao31 t211.length co31)).setCell ⟨gb217, 1, none⟩ (.slice Ao30 t214.length co30)).heap[gb207]? = some (.cells #[.slice A0_0 l0_0.length c0_0, .slice A0_1 l0_1.length c0_1] 35 (0, 0))) := ⟨bk BK207⟩
 have n3_ : Aside0 (((w29.setCell ⟨gb217, 0, none⟩ (.slice Ao31 t211.length co31)).setCell ⟨gb217, 1, none⟩ (.slice Ao30 t214.length co30)).heap[gb208]? = some (.cells #[.int .i64 a1_0, .int .i64 a1_1] 55 (0, 0))) := ⟨bk BK208⟩
 have n4_ : Aside0 (((w29.setCell ⟨gb217, 0, none⟩ (.slice Ao31 t211.length co31)).setCell ⟨gb217, 1, none⟩ (.slice Ao30 t214.length co30)).heap[gb209]? = some (.cells #[.slice none 0 0, .slice none 0 0] 35 (0, 0))) := ⟨bk BK209⟩
 have n5_ : Aside0 (((w29.setCell ⟨gb217, 0, none⟩ (.slice Ao31 t211.length co31)).setCell ⟨gb217, 1, none⟩ (.slice Ao30 t214.length co30)).heap[gb217]? = some (.cells #[.slice Ao31 t211.length co31, .slice Ao30 t214.length co30] 35 (0, 0))) := ⟨by refine blk_put (cs := #[.slice Ao31 t211.length co31, .slice none 0 0]) ?_ 1 _ rfl; refine blk_put (cs := #[.slice none 0 0, .slice none 0 0]) ?_ 0 _ rfl; exact bk BK217⟩
 have n6_ : Aside0 (Below w.heap.size w ((w29.setCell ⟨gb217, 0, none⟩ (.slice Ao31 t211.length co31)).setCell ⟨gb217, 1, none⟩ (.slice Ao30 t214.length co30))) := ⟨bw HB⟩
 (try clear HO213); (try clear HO216); (try clear BK207); (try clear BK208); (try clear BK209); (try clear BK217); (try clear HB)
 generalize ((w29.setCell ⟨gb217, 0, none⟩ (.slice Ao31 t211.length co31)).setCell ⟨gb217, 1, none⟩ (.slice Ao30 t214.length co30)) = w34 at n0_ n1_ n2_ n3_ n4_ n5_ n6_ ⊢
 have HO213 := n0_
 have HO216 := n1_
 have BK207 := n2_
 have BK208 := n3_
 have BK209 := n4_
 have BK217 := n5_
 have HB := n6_
 clear n0_ n1_ n2_ n3_ n4_ n5_ n6_
 have hnb35 := NB208_217.out
 have hnc35 := NB217_208.out
 have hcz36_0 := bc0 BK208
 have hcz36_1 := bc1 BK208
 have hfz36_0 := blk_frozen BK208.out 0
 have hfz36_1 := blk_frozen BK208.out 1
 have hnb37 := NB217_207.out
 have hnc37 := NB207_217.out
 have hnb38 := NB217_209.out
 have hnc38 := NB209_217.out
 have hcz39_0 := bc0 BK217
 have hcz39_1 := bc1 BK217
 have hfz39_0 := blk_frozen BK217.out 0
 have hfz39_1 := blk_frozen BK217.out 1
 have p218 : 0 ≤ (a1_0 : Int) := of_decide_eq_true ‹_›
 have q218 : a1_0 < (t214.length : Int) := of_decide_eq_true ‹_›
 obtain ⟨ad218, e218, hx218_0⟩ := Kd.at_int (Kd.R_reads' HO216.out).2.2 a1_0 p218 q218
 cases e218
 replace p218 := eq_true p218
 replace q218 := eq_true q218
 have p9 : 0 ≤ (a1_0 : Int) := of_decide_eq_true ‹_›
 have q9 : (a1_0 : Int) < ((t214.length : Int) : Int) := of_decide_eq_true ‹_›
 obtain ⟨go9, co9, eo9, gb9, gl9, cl9, HG9⟩ := Kd.R_form HO216.out (by omega)
 (first | cases eo9 | (injection eo9 with ea_ en_ ec_; (first | subst ea_ | (injection ea_ with ea_; subst ea_)); subst ec_; clear en_))
 have GB9 := Aside0.mk gb9
 have GG9 := Aside0.mk HG9
 clear gb9 gl9 HG9
 (first | simp only [add_plain] at hx218_0 | skip)
 obtain ⟨hx9_0, hf9_0⟩ := Kd.R_celln 0 HO216.out (a1_0 : Int) p9 q9
 replace p9 := eq_true p9
 replace q9 := eq_true q9
 obtain ⟨hy40_, hz40_⟩ := Kd.R_celln 0 HO216.out (a1_0 : Int) (of_decide_eq_true ‹_›) (of_decide_eq_true ‹_›)
 have HP40 := Kd.R_putg HO216.out (a1_0 : Int) (wrap64 ((rd t214 a1_0) - t210))
 try go_wp2_with (first | ((with_reducible refine gate_store (t := 3) (p := 28) rfl ?_); refine store_event (t := 3) (p := 28) (v := ?vo_w41) (w1 := (w34.setCell ⟨go9, (a1_0 : Int).toNat, none⟩ (.int .i64 (wrap64 ((rd t214 a1_0) - t210))))) ?hg ?ho ?hn ?hr ?_; (case ho => rfl); (case hg => rfl); (case hn => rfl); (case hr => first | (go_simp; done) | (go_simp; rfl)); intro w41 hw; have hg : w34.grownBy w41 (some go9) := (by rw [hw]; exact HP40.2); have hp_ : Kd.R (Kd.int .i64) 3 w41 w.heap.size (fun k_ => some k_ ≠ (.slice Ao31 t211.length co31 : Value).ownBlock) (.slice (some ⟨go9, 0, none⟩) t214.length co30) y219 := (by rw [hw, Ny219.out]; exact HP40.1); clear HP40; replace BK207 := Aside0.mk (blk_grown (g := gb207) (o := .cells #[.slice A0_0 l0_0.length c0_0, .slice A0_1 l0_1.length c0_1] 35 (0, 0)) (bk BK207) hg (Kd.R_ne HO216.out BK207.out (by decide))); replace BK208 := Aside0.mk (blk_grown (g := gb208) (o := .cells #[.int .i64 a1_0, .int .i64 a1_1] 55 (0, 0)) (bk BK208) hg (Kd.R_ne HO216.out BK208.out (by decide))); replace BK209 := Aside0.mk (blk_grown (g := gb209) (o := .cells #[.slice none 0 0, .slice none 0 0] 35 (0, 0)) (bk BK209) hg (Kd.R_ne HO216.out BK209.out (by decide))); replace HO213 := Aside0.mk (Kd.R_after (v := (.slice (some ⟨go9, 0, none⟩) t214.length co30)) (v1 := (.slice (some ⟨go9, 0, none⟩) t214.length co30)) (ok := (fun _ => True)) (by exact Kd.R_mono HO213.out (fun _ hk => ⟨trivial, hk⟩)) hg (.inl rfl)); replace BK217 := Aside0.mk (blk_grown (g := gb217) (o := .cells #[.slice Ao31 t211.length co31, .slice (some ⟨go9, 0, none⟩) t214.length co30] 35 (0, 0)) (bk BK217) hg (Kd.R_ne HO216.out BK217.out (by decide))); replace HO216 := Aside0.mk (hp_); replace HB := Aside0.mk ((by rw [hw]; exact below_set (HB.out) GB9.out : Below w.heap.size w w41)); clear hg hw hp_; have hcz42_0 := bc0 BK208; have hcz42_1 := bc1 BK208; have hfz42_0 := blk_frozen BK208.out 0; have hfz42_1 := blk_frozen BK208.out 1; have hcz43_0 := bc0 BK217; have hcz43_1 := bc1 BK217; have hfz43_0 := blk_frozen BK217.out 0; have hfz43_1 := blk_frozen BK217.out 1; have p220 : 0 ≤ (a1_1 : Int) := of_decide_eq_true ‹_›; have q220 : a1_1 < (y219.length : Int) := (by have h_ : (a1_1 : Int) < ((t214.length : Int) : Int) := of_decide_eq_true ‹_›; first | (have e_ := (Kd.R_reads' HO216.out).1; omega) | simpa only [Ny219.out, List.length_set] using h_); have ql220 : ((a1_1 : Int) < ((t214.length : Int) : Int)) = True := eq_true (of_decide_eq_true ‹_›); obtain ⟨ad220, e220, hx220_0⟩ := Kd.at_int (Kd.R_reads' HO216.out).2.2 a1_1 p220 q220; obtain rfl : (⟨go9, 0, none⟩ : Addr) = ad220 := (by injection e220); (first | simp only [add_plain] at hx220_0 | simp only [add_at] at hx220_0 | simp only [Addr.add, Nat.zero_add] at hx220_0 | skip); replace p220 := eq_true p220; replace q220 := eq_true q220; have p13 : 0 ≤ (a1_1 : Int) := of_decide_eq_true ‹_›; have q13 : (a1_1 : Int) < ((t214.length : Int) : Int) := of_decide_eq_true ‹_›; obtain ⟨hx13_0, hf13_0⟩ := Kd.R_celln 0 HO216.out (a1_1 : Int) p13 q13; replace p13 := eq_true p13; replace q13 := eq_true q13; obtain ⟨hy44_, hz44_⟩ := Kd.R_celln 0 HO216.out (a1_1 : Int) (of_decide_eq_true ‹_›) (of_decide_eq_true ‹_›); have HP44 := Kd.R_putg HO216.out (a1_1 : Int) (wrap64 ((rd y219 a1_1) + t210))) | ((with_reducible refine gate_store (t := 3) (p := 40) rfl ?_); refine store_event (t := 3) (p := 40) (v := ?vo_w45) (w1 := (w41.setCell ⟨go9, (a1_1 : Int).toNat, none⟩ (.int .i64 (wrap64 ((rd y219 a1_1) + t210))))) ?hg ?ho ?hn ?hr ?_; (case ho => rfl); (case hg => rfl); (case hn => rfl); (case hr => first | (go_simp; done) | (go_simp; rfl)); intro w45 hw; have hg : w41.grownBy w45 (some go9) := (by rw [hw]; exact HP44.2); have hp_ : Kd.R (Kd.int .i64) 3 w45 w.heap.size (fun k_ => some k_ ≠ (.slice Ao31 t211.length co31 : Value).ownBlock) (.slice (some ⟨go9, 0, none⟩) t214.length co30) y221 := (by rw [hw, Ny221.out]; exact HP44.1); clear HP44; replace BK207 := Aside0.mk (blk_grown (g := gb207) (o := .cells #[.slice A0_0 l0_0.length c0_0, .slice A0_1 l0_1.length c0_1] 35 (0, 0)) (bk BK207) hg (Kd.R_ne HO216.out BK207.out (by decide))); replace BK208 := Aside0.mk (blk_grown (g := gb208) (o := .cells #[.int .i64 a1_0, .int .i64 a1_1] 55 (0, 0)) (bk BK208) hg (Kd.R_ne HO216.out BK208.out (by decide))); replace BK209 := Aside0.mk (blk_grown (g := gb209) (o := .cells #[.slice none 0 0, .slice none 0 0] 35 (0, 0)) (bk BK209) hg (Kd.R_ne HO216.out BK209.out (by decide))); replace HO213 := Aside0.mk (Kd.R_after (v := (.slice (some ⟨go9, 0, none⟩) t214.length co30)) (v1 := (.slice (some ⟨go9, 0, none⟩) t214.length co30)) (ok := (fun _ => True)) (rk HO213) hg (.inl rfl)); replace BK217 := Aside0.mk (blk_grown (g := gb217) (o := .cells #[.slice Ao31 t211.length co31, .slice (some ⟨go9, 0, none⟩) t214.length co30] 35 (0, 0)) (bk BK217) hg (Kd.R_ne HO216.out BK217.out (by decide))); replace HO216 := Aside0.mk (hp_); replace HB := Aside0.mk ((by rw [hw]; exact below_set (HB.out) GB9.out : Below w.heap.size w w45)); clear hg hw hp_; have hcz46_0 := bc0 BK217; have hcz46_1 := bc1 BK217; have hfz46_0 := blk_frozen BK217.out 0; have hfz46_1 := blk_frozen BK217.out 1; have hcz47_0 := bc0 BK209; have hcz47_1 := bc1 BK209; have hfz47_0 := blk_frozen BK209.out 0; have hfz47_1 := blk_frozen BK209.out 1))
 refine bodyPost_ret (results_cell_row rfl _ _ gb209 35 #[.slice Ao31 t211.length co31, .slice (some ⟨go9, 0, none⟩) t214.length co30] (0, 0) _ rfl (by refine blk_put (cs := #[.slice Ao31 t211.length co31, .slice none 0 0]) ?_ 1 _ rfl; refine blk_put (cs := #[.slice none 0 0, .slice none 0 0]) ?_ 0 _ rfl; exact bk BK209) Try.underlying35 rfl (by kernel_rfl)) rfl ?_
 exact ⟨_, _, by first | rfl | (simp [errW_none, errW_some] <;> rfl) | (simp [*, errW_none, errW_some] <;> rfl), by exact Kd.R_mono (Kd.R_far (p := ⟨gb209, 1, none⟩) (Kd.R_far (p := ⟨gb209, 0, none⟩) (Kd.R_types HO213.out BK209.out (by decide)) (fun _ hk => hk.2) (.slice Ao31 t211.length co31)) (fun _ hk => hk.2) (.slice (some ⟨go9, 0, none⟩) t214.length co30)) (fun _ hk => hk.1.2), by exact Kd.R_mono (Kd.R_far (p := ⟨gb209, 1, none⟩) (Kd.R_far (p := ⟨gb209, 0, none⟩) (Kd.R_types HO216.out BK209.out (by decide)) (fun _ hk => hk.2) (.slice Ao31 t211.length co31)) (fun _ hk => hk.2) (.slice (some ⟨go9, 0, none⟩) t214.length co30)) (fun _ hk => hk.1), bw HB⟩
end Go.Proofs.Ytieioddimkafbaa.V
