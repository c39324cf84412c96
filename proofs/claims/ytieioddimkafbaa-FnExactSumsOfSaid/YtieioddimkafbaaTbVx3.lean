-- Functions of the program as plain functions, and that the calls come to them. Written by a program (ownprint.py); nothing here is trusted: Lean checks it.
import Derived.Test.YtieioddimkafbaaTbVx0
namespace Go.Proofs.Ytieioddimkafbaa.V
open Go.RowKit Go.Proofs.YtieioddimkafbaaW.PrintWords Go.Proofs.YtieioddimkafbaaW.PrintLast Go.Proofs.YtieioddimkafbaaW.PrintMore Go.Proofs.Ytieioddimkafbaa.Sq
attribute [local go_sem] max2_int min2_int max_two min_two max_three min_three max_four min_four   -- for this text's walks alone
set_option linter.unusedVariables false
set_option linter.unusedSimpArgs false
def impl_Vessels_room.f (l0_0 : List Int) (l0_1 : List Int) (a1 : Int) : Option (Int) := if 0 ≤ a1 then (if a1 < (l0_0.length : Int) then (if a1 < (l0_1.length : Int) then (some (wrap64 ((rd l0_0 a1) - (rd l0_1 a1)))) else (none)) else (none)) else (none)
set_option maxHeartbeats 8000000 in
set_option maxRecDepth 100000 in
theorem impl_Vessels_room.calls (A0_0 : Option Addr) (c0_0 : Nat) (l0_0 : List Int) (A0_1 : Option Addr) (c0_1 : Nat) (l0_1 : List Int) (a1 : Int) (r : Int) (w : World) (hr0_0 : Kd.C (Kd.int .i64) w A0_0 l0_0.length l0_0) (hc0_0 : l0_0.length ≤ c0_0) (hr0_1 : Kd.C (Kd.int .i64) w A0_1 l0_1.length l0_1) (hc0_1 : l0_1.length ≤ c0_1) (h : impl_Vessels_room.f l0_0 l0_1 a1 = some r) :
  Calls Try.prog 89 #[.agg #[.slice A0_0 l0_0.length c0_0, .slice A0_1 l0_1.length c0_1], .int .i64 a1] w fun e w' => e = .returned (.int .i64 r) ∧ Below w.heap.size w w' := by
 have hu35 := Try.underlying35
 have HR0_0 := Aside0.mk hr0_0
 have HC0_0 := Aside0.mk hc0_0
 clear hr0_0 hc0_0
 have HR0_1 := Aside0.mk hr0_1
 have HC0_1 := Aside0.mk hc0_1
 clear hr0_1 hc0_1
 have HB := Aside0.mk (Below.refl w.heap.size w)
 have H : (if 0 ≤ a1 then (if a1 < (l0_0.length : Int) then (if a1 < (l0_1.length : Int) then (some (wrap64 ((rd l0_0 a1) - (rd l0_1 a1)))) else (none)) else (none)) else (none)) = some r := h
 clear h
 by_cases c3 : 0 ≤ a1
 rotate_left
 ·rw [if_neg c3] at H
  exact absurd H (by simp)
 rw [if_pos c3] at H
 have c3b0 : decide (0 ≤ a1) = true := decide_eq_true c3
 clear c3
 by_cases c4 : a1 < (l0_0.length : Int)
 rotate_left
 ·rw [if_neg c4] at H
  exact absurd H (by simp)
 rw [if_pos c4] at H
 have c4b0 : decide (a1 < (l0_0.length : Int)) = true := decide_eq_true c4
 clear c4
 by_cases c5 : a1 < (l0_1.length : Int)
 rotate_left
 ·rw [if_neg c5] at H
  exact absurd H (by simp)
 rw [if_pos c5] at H
 have c5b0 : decide (a1 < (l0_1.length : Int)) = true := decide_eq_true c5
 clear c5
 obtain rfl := Option.some.inj H
 go_enter Try.func89, Try.ntmps89
 go_wp2_with (first | ((with_reducible refine gate_dst (N := 2) rfl ?_); refine bx 2 #[.slice A0_0 l0_0.length c0_0, .slice A0_1 l0_1.length c0_1] 35 ?_; intro gb231 hg w6 hbox hb; have BK231 := Aside0.mk (hbox); have GW231 := ge HB hg; have GE231 := ge HB hg; replace HB := bs HB hb; clear hb hbox hg; have hcz7_0 := bc0 BK231; have hcz7_1 := bc1 BK231; have hfz7_0 := blk_frozen BK231.out 0; have hfz7_1 := blk_frozen BK231.out 1; have p232 : 0 ≤ (a1 : Int) := of_decide_eq_true ‹_›; have q232 : a1 < (l0_0.length : Int) := of_decide_eq_true ‹_›; obtain ⟨ad232, e232, hx232_0⟩ := Kd.at_int HR0_0.out a1 p232 q232; cases e232; replace hx232_0 := (HB.out.cell (World.block_lt_of_cell? w _ hx232_0)).trans hx232_0; replace p232 := eq_true p232; replace q232 := eq_true q232; have p233 : 0 ≤ (a1 : Int) := of_decide_eq_true ‹_›; have q233 : a1 < (l0_1.length : Int) := of_decide_eq_true ‹_›; obtain ⟨ad233, e233, hx233_0⟩ := Kd.at_int HR0_1.out a1 p233 q233; cases e233; replace hx233_0 := (HB.out.cell (World.block_lt_of_cell? w _ hx233_0)).trans hx233_0; replace p233 := eq_true p233; replace q233 := eq_true q233))
 repeat (go_quiet (first | ((with_reducible refine gate_dst (N := 2) rfl ?_); refine bx 2 #[.slice A0_0 l0_0.length c0_0, .slice A0_1 l0_1.length c0_1] 35 ?_; intro gb231 hg w6 hbox hb; have n0_ := bs HB hb; have n1_ := Aside0.mk (hbox); have n2_ := ge HB hg; have n3_ := ge HB hg; clear HB; have HB := n0_; have BK231 := n1_; have GW231 := n2_; have GE231 := n3_; clear n0_ n1_ n2_ n3_; clear hb hbox hg; have hcz7_0 := bc0 BK231; have hcz7_1 := bc1 BK231; have hfz7_0 := blk_frozen BK231.out 0; have hfz7_1 := blk_frozen BK231.out 1; have p232 : 0 ≤ (a1 : Int) := of_decide_eq_true ‹_›; have q232 : a1 < (l0_0.length : Int) := of_decide_eq_true ‹_›; obtain ⟨ad232, e232, hx232_0⟩ := Kd.at_int HR0_0.out a1 p232 q232; cases e232; replace hx232_0 := (HB.out.cell (World.block_lt_of_cell? w _ hx232_0)).trans hx232_0; replace p232 := eq_true p232; replace q232 := eq_true q232; have p233 : 0 ≤ (a1 : Int) := of_decide_eq_true ‹_›; have q233 : a1 < (l0_1.length : Int) := of_decide_eq_true ‹_›; obtain ⟨ad233, e233, hx233_0⟩ := Kd.at_int HR0_1.out a1 p233 q233; cases e233; replace hx233_0 := (HB.out.cell (World.block_lt_of_cell? w _ hx233_0)).trans hx233_0; replace p233 := eq_true p233; replace q233 := eq_true q233)); try go_wp2_with (first | ((with_reducible refine gate_dst (N := 2) rfl ?_); refine bx 2 #[.slice A0_0 l0_0.length c0_0, .slice A0_1 l0_1.length c0_1] 35 ?_; intro gb231 hg w6 hbox hb; have n0_ := bs HB hb; have n1_ := Aside0.mk (hbox); have n2_ := ge HB hg; have n3_ := ge HB hg; clear HB; have HB := n0_; have BK231 := n1_; have GW231 := n2_; have GE231 := n3_; clear n0_ n1_ n2_ n3_; clear hb hbox hg; have hcz7_0 := bc0 BK231; have hcz7_1 := bc1 BK231; have hfz7_0 := blk_frozen BK231.out 0; have hfz7_1 := blk_frozen BK231.out 1; have p232 : 0 ≤ (a1 : Int) := of_decide_eq_true ‹_›; have q232 : a1 < (l0_0.length : Int) := of_decide_eq_true ‹_›; obtain ⟨ad232, e232, hx232_0⟩ := Kd.at_int HR0_0.out a1 p232 q232; cases e232; replace hx232_0 := (HB.out.cell (World.block_lt_of_cell? w _ hx232_0)).trans hx232_0; replace p232 := eq_true p232; replace q232 := eq_true q232; have p233 : 0 ≤ (a1 : Int) := of_decide_eq_true ‹_›; have q233 : a1 < (l0_1.length : Int) := of_decide_eq_true ‹_›; obtain ⟨ad233, e233, hx233_0⟩ := Kd.at_int HR0_1.out a1 p233 q233; cases e233; replace hx233_0 := (HB.out.cell (World.block_lt_of_cell? w _ hx233_0)).trans hx233_0; replace p233 := eq_true p233; replace q233 := eq_true q233)))
 go_ret
 exact ⟨by first | rfl | (simp [errW_none, errW_some] <;> rfl) | (simp [*, errW_none, errW_some] <;> rfl), bw HB⟩
def impl_Vessels_amount.f (l0_0 : List Int) (l0_1 : List Int) (a1_0 : Int) (a1_1 : Int) : Option (Int) := if a1_0 < 0 then ((impl_Vessels_room.f l0_0 l0_1 a1_1).bind fun t236 => (some t236)) else (if a1_1 < 0 then (if 0 ≤ a1_0 then (if a1_0 < (l0_1.length : Int) then (some (rd l0_1 a1_0)) else (none)) else (none)) else (if 0 ≤ a1_0 then (if a1_0 < (l0_1.length : Int) then ((impl_Vessels_room.f l0_0 l0_1 a1_1).bind fun t239 => (some (mn (rd l0_1 a1_0) t239))) else (none)) else (none)))
def impl_Vessels_amount.T5 : Bool × List (List Nat × List Nat) := (true, [([], []), ([0], [0]), ([], []), ([2], [2]), ([1, 3], [1, 3]), ([4], [4]), ([], []), ([], []), ([7], [7]), ([6, 8], [6, 8]), ([5, 9], [5, 9]), ([10, 9, 0, 1, 2, 3, 4, 5, 6, 7, 8, 9, 10], [10])])
def impl_Vessels_amount.B5 : List Nat := [0, 1, 0, 4, 15, 31, 0, 0, 128, 448, 1023, 2047]
theorem impl_Vessels_amount.tab5 : rtab .any (opsOf Try.f82 5) = impl_Vessels_amount.T5 := by kernel_rfl
theorem impl_Vessels_amount.bits5 : waitsOk impl_Vessels_amount.T5.2 impl_Vessels_amount.B5 = true := by kernel_rfl
set_option maxHeartbeats 8000000 in
set_option maxRecDepth 100000 in
theorem impl_Vessels_amount.calls (A0_0 : Option Addr) (c0_0 : Nat) (l0_0 : List Int) (A0_1 : Option Addr) (c0_1 : Nat) (l0_1 : List Int) (a1_0 : Int) (a1_1 : Int) (r : Int) (w : World) (hr0_0 : Kd.C (Kd.int .i64) w A0_0 l0_0.length l0_0) (hc0_0 : l0_0.length ≤ c0_0) (hr0_1 : Kd.C (Kd.int .i64) w A0_1 l0_1.length l0_1) (hc0_1 : l0_1.length ≤ c0_1) (h : impl_Vessels_amount.f l0_0 l0_1 a1_0 a1_1 = some r) :
  Calls Try.prog 82 #[.agg #[.slice A0_0 l0_0.length c0_0, .slice A0_1 l0_1.length c0_1], .agg #[.int .i64 a1_0, .int .i64 a1_1]] w fun e w' => e = .returned (.int .i64 r) ∧ Below w.heap.size w w' := by
 have hu35 := Try.underlying35
 have hu55 := Try.underlying55
 have HR0_0 := Aside0.mk hr0_0
 have HC0_0 := Aside0.mk hc0_0
 clear hr0_0 hc0_0
 have HR0_1 := Aside0.mk hr0_1
 have HC0_1 := Aside0.mk hc0_1
 clear hr0_1 hc0_1
 have HB := Aside0.mk (Below.refl w.heap.size w)
 have H : (if a1_0 < 0 then ((impl_Vessels_room.f l0_0 l0_1 a1_1).bind fun t236 => (some t236)) else (if a1_1 < 0 then (if 0 ≤ a1_0 then (if a1_0 < (l0_1.length : Int) then (some (rd l0_1 a1_0)) else (none)) else (none)) else (if 0 ≤ a1_0 then (if a1_0 < (l0_1.length : Int) then ((impl_Vessels_room.f l0_0 l0_1 a1_1).bind fun t239 => (some (mn (rd l0_1 a1_0) t239))) else (none)) else (none)))) = some r := h
 clear h
 by_cases c3 : a1_0 < 0
 ·rw [if_pos c3] at H
  have c3b0 : decide (a1_0 < 0) = true := decide_eq_true c3
  clear c3
  replace H := Option.bind_eq_some_iff.mp H
  obtain ⟨t236, A40, H⟩ := H
  (try dsimp only at H)
  have A4 := Aside0.mk A40
  clear A40
  obtain rfl := Option.some.inj H
  go_enter Try.func82, Try.ntmps82
  go_wp2_with (first | ((with_reducible refine gate_dst (N := 2) rfl ?_); refine bx 2 #[.slice A0_0 l0_0.length c0_0, .slice A0_1 l0_1.length c0_1] 35 ?_; intro gb234 hg w5 hbox hb; have BK234 := Aside0.mk (hbox); have GW234 := ge HB hg; have GE234 := ge HB hg; replace HB := bs HB hb; clear hb hbox hg) | ((with_reducible refine gate_dst (N := 3) rfl ?_); refine bx 3 #[.int .i64 a1_0, .int .i64 a1_1] 55 ?_; intro gb235 hg w6 hbox hb; have BK235 := Aside0.mk (hbox); have GW235 := ge HB hg; have GE235 := ge HB hg; replace HB := bs HB hb; have NB234_235 := nl BK234 hg; have NB235_234 := nr BK234 hg; replace BK234 := bb BK234 hb; clear hb hbox hg; have hnb7 := NB235_234.out; have hnc7 := NB234_235.out; have hcz8_0 := bc0 BK235; have hcz8_1 := bc1 BK235; have hfz8_0 := blk_frozen BK235.out 0; have hfz8_1 := blk_frozen BK235.out 1; have hcz9_0 := bc0 BK234; have hcz9_1 := bc1 BK234; have hfz9_0 := blk_frozen BK234.out 0; have hfz9_1 := blk_frozen BK234.out 1) | ((with_reducible refine gate_callee (f := 89) rfl ?_); refine gl 12 Try.func89 #[.agg #[.slice A0_0 l0_0.length c0_0, .slice A0_1 l0_1.length c0_1], .int .i64 a1_1] ?_; (with_reducible refine (impl_Vessels_room.calls _ _ l0_0 _ _ l0_1 a1_1 t236 _ ?side1 ?side2 ?side3 ?side4 A4.out).mono ?_); (case side1 => exact ck HR0_0 HB); (case side2 => exact HC0_0.out); (case side3 => exact ck HR0_1 HB); (case side4 => exact HC0_1.out); rintro e w10 ⟨rfl, hb⟩; refine ⟨_, rfl, ?_⟩; replace BK234 := bb BK234 hb; replace BK235 := bb BK235 hb; replace HB := bs HB hb; (try clear hb)))
  go_ret
  exact ⟨by first | rfl | (simp [errW_none, errW_some] <;> rfl) | (simp [*, errW_none, errW_some] <;> rfl), bw HB⟩
 rw [if_neg c3] at H
 have c3b0 : decide (a1_0 < 0) = false := decide_eq_false c3
 clear c3
 by_cases c11 : a1_1 < 0
 ·rw [if_pos c11] at H
  have c11b0 : decide (a1_1 < 0) = true := decide_eq_true c11
  clear c11
  by_cases c12 : 0 ≤ a1_0
  rotate_left
  ·rw [if_neg c12] at H
   exact absurd H (by simp)
  rw [if_pos c12] at H
  have c12b0 : decide (0 ≤ a1_0) = true := decide_eq_true c12
  clear c12
  by_cases c13 : a1_0 < (l0_1.length : Int)
  rotate_left
  ·rw [if_neg c13] at H
   exact absurd H (by simp)
  rw [if_pos c13] at H
  have c13b0 : decide (a1_0 < (l0_1.length : Int)) = true := decide_eq_true c13
  clear c13
  obtain rfl := Option.some.inj H
  go_enter Try.func82, Try.ntmps82
  go_wp2_with (first | ((with_reducible refine gate_dst (N := 2) rfl ?_); refine bx 2 #[.slice A0_0 l0_0.length c0_0, .slice A0_1 l0_1.length c0_1] 35 ?_; intro gb234 hg w14 hbox hb; have BK234 := Aside0.mk (hbox); have GW234 := ge HB hg; have GE234 := ge HB hg; replace HB := bs HB hb; clear hb hbox hg) | ((with_reducible refine gate_dst (N := 3) rfl ?_); refine bx 3 #[.int .i64 a1_0, .int .i64 a1_1] 55 ?_; intro gb235 hg w15 hbox hb; have BK235 := Aside0.mk (hbox); have GW235 := ge HB hg; have GE235 := ge HB hg; replace HB := bs HB hb; have NB234_235 := nl BK234 hg; have NB235_234 := nr BK234 hg; replace BK234 := bb BK234 hb; clear hb hbox hg; have hnb16 := NB235_234.out; have hnc16 := NB234_235.out; have hcz17_0 := bc0 BK235; have hcz17_1 := bc1 BK235; have hfz17_0 := blk_frozen BK235.out 0; have hfz17_1 := blk_frozen BK235.out 1; have hcz18_0 := bc0 BK234; have hcz18_1 := bc1 BK234; have hfz18_0 := blk_frozen BK234.out 0; have hfz18_1 := blk_frozen BK234.out 1; have p237 : 0 ≤ (a1_0 : Int) := of_decide_eq_true ‹_›; have q237 : a1_0 < (l0_1.length : Int) := of_decide_eq_true ‹_›; obtain ⟨ad237, e237, hx237_0⟩ := Kd.at_int HR0_1.out a1_0 p237 q237; cases e237; replace hx237_0 := (HB.out.cell (World.block_lt_of_cell? w _ hx237_0)).trans hx237_0; replace p237 := eq_true p237; replace q237 := eq_true q237))
  go_ret
  exact ⟨by first | rfl | (simp [errW_none, errW_some] <;> rfl) | (simp [*, errW_none, errW_some] <;> rfl), bw HB⟩
 rw [if_neg c11] at H
 have c11b0 : decide (a1_1 < 0) = false := decide_eq_false c11
 clear c11
 by_cases c19 : 0 ≤ a1_0
 rotate_left
 ·rw [if_neg c19] at H
  exact absurd H (by simp)
 rw [if_pos c19] at H
 have c19b0 : decide (0 ≤ a1_0) = true := decide_eq_true c19
 clear c19
 by_cases c20 : a1_0 < (l0_1.length : Int)
 rotate_left
 ·rw [if_neg c20] at H
  exact absurd H (by simp)
 rw [if_pos c20] at H
 have c20b0 : decide (a1_0 < (l0_1.length : Int)) = true := decide_eq_true c20
 clear c20
 replace H := Option.bind_eq_some_iff.mp H
 obtain ⟨t239, A210, H⟩ := H
 (try dsimp only at H)
 have A21 := Aside0.mk A210
 clear A210
 obtain ⟨ji22, hji22⟩ : ∃ j_ : Int, (mn (rd l0_1 a1_0) t239) = j_ := ⟨_, rfl⟩
 replace H : (some ji22) = some r := by first | (rw [hji22] at H; exact H) | (simp only [hji22] at H ⊢; exact H)
 (try rw [hji22] at A21)
 have hji22_ : (if t239 < (rd l0_1 a1_0) then t239 else (rd l0_1 a1_0)) = ji22 := hji22
 obtain rfl := Option.some.inj H
 go_enter Try.func82, Try.ntmps82
 try go_wp2_with (first | ((with_reducible refine gate_dst (N := 2) rfl ?_); refine bx 2 #[.slice A0_0 l0_0.length c0_0, .slice A0_1 l0_1.length c0_1] 35 ?_; intro gb234 hg w23 hbox hb; have BK234 := Aside0.mk (hbox); have GW234 := ge HB hg; have GE234 := ge HB hg; replace HB := bs HB hb; clear hb hbox hg) | ((with_reducible refine gate_dst (N := 3) rfl ?_); refine bx 3 #[.int .i64 a1_0, .int .i64 a1_1] 55 ?_; intro gb235 hg w24 hbox hb; have BK235 := Aside0.mk (hbox); have GW235 := ge HB hg; have GE235 := ge HB hg; replace HB := bs HB hb; have NB234_235 := nl BK234 hg; have NB235_234 := nr BK234 hg; replace BK234 := bb BK234 hb; clear hb hbox hg; have hnb25 := NB235_234.out; have hnc25 := NB234_235.out; have hcz26_0 := bc0 BK235; have hcz26_1 := bc1 BK235; have hfz26_0 := blk_frozen BK235.out 0; have hfz26_1 := blk_frozen BK235.out 1))
 replace BK234 := Aside0.mk (blk_drew BK234.out)
 replace BK235 := Aside0.mk (blk_drew BK235.out)
 replace HB := Aside0.mk (below_drew1 HB.out)
 have p238 : 0 ≤ (a1_0 : Int) := of_decide_eq_true ‹_›
 have q238 : a1_0 < (l0_1.length : Int) := of_decide_eq_true ‹_›
 obtain ⟨ad238, e238, hx238_0⟩ := Kd.at_int HR0_1.out a1_0 p238 q238
 have hw238_0 := hx238_0
 cases e238
 replace hx238_0 := (HB.out.cell (World.block_lt_of_cell? w _ hx238_0)).trans hx238_0
 replace p238 := eq_true p238
 replace q238 := eq_true q238
 refine start_ (n := 12) (S := fun w' => w'.cell? ⟨gb234, 0, none⟩ = some (.slice A0_0 l0_0.length c0_0) ∧ w'.cell? ⟨gb234, 1, none⟩ = some (.slice (some ad238) l0_1.length c0_1) ∧ w'.cell? ⟨gb235, 0, none⟩ = some (.int .i64 a1_0) ∧ w'.cell? ⟨gb235, 1, none⟩ = some (.int .i64 a1_1) ∧ w'.cell? (ad238.add (a1_0).toNat) = some (.int .i64 (rd l0_1 a1_0))) (ds := []) (bl 12 0) (by kernel_rfl) rfl rfl ⟨bc0 BK234, bc1 BK234, bc0 BK235, bc1 BK235, ((HB.out.cell (World.block_lt_of_cell? w _ hw238_0)).trans hw238_0)⟩ (fun hHeld => ?_); refine with_tabW impl_Vessels_amount.tab5 impl_Vessels_amount.bits5 (fun HT_ HW_ => ?_)
 generalize w24.drew = w27 at BK234 BK235 HB hx238_0 hHeld ⊢
 refine pu 0 23 (bl 12 1) HT_.out (v := ?_) (a' := ?_) ?_ ?_ ?_
 rotate_left; (intro w'; go_simp; with_reducible rfl); rotate_left; (simp only [sqa, sqb, sqc, sqd, i64_w, i32_w]; rfl)
 refine pu 2 25 (bl 12 5) HT_.out (v := ?_) (a' := ?_) ?_ ?_ ?_
 rotate_left; (intro w'; go_simp; with_reducible rfl); rotate_left; (simp only [sqa, sqb, sqc, sqd, i64_w, i32_w]; rfl)
 refine pu 7 30 (bl 12 133) HT_.out (v := ?_) (a' := ?_) ?_ ?_ ?_
 rotate_left; (intro w'; go_simp; with_reducible rfl); rotate_left; (simp only [sqa, sqb, sqc, sqd, i64_w, i32_w]; rfl)
 refine tk 1 24 (bl 12 135) HT_.out HW_.out hHeld (v := ?_) (a' := ?_) ?_ ?_ ?_
 rotate_left; (rintro w' ⟨s0, s1, s2, s3, s4⟩; go_simp; with_reducible rfl); rotate_left; (simp only [sqa, sqb, sqc, sqd, i64_w, i32_w]; rfl)
 refine tk 3 26 (bl 12 143) HT_.out HW_.out hHeld (v := ?_) (a' := ?_) ?_ ?_ ?_
 rotate_left; (rintro w' ⟨s0, s1, s2, s3, s4⟩; go_simp; with_reducible rfl); rotate_left; (simp only [sqa, sqb, sqc, sqd, i64_w, i32_w]; rfl)
 refine pu 4 27 (bl 12 159) HT_.out (v := ?_) (a' := ?_) ?_ ?_ ?_
 rotate_left; (intro w'; go_simp; with_reducible rfl); rotate_left; (simp only [sqa, sqb, sqc, sqd, i64_w, i32_w]; rfl)
 refine tk 5 28 (bl 12 191) HT_.out HW_.out hHeld (v := ?_) (a' := ?_) ?_ ?_ ?_
 rotate_left; (rintro w' ⟨s0, s1, s2, s3, s4⟩; go_simp; with_reducible rfl); rotate_left; (simp only [sqa, sqb, sqc, sqd, i64_w, i32_w]; rfl)
 refine tk 6 29 (bl 12 255) HT_.out HW_.out hHeld (v := ?_) (a' := ?_) ?_ ?_ ?_
 rotate_left; (rintro w' ⟨s0, s1, s2, s3, s4⟩; go_simp; with_reducible rfl); rotate_left; (simp only [sqa, sqb, sqc, sqd, i64_w, i32_w]; rfl)
 refine tk 8 31 (bl 12 511) HT_.out HW_.out hHeld (v := ?_) (a' := ?_) ?_ ?_ ?_
 rotate_left; (rintro w' ⟨s0, s1, s2, s3, s4⟩; go_simp; with_reducible rfl); rotate_left; (simp only [sqa, sqb, sqc, sqd, i64_w, i32_w]; rfl)
 refine on 9 32 (bl 12 1023) HT_.out (fun K hK => ?_)
 refine gs Try.func89 #[.agg #[.slice A0_0 l0_0.length c0_0, .slice (some ad238) l0_1.length c0_1], .int .i64 a1_1] ?_
 with_reducible refine (impl_Vessels_room.calls _ _ l0_0 _ _ l0_1 a1_1 t239 _ ?side1 ?side2 ?side3 ?side4 A21.out).mono ?_
 (case side1 => exact ck HR0_0 HB)
 (case side2 => exact HC0_0.out)
 (case side3 => exact ck HR0_1 HB)
 (case side4 => exact HC0_1.out)
 rintro e w28 ⟨rfl, hb⟩
 refine ⟨_, rfl, ?_⟩
 replace BK234 := bb BK234 hb
 replace BK235 := bb BK235 hb
 replace HB := bs HB hb
 (try clear hb); (try clear hb2); (try clear hk); (try clear hi)
 refine hK.out _ _ ⟨bc0 BK234, bc1 BK234, bc0 BK235, bc1 BK235, ((HB.out.cell (World.block_lt_of_cell? w _ hw238_0)).trans hw238_0)⟩ (fun hHeld => ?_)
 clear hK K
 refine norm_ (a' := ?_) ?_ ?_; rotate_left; (show Act.put _ (some 32) _ = _; simp only [sqa, sqb, sqc, sqd, i64_w, i32_w]; rfl)
 refine pu 10 33 (bl 12 2047) HT_.out (v := ?_) (a' := ?_) ?_ ?_ ?_
 rotate_left; (intro w'; go_simp; with_reducible rfl); rotate_left; (simp only [sqa, sqb, sqc, sqd, i64_w, i32_w]; rfl)
 refine pu 11 4 (bl 12 4095) HT_.out (v := ?_) (a' := ?_) ?_ ?_ ?_
 rotate_left; (intro w'; go_simp; with_reducible rfl); rotate_left; (simp only [sqa, sqb, sqc, sqd, i64_w, i32_w]; rfl)
 refine done_ (done_of HT_.out (by kernel_rfl)) ?_
 try go_wp2
 go_ret
 exact ⟨by first | rfl | (simp [errW_none, errW_some] <;> rfl) | (simp only [← hji22]; first | rfl | (simp [errW_none, errW_some] <;> rfl)) | (simp [*, errW_none, errW_some] <;> rfl), bw HB⟩
mutual
def impl_Vessels_moves.j0 : Nat → Int → List Int → List Int → Option ((List (S55)))
 | 0, _, _, _ => none
 | k + 1, x5, x241000, x241001 => impl_Vessels_moves.l0 k x5 (([] : List (S55))) x5 x241000 x241001
def impl_Vessels_moves.l0 : Nat → Int → List (S55) → Int → List Int → List Int → Option ((List (S55)))
 | 0, _, _, _, _, _ => none
 | k + 1, x5, x6, x7, x241000, x241001 => if x7 < (x241000.length : Int) then (impl_Vessels_moves.l1 k x5 x6 x7 x5 x241000 x241001) else (some x6)
def impl_Vessels_moves.l1 : Nat → Int → List (S55) → Int → Int → List Int → List Int → Option ((List (S55)))
 | 0, _, _, _, _, _, _ => none
 | k + 1, x5, x6, x7, x8, x241000, x241001 => if x8 < (x241000.length : Int) then (if x7 = x8 then (impl_Vessels_moves.l1 k x5 x6 x7 (wrap64 (x8 + 1)) x241000 x241001) else ((impl_Vessels_amount.f x241000 x241001 x7 x8).bind fun t245 => (if t245 > 0 then (if x6.length < 8796093022208 then (impl_Vessels_moves.l1 k x5 (x6 ++ [(⟨x7, x8⟩ : S55)]) x7 (wrap64 (x8 + 1)) x241000 x241001) else (none)) else (impl_Vessels_moves.l1 k x5 x6 x7 (wrap64 (x8 + 1)) x241000 x241001)))) else (impl_Vessels_moves.l0 k x5 x6 (wrap64 (x7 + 1)) x241000 x241001)
end
def impl_Vessels_moves.f (k : Nat) (l0_0 : List Int) (l0_1 : List Int) (a1 : Bool) : Option ((List (S55))) := if a1 = true then (impl_Vessels_moves.j0 k 0 l0_0 l0_1) else (impl_Vessels_moves.j0 k (-1) l0_0 l0_1)
set_option maxHeartbeats 8000000 in
set_option maxRecDepth 100000 in
theorem impl_Vessels_moves.calls (k : Nat) (A0_0 : Option Addr) (c0_0 : Nat) (l0_0 : List Int) (A0_1 : Option Addr) (c0_1 : Nat) (l0_1 : List Int) (a1 : Bool) (r : List (S55)) (w : World) (hr0_0 : Kd.C (Kd.int .i64) w A0_0 l0_0.length l0_0) (hc0_0 : l0_0.length ≤ c0_0) (hr0_1 : Kd.C (Kd.int .i64) w A0_1 l0_1.length l0_1) (hc0_1 : l0_1.length ≤ c0_1) (h : impl_Vessels_moves.f k l0_0 l0_1 a1 = some r) :
  Calls Try.prog 60 #[.agg #[.slice A0_0 l0_0.length c0_0, .slice A0_1 l0_1.length c0_1], .bool a1] w fun e w' => ∃ v0_ : Value, e = .returned (v0_) ∧ Kd.R k55 55 w' w.heap.size (fun _ => True) v0_ r ∧ Below w.heap.size w w' := by
 have hu35 := Try.underlying35
 have hu55 := Try.underlying55
 have HR0_0 := Aside0.mk hr0_0
 have HC0_0 := Aside0.mk hc0_0
 clear hr0_0 hc0_0
 have HR0_1 := Aside0.mk hr0_1
 have HC0_1 := Aside0.mk hc0_1
 clear hr0_1 hc0_1
 have HB := Aside0.mk (Below.refl w.heap.size w)
 have H : (if a1 = true then (impl_Vessels_moves.j0 k 0 l0_0 l0_1) else (impl_Vessels_moves.j0 k (-1) l0_0 l0_1)) = some r := h
 clear h
 have HC3 := Aside0.mk H
 clear H
 go_enter Try.func60, Try.ntmps60
 go_upto_if 10 with (first | ((with_reducible refine gate_dst (N := 2) rfl ?_); refine bx 2 #[.slice A0_0 l0_0.length c0_0, .slice A0_1 l0_1.length c0_1] 35 ?_; intro gb240 hg w4 hbox hb; have n0_ := bs HB hb; have n1_ := Aside0.mk (hbox); have n2_ := ge HB hg; have n3_ := ge HB hg; clear HB; have HB := n0_; have BK240 := n1_; have GW240 := n2_; have GE240 := n3_; clear n0_ n1_ n2_ n3_; clear hb hbox hg))
 (try simp only [Act.put, List.setIfInBounds_toArray, List.set_cons_zero, List.set_cons_succ])
 go_cut [5] (fun v5 wc => ∃ (kq : Nat) (x5_2 : Int), v5 = .int .i64 x5_2 ∧ Aside0 (impl_Vessels_moves.j0 kq x5_2 l0_0 l0_1 = some r) ∧ Aside0 (kq ≤ k) ∧ Aside0 (wc.heap[gb240]? = some (.cells #[(.slice A0_0 l0_0.length c0_0), (.slice A0_1 l0_1.length c0_1)] 35 (0, 0))) ∧ Aside0 (Below w.heap.size w wc))
 case first =>
  have H := HC3.out
  clear HC3
  by_cases c5 : a1 = true
  ·subst c5
   have H1 : (impl_Vessels_moves.j0 k 0 l0_0 l0_1) = some r := by rw [if_pos rfl] at H; exact H
   clear H
   have H := H1
   clear H1
   have H' := Aside0.mk H
   clear H
   go_wp2
   go_meet
   case rel => exact ⟨_, (0), (by first | rfl | (simp; done) | (simp [*]; done)), H', ⟨by first | omega | exact Nat.le_refl _⟩, ⟨bk BK240⟩, ⟨bw HB⟩⟩
  replace c5 := Bool.eq_false_iff.mpr c5
  subst c5
  have H1 : (impl_Vessels_moves.j0 k (-1) l0_0 l0_1) = some r := by rw [if_neg (show ¬ (false = true) by decide)] at H; exact H
  clear H
  have H := H1
  clear H1
  have H' := Aside0.mk H
  clear H
  go_wp2
  go_meet
  case rel => exact ⟨_, ((-1)), (by first | rfl | (simp; done) | (simp [*]; done)), H', ⟨by first | omega | exact Nat.le_refl _⟩, ⟨bk BK240⟩, ⟨bw HB⟩⟩
 case rest =>
  clear HC3
  try clear p2
  try clear c5
  obtain ⟨kq, x5_2, rfl, HA, HJ2, BK240, HB⟩ := hcut
  cases kq with
  | zero => exact absurd HA.out (by simp [impl_Vessels_moves.j0])
  | succ kj2 =>
   have H := HA.out
   clear HA
   simp only [impl_Vessels_moves.j0] at H
   obtain ⟨y241, hy241⟩ : ∃ y_ : List (S55), y_ = (([] : List (S55))) := ⟨_, rfl⟩
   replace H : (impl_Vessels_moves.l0 kj2 x5_2 y241 x5_2 l0_0 l0_1) = some r := by first | (rw [hy241]; with_reducible exact H) | (have H2_ := (Option.bind_some _ _).symm.trans H; rw [hy241]; with_reducible exact H2_) | (have H2_ := (Option.bind_some _ _).symm.trans H; with_reducible exact H2_) | with_reducible exact H | (rw [hy241]; exact H) | exact H
   have Ny241 := Aside0.mk hy241
   clear hy241
   have H' := Aside0.mk H
   clear H
   go_wp2_with (first | ((with_reducible refine gate_dst (N := 11) rfl ?_); refine Kd.R_lit k55 _ 55 ?hg (N := 11) ?hd (xs := ([] : List (S55))) (inner := []) (ok := fun _ => True) (okp := fun _ => True) ?hr ?hp (fun _ hk => hk) trivial (Below.refl _ _) (Nat.le_refl _) (by simp) ?_; (case hd => rfl); (case hg => rfl); (case hr => first | (go_simp; done) | (go_simp; rfl)); (case hp => exact (Reps.none _ _)); intro v242 w6 ho7 hb hg_ hnew_; clear hg_ hnew_; (first | rw [← Ny241.out] at ho7 | (simp only [Int.reduceToNat] at ho7; rw [← Ny241.out] at ho7)); have HO243 := lo ho7 HB; replace BK240 := bb BK240 hb; replace HB := bs HB hb; clear hb ho7))
   try simp only [Act.put, List.setIfInBounds_toArray, List.set_cons_zero, List.set_cons_succ]
   go_loopg [6, 7] kj2 (fun kq v6 v7 w' => ∃ (x6_2 : List (S55)) (x7_2 : Int), v7 = .int .i64 x7_2 ∧ Aside0 (impl_Vessels_moves.l0 kq x5_2 x6_2 x7_2 l0_0 l0_1 = some r) ∧ Aside0 (kq ≤ kj2) ∧ Aside0 (Kd.R k55 55 w' w.heap.size (fun _ => True) v6 x6_2) ∧ Aside0 (w'.heap[gb240]? = some (.cells #[(.slice A0_0 l0_0.length c0_0), (.slice A0_1 l0_1.length c0_1)] 35 (0, 0))) ∧ Aside0 (Below w.heap.size w w'))
   case atStart => exact ⟨(y241), (x5_2), (by first | rfl | (simp; done) | (simp [*]; done)), H', ⟨Nat.le_refl _⟩, ⟨rk HO243⟩, ⟨bk BK240⟩, ⟨bw HB⟩⟩
   case round =>
    clear H'
    try clear p2
    try clear c5
    try clear c6
    try clear p2
    obtain ⟨x6_2, x7_2, rfl, HA, HK2, HO_6, BK240, HB⟩ := hrel
    cases gk with
    | zero => exact absurd HA.out (by simp [impl_Vessels_moves.l0])
    | succ k2 =>
     have H := HA.out
     clear HA
     simp only [impl_Vessels_moves.l0] at H
     by_cases c8 : x7_2 < (l0_0.length : Int)
     rotate_left
     ·rw [if_neg c8] at H
      have c8b0 : decide (x7_2 < (l0_0.length : Int)) = false := decide_eq_false c8
      clear c8
      obtain rfl := Option.some.inj H
      have hcz34_0 := bc0 BK240
      have hcz34_1 := bc1 BK240
      have hfz34_0 := blk_frozen BK240.out 0
      have hfz34_1 := blk_frozen BK240.out 1
      go_wp2
      go_ret
      exact ⟨_, by first | rfl | (simp [errW_none, errW_some] <;> rfl) | (simp [*, errW_none, errW_some] <;> rfl), rk HO_6, bw HB⟩
     rw [if_pos c8] at H
     have c8b0 : decide (x7_2 < (l0_0.length : Int)) = true := decide_eq_true c8
     clear c8
     have H' := Aside0.mk H
     clear H
     have hcz9_0 := bc0 BK240
     have hcz9_1 := bc1 BK240
     have hfz9_0 := blk_frozen BK240.out 0
     have hfz9_1 := blk_frozen BK240.out 1
     go_wp2
     try simp only [Act.put, List.setIfInBounds_toArray, List.set_cons_zero, List.set_cons_succ]
     go_loopg [6, 8] k2 (fun kq v6 v8 w' => ∃ (x6_3 : List (S55)) (x8_3 : Int), v8 = .int .i64 x8_3 ∧ Aside0 (impl_Vessels_moves.l1 kq x5_2 x6_3 x7_2 x8_3 l0_0 l0_1 = some r) ∧ Aside0 (kq ≤ k2) ∧ Aside0 (Kd.R k55 55 w' w.heap.size (fun _ => True) v6 x6_3) ∧ Aside0 (w'.heap[gb240]? = some (.cells #[(.slice A0_0 l0_0.length c0_0), (.slice A0_1 l0_1.length c0_1)] 35 (0, 0))) ∧ Aside0 (Below w.heap.size w w'))
     case atStart => exact ⟨(x6_2), (x5_2), (by first | rfl | (simp; done) | (simp [*]; done)), H', ⟨Nat.le_refl _⟩, ⟨rk HO_6⟩, ⟨bk BK240⟩, ⟨bw HB⟩⟩
     case round =>
      clear H'
      try clear p2
      try clear c5
      try clear c6
      try clear c8
      try clear c8b0
      try clear hcz9_0
      try clear hcz9_1
      try clear hfz9_0
      try clear hfz9_1
      try clear p2
      obtain ⟨x6_3, x8_3, rfl, HA, HK3, HO_6, BK240, HB⟩ := hrel
      cases gk with
      | zero => exact absurd HA.out (by simp [impl_Vessels_moves.l1])
      | succ k3 =>
       have H := HA.out
       clear HA
       simp only [impl_Vessels_moves.l1] at H
       by_cases c10 : x8_3 < (l0_0.length : Int)
       rotate_left
       ·rw [if_neg c10] at H
        have c10b0 : decide (x8_3 < (l0_0.length : Int)) = false := decide_eq_false c10
        clear c10
        have H' := Aside0.mk H
        clear H
        have hcz33_0 := bc0 BK240
        have hcz33_1 := bc1 BK240
        have hfz33_0 := blk_frozen BK240.out 0
        have hfz33_1 := blk_frozen BK240.out 1
        go_wp2
        go_roundg k3
        case measure => have := HJ2.out; have := HK2.out; have := HK3.out; omega
        case rel => exact ⟨(x6_3), (wrap64 (x7_2 + 1)), (by first | rfl | (simp; done) | (simp [*]; done)), H', ⟨by have := HJ2.out; have := HK2.out; have := HK3.out; omega⟩, ⟨rk HO_6⟩, ⟨bk BK240⟩, ⟨bw HB⟩⟩
       rw [if_pos c10] at H
       have c10b0 : decide (x8_3 < (l0_0.length : Int)) = true := decide_eq_true c10
       clear c10
       by_cases c11 : x7_2 = x8_3
       ·rw [if_pos c11] at H
        have c11b0 : (x7_2 == x8_3) = true := beq_iff_eq.mpr c11
        have c11b1 : (x7_2 != x8_3) = false := bne_eq_false_iff_eq.mpr c11
        clear c11
        have H' := Aside0.mk H
        clear H
        have hcz12_0 := bc0 BK240
        have hcz12_1 := bc1 BK240
        have hfz12_0 := blk_frozen BK240.out 0
        have hfz12_1 := blk_frozen BK240.out 1
        go_wp2_with (first | ((with_reducible refine gate_dst (N := 9) rfl ?_); refine bx 9 #[.int .i64 0, .int .i64 0] 55 ?_; intro gb244 hg w13 hbox hb; replace HO_6 := Aside0.mk (Kd.R_below (Kd.R_elderB (rk HO_6) gb244 (Nat.le_of_eq hg.symm)) hb); have BK244 := Aside0.mk (hbox); have GW244 := ge HB hg; have GE244 := ge HB hg; replace HB := bs HB hb; have NB240_244 := nl BK240 hg; have NB244_240 := nr BK240 hg; replace BK240 := bb BK240 hb; clear hb hbox hg; have hnb14 := NB244_240.out; have hnc14 := NB240_244.out; have hcz15_0 := bc0 BK244; have hcz15_1 := bc1 BK244; have hfz15_0 := blk_frozen BK244.out 0; have hfz15_1 := blk_frozen BK244.out 1))
        go_roundg k3
        case measure => have := HJ2.out; have := HK2.out; have := HK3.out; omega
        case rel => exact ⟨(x6_3), (wrap64 (x8_3 + 1)), (by first | rfl | (simp; done) | (simp [*]; done)), H', ⟨by have := HJ2.out; have := HK2.out; have := HK3.out; omega⟩, ⟨by exact Kd.R_mono (Kd.R_far (p := ⟨gb244, 1, none⟩) (Kd.R_far (p := ⟨gb244, 0, none⟩) (Kd.R_mono HO_6.out (fun k_ hk => (⟨hk, hk.2⟩ : _ ∧ k_ ≠ gb244))) (fun _ hk => hk.2) (.int .i64 x7_2)) (fun _ hk => hk.2) (.int .i64 x8_3)) (fun _ hk => trivial)⟩, ⟨bk BK240⟩, ⟨bw HB⟩⟩
       rw [if_neg c11] at H
       have c11b0 : (x7_2 == x8_3) = false := beq_eq_false_iff_ne.mpr c11
       have c11b1 : (x7_2 != x8_3) = true := bne_iff_ne.mpr c11
       replace H := Option.bind_eq_some_iff.mp H
       obtain ⟨t245, A160, H⟩ := H
       (try dsimp only at H)
       have A16 := Aside0.mk A160
       clear A160
       by_cases c17 : t245 > 0
       rotate_left
       ·rw [if_neg c17] at H
        have c17b0 : decide (0 < t245) = false := decide_eq_false c17
        clear c17
        have H' := Aside0.mk H
        clear H
        have hcz27_0 := bc0 BK240
        have hcz27_1 := bc1 BK240
        have hfz27_0 := blk_frozen BK240.out 0
        have hfz27_1 := blk_frozen BK240.out 1
        go_wp2_with (first | ((with_reducible refine gate_dst (N := 9) rfl ?_); refine bx 9 #[.int .i64 0, .int .i64 0] 55 ?_; intro gb244 hg w28 hbox hb; replace HO_6 := Aside0.mk (Kd.R_below (Kd.R_elderB (rk HO_6) gb244 (Nat.le_of_eq hg.symm)) hb); have BK244 := Aside0.mk (hbox); have GW244 := ge HB hg; have GE244 := ge HB hg; replace HB := bs HB hb; have NB240_244 := nl BK240 hg; have NB244_240 := nr BK240 hg; replace BK240 := bb BK240 hb; clear hb hbox hg; have hnb29 := NB244_240.out; have hnc29 := NB240_244.out; have hcz30_0 := bc0 BK244; have hcz30_1 := bc1 BK244; have hfz30_0 := blk_frozen BK244.out 0; have hfz30_1 := blk_frozen BK244.out 1; have hcz31_0 := bc0 BK240; have hcz31_1 := bc1 BK240; have hfz31_0 := blk_frozen BK240.out 0; have hfz31_1 := blk_frozen BK240.out 1) | (go_at_call 82; (with_reducible refine (impl_Vessels_amount.calls _ _ l0_0 _ _ l0_1 x7_2 x8_3 t245 _ ?side1 ?side2 ?side3 ?side4 A16.out).mono ?_); (case side1 => exact Kd.C_below HR0_0.out (bw HB)); (case side2 => exact HC0_0.out); (case side3 => exact Kd.C_below HR0_1.out (bw HB)); (case side4 => exact HC0_1.out); rintro e w32 ⟨rfl, hb⟩; replace HO_6 := Aside0.mk (Kd.R_below (by exact (Kd.R_mono (Kd.R_far (p := ⟨gb244, 1, none⟩) (Kd.R_far (p := ⟨gb244, 0, none⟩) (Kd.R_mono HO_6.out (fun k_ hk => (⟨hk, hk.2⟩ : _ ∧ k_ ≠ gb244))) (fun _ hk => hk.2) (.int .i64 x7_2)) (fun _ hk => hk.2) (.int .i64 x8_3)) (fun _ h_ => h_.1))) hb); replace BK240 := bb BK240 hb; replace BK244 := Aside0.mk (blk_below (g := gb244) (o := .cells #[.int .i64 x7_2, .int .i64 x8_3] 55 (0, 0)) (by refine blk_put (cs := #[.int .i64 x7_2, .int .i64 0]) ?_ 1 _ rfl; refine blk_put (cs := #[.int .i64 0, .int .i64 0]) ?_ 0 _ rfl; exact bk BK244) hb); replace HB := bs HB hb; (try clear hb)))
        go_roundg k3
        case measure => have := HJ2.out; have := HK2.out; have := HK3.out; omega
        case rel => exact ⟨(x6_3), (wrap64 (x8_3 + 1)), (by first | rfl | (simp; done) | (simp [*]; done)), H', ⟨by have := HJ2.out; have := HK2.out; have := HK3.out; omega⟩, ⟨by exact Kd.R_mono HO_6.out (fun _ hk => trivial)⟩, ⟨bk BK240⟩, ⟨bw HB⟩⟩
       rw [if_pos c17] at H
       have c17b0 : decide (0 < t245) = true := decide_eq_true c17
       clear c17
       by_cases c18 : x6_3.length < 8796093022208
       rotate_left
       ·rw [if_neg c18] at H
        exact absurd H (by simp)
       rw [if_pos c18] at H
       have LMc18 := Aside0.mk c18
       clear c18
       obtain ⟨y246, hy246⟩ : ∃ y_ : List (S55), y_ = (x6_3 ++ [(⟨x7_2, x8_3⟩ : S55)]) := ⟨_, rfl⟩
       replace H : (impl_Vessels_moves.l1 k3 x5_2 y246 x7_2 (wrap64 (x8_3 + 1)) l0_0 l0_1) = some r := by first | (rw [hy246]; with_reducible exact H) | (have H2_ := (Option.bind_some _ _).symm.trans H; rw [hy246]; with_reducible exact H2_) | (have H2_ := (Option.bind_some _ _).symm.trans H; with_reducible exact H2_) | with_reducible exact H | (rw [hy246]; exact H) | exact H
       have Ny246 := Aside0.mk hy246
       clear hy246
       have H' := Aside0.mk H
       clear H
       have hcz19_0 := bc0 BK240
       have hcz19_1 := bc1 BK240
       have hfz19_0 := blk_frozen BK240.out 0
       have hfz19_1 := blk_frozen BK240.out 1
       go_wp2_with (first | ((with_reducible refine gate_dst (N := 9) rfl ?_); refine bx 9 #[.int .i64 0, .int .i64 0] 55 ?_; intro gb244 hg w20 hbox hb; replace HO_6 := Aside0.mk (Kd.R_below (Kd.R_elderB (rk HO_6) gb244 (Nat.le_of_eq hg.symm)) hb); have BK244 := Aside0.mk (hbox); have GW244 := ge HB hg; have GE244 := ge HB hg; replace HB := bs HB hb; have NB240_244 := nl BK240 hg; have NB244_240 := nr BK240 hg; replace BK240 := bb BK240 hb; clear hb hbox hg; have hnb21 := NB244_240.out; have hnc21 := NB240_244.out; have hcz22_0 := bc0 BK244; have hcz22_1 := bc1 BK244; have hfz22_0 := blk_frozen BK244.out 0; have hfz22_1 := blk_frozen BK244.out 1; have hcz23_0 := bc0 BK240; have hcz23_1 := bc1 BK240; have hfz23_0 := blk_frozen BK240.out 0; have hfz23_1 := blk_frozen BK240.out 1) | (go_at_call 82; (with_reducible refine (impl_Vessels_amount.calls _ _ l0_0 _ _ l0_1 x7_2 x8_3 t245 _ ?side1 ?side2 ?side3 ?side4 A16.out).mono ?_); (case side1 => exact Kd.C_below HR0_0.out (bw HB)); (case side2 => exact HC0_0.out); (case side3 => exact Kd.C_below HR0_1.out (bw HB)); (case side4 => exact HC0_1.out); rintro e w24 ⟨rfl, hb⟩; replace HO_6 := Aside0.mk (Kd.R_below (by exact (Kd.R_mono (Kd.R_far (p := ⟨gb244, 1, none⟩) (Kd.R_far (p := ⟨gb244, 0, none⟩) (Kd.R_mono HO_6.out (fun k_ hk => (⟨hk, hk.2⟩ : _ ∧ k_ ≠ gb244))) (fun _ hk => hk.2) (.int .i64 x7_2)) (fun _ hk => hk.2) (.int .i64 x8_3)) (fun _ h_ => h_.1))) hb); replace BK240 := bb BK240 hb; replace BK244 := Aside0.mk (blk_below (g := gb244) (o := .cells #[.int .i64 x7_2, .int .i64 x8_3] 55 (0, 0)) (by refine blk_put (cs := #[.int .i64 x7_2, .int .i64 0]) ?_ 1 _ rfl; refine blk_put (cs := #[.int .i64 0, .int .i64 0]) ?_ 0 _ rfl; exact bk BK244) hb); replace HB := bs HB hb; (try clear hb); have hcz25_0 := bc0 BK244; have hcz25_1 := bc1 BK244; have hfz25_0 := blk_frozen BK244.out 0; have hfz25_1 := blk_frozen BK244.out 1) | ((with_reducible refine gate_builtin (b := .append) (xs := #[.tmp 40, .tmp 42]) rfl ?_); at_builtin; refine Kd.R_append k55 (w0 := w) w.heap.size rfl (.tmp 40) (.tmp 42) 25 55 (.agg #[(.int .i64 0), (.int .i64 0)]) 16 rfl Try.underlying25 info55 rfl (by decide) (by omega) u6 x6_3 (⟨x7_2, x8_3⟩ : S55) [.int .i64 x7_2, .int .i64 x8_3] (fun k_ => k_ ≠ gb244) (fun _ => False) rfl rfl ?aP (fun _ hk => hk.elim) ?aF ?aO ?aB ?aS ?aL ?_; (case aP => exact k55_mkM _ _ _ (⟨x7_2, x8_3⟩ : S55)); (case aB => exact (bw HB)); (case aF => exact (fun k_ hk => Kd.freshB (g := gb244) (o := .cells #[.int .i64 x7_2, .int .i64 x8_3] 55 (0, 0)) (bk BK244) k_ hk)); (case aO => exact (by exact Kd.R_mono HO_6.out (fun _ hk => hk.2))); (case aS => exact (below_size (bw HB))); (case aL => have := LMc18.out; omega); intro v247 w26 ho hb hg hat; rw [← Ny246.out] at ho; have n0_ := Aside0.mk (blk_grown (g := gb240) (o := .cells #[.slice A0_0 l0_0.length c0_0, .slice A0_1 l0_1.length c0_1] 35 (0, 0)) (bk BK240) hg (Kd.R_ne HO_6.out BK240.out (by decide))); have n1_ := Aside0.mk (blk_grown (g := gb244) (o := .cells #[.int .i64 x7_2, .int .i64 x8_3] 55 (0, 0)) (bk BK244) hg (Kd.R_away HO_6.out (fun _ hk => hk.2))); have n2_ := Aside0.mk (hb); have n3_ := Aside0.mk (ho); clear BK240; clear BK244; clear HB; clear HO_6; have BK240 := n0_; have BK244 := n1_; have HB := n2_; have HO248 := n3_; clear n0_ n1_ n2_ n3_; clear ho hb hg hat))
       go_roundg k3
       case measure => have := HJ2.out; have := HK2.out; have := HK3.out; omega
       case rel => exact ⟨(y246), (wrap64 (x8_3 + 1)), (by first | rfl | (simp; done) | (simp [*]; done)), H', ⟨by have := HJ2.out; have := HK2.out; have := HK3.out; omega⟩, ⟨by exact Kd.R_mono HO248.out (fun _ hk => trivial)⟩, ⟨bk BK240⟩, ⟨bw HB⟩⟩
def slices_Clone_int_int.f (l0 : List Int) : Option (List Int) := if l0.length < 17592186044416 then some l0 else none
set_option maxHeartbeats 8000000 in
set_option maxRecDepth 100000 in
theorem slices_Clone_int_int.calls (A0 : Option Addr) (c0 : Nat) (l0 : List Int) (r : List Int) (w : World) (hr0 : Kd.C (Kd.int .i64) w A0 l0.length l0) (hc0 : l0.length ≤ c0) (h : slices_Clone_int_int.f l0 = some r) :
  Calls Try.prog 87 #[.slice A0 l0.length c0] w fun e w' => ∃ v0_ : Value, e = .returned (v0_) ∧ Kd.R (Kd.int .i64) 3 w' w.heap.size (fun _ => True) v0_ r ∧ Below w.heap.size w w' := by
 unfold slices_Clone_int_int.f at h
 by_cases c2 : l0.length < 17592186044416
 rotate_left
 ·rw [if_neg c2] at h
  exact absurd h (by simp)
 rw [if_pos c2] at h
 obtain rfl := Option.some.inj h
 clear h
 have LMc2 := Aside0.mk c2
 have HR0 := Aside0.mk hr0
 have HB := Aside0.mk (Below.refl w.heap.size w)
 cases A0 with
 | none =>
  have hl : l0 = [] := by
   cases l0 with
   | nil => rfl
   | cons x t => obtain ⟨ad, hd, _⟩ := hr0.2.2 (by simp); cases hd
  subst hl
  clear hr0 hc0 c2
  have hq := fun (W : World) (n : Nat) => Go.Lib.run_eql_slice_nil (P := Try.prog) W 30 3 none n c0 0 0 Try.underlying30
  simp only [Option.isNone_none] at hq
  go_enter Try.func87, Try.ntmps87
  go_wp2
  go_ret
  exact ⟨.slice none 0 0, rfl, Kd.R_nil _ _ _ _ _, HB.out⟩
 | some ad =>
  clear hr0 hc0 c2
  have hq := fun (W : World) (n : Nat) => Go.Lib.run_eql_slice_nil (P := Try.prog) W 30 3 (some ad) n c0 0 0 Try.underlying30
  simp only [Option.isNone_some] at hq
  obtain ⟨y159, hy159⟩ : ∃ y_ : List Int, y_ = ([] : List Int) := ⟨_, rfl⟩
  obtain ⟨y162, hy162⟩ : ∃ y_ : List Int, y_ = y159 ++ l0 := ⟨_, rfl⟩
  have hyl : Aside0 (y162 = l0) := ⟨by rw [hy162, hy159, List.nil_append]⟩
  have LM := Aside0.mk (show y159.length + l0.length < 17592186044416 by rw [hy159]; simpa using LMc2.out)
  have Ny159 := Aside0.mk hy159
  have Ny162 := Aside0.mk hy162
  clear hy159 hy162
  go_enter Try.func87, Try.ntmps87
  go_wp2_with (first | ((with_reducible refine gate_dst (N := 5) rfl ?_); refine Kd.R_lit (Kd.int .i64) _ 3 ?hg (N := 5) ?hd (xs := ([] : List Int)) (inner := []) (ok := fun _ => True) (okp := fun _ => True) ?hr ?hp (fun _ hk => hk) trivial (Below.refl _ _) (Nat.le_refl _) (by simp) ?_; (case hd => rfl); (case hg => rfl); (case hr => first | (go_simp; done) | (go_simp; rfl)); (case hp => exact (Reps.none _ _)); intro v160 w3 ho4 hb hg_ hnew_; clear hg_ hnew_; (first | rw [← Ny159.out] at ho4 | (simp only [Int.reduceToNat] at ho4; rw [← Ny159.out] at ho4)); have HO161 := lo ho4 HB; replace HB := bs HB hb; clear hb ho4) | ((with_reducible refine gate_builtin (b := .append) (xs := #[.tmp 5, .tmp 6]) rfl ?_); at_builtin; refine Kd.R_append_rows (Kd.int .i64) (w0 := w) w.heap.size rfl (.tmp 5) (.tmp 6) 30 3 (.int .i64 0) 8 rfl Try.underlying30 info3 rfl (by decide) (by omega) v160 y159 l0 _ _ _ (fun _ => True) (fun _ => False) rfl rfl ?aO ?aR (fun _ _ h => h) (fun _ h => h.elim) ?aF ?aB ?aS ?aL ?_; (case aR => exact ck HR0 HB); (case aB => exact (bw HB)); (case aF => exact (fun _ _ => trivial)); (case aO => exact (rk HO161)); (case aS => exact (below_size (bw HB))); (case aL => have := LM.out; omega); intro v163 w5 ho hb hg hat; rw [← Ny162.out] at ho; have n0_ := Aside0.mk (hb); have n1_ := Aside0.mk (ho); clear HB; clear HO161; have HB := n0_; have HO164 := n1_; clear n0_ n1_; clear ho hb hg hat))
  go_ret
  exact ⟨_, rfl, by rw [← hyl.out]; exact HO164.out, HB.out⟩
def impl_Vessels_own.f (l0_0 : List Int) (l0_1 : List Int) : Option (List Int × List Int) := (slices_Clone_int_int.f l0_0).bind fun t254 => ((slices_Clone_int_int.f l0_1).bind fun t257 => (some (t254, t257)))
def impl_Vessels_own.T1 : Bool × List (List Nat × List Nat) := (true, [([], []), ([0], [0]), ([1], [1]), ([], []), ([3], [3]), ([4, 2], [4]), ([2, 5], [2, 5]), ([6, 5, 0, 1, 2, 3, 4, 5, 6], [6])])
def impl_Vessels_own.B1 : List Nat := [0, 1, 3, 0, 8, 31, 63, 127]
theorem impl_Vessels_own.tab1 : rtab .any (opsOf Try.f71 1) = impl_Vessels_own.T1 := by kernel_rfl
theorem impl_Vessels_own.bits1 : waitsOk impl_Vessels_own.T1.2 impl_Vessels_own.B1 = true := by kernel_rfl
set_option maxHeartbeats 8000000 in
set_option maxRecDepth 100000 in
theorem impl_Vessels_own.calls (A0_0 : Option Addr) (c0_0 : Nat) (l0_0 : List Int) (A0_1 : Option Addr) (c0_1 : Nat) (l0_1 : List Int) (r1 : List Int) (r2 : List Int) (w : World) (hr0_0 : Kd.C (Kd.int .i64) w A0_0 l0_0.length l0_0) (hc0_0 : l0_0.length ≤ c0_0) (hr0_1 : Kd.C (Kd.int .i64) w A0_1 l0_1.length l0_1) (hc0_1 : l0_1.length ≤ c0_1) (h : impl_Vessels_own.f l0_0 l0_1 = some (r1, r2)) :
  Calls Try.prog 71 #[.agg #[.slice A0_0 l0_0.length c0_0, .slice A0_1 l0_1.length c0_1]] w fun e w' => ∃ v0_ v1_ : Value, e = .returned (.agg #[v0_, v1_]) ∧ Kd.R (Kd.int .i64) 3 w' w.heap.size (fun k_ => some k_ ≠ (v1_ : Value).ownBlock) v0_ r1 ∧ Kd.R (Kd.int .i64) 3 w' w.heap.size (fun k_ => some k_ ≠ (v0_ : Value).ownBlock) v1_ r2 ∧ Below w.heap.size w w' := by
 have hu35 := Try.underlying35
 have HR0_0 := Aside0.mk hr0_0
 have HC0_0 := Aside0.mk hc0_0
 clear hr0_0 hc0_0
 have HR0_1 := Aside0.mk hr0_1
 have HC0_1 := Aside0.mk hc0_1
 clear hr0_1 hc0_1
 have HB := Aside0.mk (Below.refl w.heap.size w)
 have H : ((slices_Clone_int_int.f l0_0).bind fun t254 => ((slices_Clone_int_int.f l0_1).bind fun t257 => (some (t254, t257)))) = some (r1, r2) := h
 clear h
 replace H := Option.bind_eq_some_iff.mp H
 obtain ⟨t254, A20, H⟩ := H
 (try dsimp only at H)
 have A2 := Aside0.mk A20
 clear A20
 replace H := Option.bind_eq_some_iff.mp H
 obtain ⟨t257, A30, H⟩ := H
 (try dsimp only at H)
 have A3 := Aside0.mk A30
 clear A30
 simp only [Option.some.injEq, Prod.mk.injEq] at H
 obtain ⟨rfl, rfl⟩ := H
 go_enter Try.func71, Try.ntmps71
 try go_wp2_with (first | ((with_reducible refine gate_dst (N := 1) rfl ?_); refine bx 1 #[.slice A0_0 l0_0.length c0_0, .slice A0_1 l0_1.length c0_1] 35 ?_; intro gb252 hg w4 hbox hb; have BK252 := Aside0.mk (hbox); have GW252 := ge HB hg; have GE252 := ge HB hg; replace HB := bs HB hb; clear hb hbox hg) | ((with_reducible refine gate_dst (N := 2) rfl ?_); refine bx 2 #[.slice none 0 0, .slice none 0 0] 35 ?_; intro gb253 hg w5 hbox hb; have BK253 := Aside0.mk (hbox); have GW253 := ge HB hg; have GE253 := ge HB hg; replace HB := bs HB hb; have NB252_253 := nl BK252 hg; have NB253_252 := nr BK252 hg; replace BK252 := bb BK252 hb; clear hb hbox hg))
 replace BK252 := Aside0.mk (blk_drew BK252.out)
 replace BK253 := Aside0.mk (blk_drew BK253.out)
 replace HB := Aside0.mk (below_drew1 HB.out)
 refine start_ (n := 8) (S := fun w' => w'.cell? ⟨gb252, 0, none⟩ = some (.slice A0_0 l0_0.length c0_0) ∧ w'.cell? ⟨gb252, 1, none⟩ = some (.slice A0_1 l0_1.length c0_1)) (ds := []) (bl 8 0) (by kernel_rfl) rfl rfl ⟨bc0 BK252, bc1 BK252⟩ (fun hHeld => ?_); refine with_tabW impl_Vessels_own.tab1 impl_Vessels_own.bits1 (fun HT_ HW_ => ?_)
 generalize w5.drew = w6 at BK252 BK253 HB hHeld ⊢
 refine pu 0 3 (bl 8 1) HT_.out (v := ?_) (a' := ?_) ?_ ?_ ?_
 rotate_left; (intro w'; go_simp; with_reducible rfl); rotate_left; (simp only [sqa, sqb, sqc, sqd, i64_w, i32_w]; rfl)
 refine pu 3 6 (bl 8 9) HT_.out (v := ?_) (a' := ?_) ?_ ?_ ?_
 rotate_left; (intro w'; go_simp; with_reducible rfl); rotate_left; (simp only [sqa, sqb, sqc, sqd, i64_w, i32_w]; rfl)
 refine tk 1 4 (bl 8 11) HT_.out HW_.out hHeld (v := ?_) (a' := ?_) ?_ ?_ ?_
 rotate_left; (rintro w' ⟨s0, s1⟩; go_simp; with_reducible rfl); rotate_left; (simp only [sqa, sqb, sqc, sqd, i64_w, i32_w]; rfl)
 refine tk 4 7 (bl 8 27) HT_.out HW_.out hHeld (v := ?_) (a' := ?_) ?_ ?_ ?_
 rotate_left; (rintro w' ⟨s0, s1⟩; go_simp; with_reducible rfl); rotate_left; (simp only [sqa, sqb, sqc, sqd, i64_w, i32_w]; rfl)
 refine on 2 5 (bl 8 31) HT_.out (fun K hK => ?_)
 refine gs Try.func87 #[.slice A0_0 l0_0.length c0_0] ?_
 with_reducible refine (slices_Clone_int_int.calls _ _ l0_0 t254 _ ?side1 ?side2 A2.out).mono ?_
 (case side1 => exact ck HR0_0 HB)
 (case side2 => exact HC0_0.out)
 rintro e w7 ⟨v255, rfl, ho0, hb⟩
 refine ⟨_, rfl, ?_⟩
 have HO256 := lo ho0 HB
 replace BK252 := bb BK252 hb
 replace BK253 := bb BK253 hb
 replace HB := bs HB hb
 (try clear hb); (try clear hb2); (try clear hk); (try clear hi); (try clear ho0)
 refine hK.out _ _ ⟨bc0 BK252, bc1 BK252⟩ (fun hHeld => ?_)
 clear hK K
 refine norm_ (a' := ?_) ?_ ?_; rotate_left; (show Act.put _ (some 5) _ = _; simp only [sqa, sqb, sqc, sqd, i64_w, i32_w]; rfl)
 refine on 5 8 (bl 8 63) HT_.out (fun K hK => ?_)
 refine gs Try.func87 #[.slice A0_1 l0_1.length c0_1] ?_
 with_reducible refine (slices_Clone_int_int.calls _ _ l0_1 t257 _ ?side1 ?side2 A3.out).mono ?_
 (case side1 => exact ck HR0_1 HB)
 (case side2 => exact HC0_1.out)
 rintro e w8 ⟨v258, rfl, ho0, hb⟩
 refine ⟨_, rfl, ?_⟩
 have HO259 := Aside0.mk (Kd.R_lower (Kd.R_new' ho0 (Kd.R_lt (rk HO256))) (below_size (bw HB)))
 replace HO256 := Aside0.mk (Kd.R_elder' (rk HO256) (Kd.R_base ho0) hb)
 replace BK252 := bb BK252 hb
 replace BK253 := bb BK253 hb
 replace HB := bs HB hb
 (try clear hb); (try clear hb2); (try clear hk); (try clear hi); (try clear ho0)
 obtain ⟨Ao9, co9, eo9⟩ := Kd.R_slice HO259.out
 (first | subst eo9 | (injection eo9 with f1_ f2_ f3_; have f4_ := f1_.symm; have f5_ := f3_.symm; clear f1_ f2_ f3_; subst f4_; subst f5_))
 obtain ⟨Ao10, co10, eo10⟩ := Kd.R_slice HO256.out
 (first | subst eo10 | (injection eo10 with f1_ f2_ f3_; have f4_ := f1_.symm; have f5_ := f3_.symm; clear f1_ f2_ f3_; subst f4_; subst f5_))
 refine hK.out _ _ ⟨bc0 BK252, bc1 BK252⟩ (fun hHeld => ?_)
 clear hK K
 refine norm_ (a' := ?_) ?_ ?_; rotate_left; (show Act.put _ (some 8) _ = _; simp only [sqa, sqb, sqc, sqd, i64_w, i32_w]; rfl)
 refine pu 6 9 (bl 8 127) HT_.out (v := ?_) (a' := ?_) ?_ ?_ ?_
 rotate_left; (intro w'; go_simp; with_reducible rfl); rotate_left; (simp only [sqa, sqb, sqc, sqd, i64_w, i32_w]; rfl)
 refine one_ (i := 7) (N := none) (bl 8 255) rfl rfl (one_of HT_.out (by kernel_rfl)) (by decide) (fun K hK => ?_)
 have hs11 : w8.cell? ⟨gb253, 0, none⟩ = some (.slice none 0 0) := bc0 BK253
 have hfs11 := blk_frozen BK253.out 0
 have hns11_0 := NB252_253.out
 have hms11_0 := NB253_252.out
 have hs12 : w8.cell? ⟨gb253, 1, none⟩ = some (.slice none 0 0) := bc1 BK253
 have hfs12 := blk_frozen BK253.out 1
 have hns12_0 := NB252_253.out
 have hms12_0 := NB253_252.out
 refine skip_ (w1 := ?_) (by rfl) rfl ?_ ?_
 rotate_left
 ·go_simp
  rfl
 refine hK.out _ _ ⟨((cell_far (p := ⟨gb253, _, none⟩) NB252_253.out _).trans (((cell_far (p := ⟨gb253, _, none⟩) NB252_253.out _).trans (hHeld.1)))), ((cell_far (p := ⟨gb253, _, none⟩) NB252_253.out _).trans (((cell_far (p := ⟨gb253, _, none⟩) NB252_253.out _).trans (hHeld.2))))⟩ (fun hHeld => ?_)
 clear hK K
 refine done_ (done_of HT_.out (by kernel_rfl)) ?_
 try go_wp2
 refine bodyPost_ret (results_cell_row rfl _ _ gb253 35 #[.slice Ao10 t254.length co10, .slice Ao9 t257.length co9] (0, 0) _ rfl (by refine blk_put (cs := #[.slice Ao10 t254.length co10, .slice none 0 0]) ?_ 1 _ rfl; refine blk_put (cs := #[.slice none 0 0, .slice none 0 0]) ?_ 0 _ rfl; exact bk BK253) Try.underlying35 rfl (by kernel_rfl)) rfl ?_
 exact ⟨_, _, by first | rfl | (simp [errW_none, errW_some] <;> rfl) | (simp [*, errW_none, errW_some] <;> rfl), by exact Kd.R_mono (Kd.R_far (p := ⟨gb253, 1, none⟩) (Kd.R_far (p := ⟨gb253, 0, none⟩) (Kd.R_types HO256.out BK253.out (by decide)) (fun _ hk => hk.2) (.slice Ao10 t254.length co10)) (fun _ hk => hk.2) (.slice Ao9 t257.length co9)) (fun _ hk => hk.1.2), by exact Kd.R_mono (Kd.R_far (p := ⟨gb253, 1, none⟩) (Kd.R_far (p := ⟨gb253, 0, none⟩) (Kd.R_types HO259.out BK253.out (by decide)) (fun _ hk => hk.2) (.slice Ao10 t254.length co10)) (fun _ hk => hk.2) (.slice Ao9 t257.length co9)) (fun _ hk => hk.1.2), bw HB⟩
end Go.Proofs.Ytieioddimkafbaa.V
