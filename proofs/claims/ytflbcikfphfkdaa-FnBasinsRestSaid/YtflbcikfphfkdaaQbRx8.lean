-- Functions of the program as plain functions, and that the calls come to them. Written by a program (ownprint.py); nothing here is trusted: Lean checks it.
import Derived.Test.YtflbcikfphfkdaaQbRx0
import Derived.Test.YtflbcikfphfkdaaQbRx1
import Derived.Test.YtflbcikfphfkdaaQbRx2
import Derived.Test.YtflbcikfphfkdaaQbRx4
import Derived.Test.YtflbcikfphfkdaaQbRx5
namespace Go.Proofs.Ytflbcikfphfkdaa.R
open Go.RowKit Go.Proofs.YtflbcikfphfkdaaW.PrintWords Go.Proofs.YtflbcikfphfkdaaW.PrintLast Go.Proofs.YtflbcikfphfkdaaW.PrintMore Go.Proofs.Ytflbcikfphfkdaa.Sq
attribute [local go_sem] max2_int min2_int max_two min_two max_three min_three max_four min_four   -- for this text's walks alone
set_option linter.unusedVariables false
set_option linter.unusedSimpArgs false
attribute [local go_sem high] eqA30
def spec_DrawIsRow.f (k : Nat) (l0 : List Int) : Option ((List (S30))) := (spec_l1Cur_row.f k l0 0 0 4).bind fun bt724 => (some bt724.1)
theorem spec_DrawIsRow.mono : ∀ a0 k, LeO (spec_DrawIsRow.f k a0) (spec_DrawIsRow.f (k + 1) a0) := by
 intro a0 k
 unfold spec_DrawIsRow.f
 repeat' first
   | (with_reducible exact spec_l1Cur_row.mono _ _ _ _ _)
   | (with_reducible exact LeO.refl _)
   | (with_reducible exact LeO.none _)
   | (with_reducible refine LeO.ite ?_ ?_)
   | (with_reducible refine LeO.bind ?_ (fun _ => ?_))
   | exact spec_l1Cur_row.mono _ _ _ _ _
   | exact LeO.none _
   | refine LeO.ite ?_ ?_
   | refine LeO.bind ?_ (fun _ => ?_)
set_option maxHeartbeats 8000000 in
set_option maxRecDepth 100000 in
theorem spec_DrawIsRow.calls (k : Nat) (A0 : Option Addr) (c0 : Nat) (l0 : List Int) (r : List (S30)) (w : World) (hr0 : Kd.C (Kd.int .u8) w A0 l0.length l0) (hc0 : l0.length ≤ c0) (h : spec_DrawIsRow.f k l0 = some r) :
  Calls Try.prog 48 #[.slice A0 l0.length c0] w fun e w' => ∃ v0_ : Value, e = .returned (v0_) ∧ Kd.R k30 30 w' w.heap.size (fun _ => True) v0_ r ∧ Below w.heap.size w w' := by
 have hu83 := Try.underlying83
 have HR0 := Aside0.mk hr0
 have HC0 := Aside0.mk hc0
 clear hr0 hc0
 have HB := Aside0.mk (Below.refl w.heap.size w)
 have H : ((spec_l1Cur_row.f k l0 0 0 4).bind fun bt724 => (some bt724.1)) = some r := h
 clear h
 replace H := Option.bind_eq_some_iff.mp H
 obtain ⟨⟨t724, t727, t728⟩, A20, H⟩ := H
 (try dsimp only at H)
 have A2 := Aside0.mk A20
 clear A20
 obtain rfl := Option.some.inj H
 go_enter Try.func48, Try.ntmps48
 go_wp2_with (first | ((with_reducible refine gate_dst (N := 6) rfl ?_); refine bx 6 #[.slice A0 l0.length c0, .int .i64 0, .int .u64 0] 83 ?_; intro gb723 hg w3 hbox hb; have HI723 := Aside0.mk ((⟨_, _, hbox, (by rw [hg]; exact (below_size (bw HB)) : w.heap.size ≤ gb723), HR0.out⟩ : IsS83 w _ gb723 l0 0 0)); replace HB := bs HB hb; clear hb hbox hg) | ((with_reducible refine gate_callee (f := 67) rfl ?_); refine gl 8 Try.func67 #[.pointer (some ⟨gb723, 0, none⟩), .int .i64 4] ?_; (with_reducible refine (spec_l1Cur_row.calls k gb723 l0 0 0 4 t724 t727 t728 w _ ?side1 ?side2 A2.out).mono ?_); (case side1 => repeat (first | (with_reducible first | exact HI723.out | apply IsS83.alloc | apply IsS83.drewN | apply IsS83.drew | apply IsS83.set_1 | apply IsS83.set_2) | exact HI723.out)); (case side2 => repeat (first | (with_reducible first | exact HB.out | apply below_alloc | apply pw_below_drewN | apply below_drew1 | refine below_set ?_ (IsS83.ge HI723.out)) | exact HB.out)); rintro e w4 ⟨v725, rfl, ho0, hi, hb, hk⟩; refine ⟨_, rfl, ?_⟩; have HO726 := Aside0.mk (Kd.R_lower ho0 (below_size (by repeat (first | (with_reducible first | exact HB.out | apply below_alloc | apply pw_below_drewN | apply below_drew1 | refine below_set ?_ (IsS83.ge HI723.out)) | exact HB.out)))); replace HB := Aside0.mk (hb); replace HI723 := Aside0.mk (hi); (try clear hb); (try clear hk); (try clear hi); (try clear ho0)))
 go_ret
 exact ⟨_, by first | rfl | (simp [errW_none, errW_some] <;> rfl) | (simp [*, errW_none, errW_some] <;> rfl), rk HO726, by repeat (first | (with_reducible first | exact HB.out | apply below_alloc | apply pw_below_drewN | apply below_drew1 | refine below_set ?_ (IsS83.ge HI723.out)) | exact HB.out)⟩
def spec_DrawTicksToEmpty.f (k : Nat) (l0 : List Int) : Option ((List (S30))) := (spec_DrawIsRow.f k l0).bind fun t729 => (some t729)
theorem spec_DrawTicksToEmpty.mono : ∀ a0 k, LeO (spec_DrawTicksToEmpty.f k a0) (spec_DrawTicksToEmpty.f (k + 1) a0) := by
 intro a0 k
 unfold spec_DrawTicksToEmpty.f
 repeat' first
   | (with_reducible exact spec_DrawIsRow.mono _ _)
   | (with_reducible exact LeO.refl _)
   | (with_reducible exact LeO.none _)
   | (with_reducible refine LeO.ite ?_ ?_)
   | (with_reducible refine LeO.bind ?_ (fun _ => ?_))
   | exact spec_DrawIsRow.mono _ _
   | exact LeO.none _
   | refine LeO.ite ?_ ?_
   | refine LeO.bind ?_ (fun _ => ?_)
set_option maxHeartbeats 8000000 in
set_option maxRecDepth 100000 in
theorem spec_DrawTicksToEmpty.calls (k : Nat) (A0 : Option Addr) (c0 : Nat) (l0 : List Int) (r : List (S30)) (w : World) (hr0 : Kd.C (Kd.int .u8) w A0 l0.length l0) (hc0 : l0.length ≤ c0) (h : spec_DrawTicksToEmpty.f k l0 = some r) :
  Calls Try.prog 6 #[.slice A0 l0.length c0] w fun e w' => ∃ v0_ : Value, e = .returned (v0_) ∧ Kd.R k30 30 w' w.heap.size (fun _ => True) v0_ r ∧ Below w.heap.size w w' := by
 have HR0 := Aside0.mk hr0
 have HC0 := Aside0.mk hc0
 clear hr0 hc0
 have HB := Aside0.mk (Below.refl w.heap.size w)
 have H : ((spec_DrawIsRow.f k l0).bind fun t729 => (some t729)) = some r := h
 clear h
 replace H := Option.bind_eq_some_iff.mp H
 obtain ⟨t729, A20, H⟩ := H
 (try dsimp only at H)
 have A2 := Aside0.mk A20
 clear A20
 obtain rfl := Option.some.inj H
 go_enter Try.func6, Try.ntmps6
 go_wp2_with (first | ((with_reducible refine gate_callee (f := 48) rfl ?_); refine gl 4 Try.func48 #[.slice A0 l0.length c0] ?_; (with_reducible refine (spec_DrawIsRow.calls k _ _ l0 t729 _ ?side1 ?side2 A2.out).mono ?_); (case side1 => repeat (first | exact HR0.out | (with_reducible refine Kd.C_alloc ?_ _) | (with_reducible refine Kd.C_drewN ?_ _) | (with_reducible refine Kd.C_drew ?_))); (case side2 => exact HC0.out); rintro e w3 ⟨v730, rfl, ho0, hb⟩; refine ⟨_, rfl, ?_⟩; have HO731 := lo ho0 HB; replace HB := bs HB hb; (try clear hb); (try clear ho0)))
 go_ret
 exact ⟨_, by first | rfl | (simp [errW_none, errW_some] <;> rfl) | (simp [*, errW_none, errW_some] <;> rfl), rk HO731, bw HB⟩
mutual
def impl_TicksToEmpty.l0 : Nat → List (S30) → Bool → List (S30) → Int → Int → Option (Int × Bool)
 | 0, _, _, _, _, _ => none
 | k + 1, x0, x4, x11, x12, x13 => if x13 < x12 then (if 0 ≤ x13 then (if x13 < (x11.length : Int) then (if x4 = true then (if ((rd_T30 x11 x13).f1) = 0 then (some (0, false)) else (impl_TicksToEmpty.l0 k x0 true x11 x12 (wrap64 (x13 + 1)))) else (if ((rd_T30 x11 x13).f2) > 0 then (if ((rd_T30 x11 x13).f1) = 0 then (some (0, false)) else (impl_TicksToEmpty.l0 k x0 (decide (((rd_T30 x11 x13).f2) > 0)) x11 x12 (wrap64 (x13 + 1)))) else (impl_TicksToEmpty.l0 k x0 (decide (((rd_T30 x11 x13).f2) > 0)) x11 x12 (wrap64 (x13 + 1))))) else (none)) else (none)) else (impl_TicksToEmpty.l1 k x0 0)
def impl_TicksToEmpty.l1 : Nat → List (S30) → Int → Option (Int × Bool)
 | 0, _, _ => none
 | k + 1, x0, x7 => (impl_heldIn.f k x0).bind fun t735 => (if t735 > 0 then ((impl_tickRow.f k x0 0).bind fun bt736 => (impl_TicksToEmpty.l1 k bt736.1 (wrap64 (x7 + 1)))) else (some (x7, true)))
end
def impl_TicksToEmpty.f (k : Nat) (l0 : List (S30)) : Option (Int × Bool) := (impl_IsRow.f l0).bind fun t732 => (if t732 = true then (impl_TicksToEmpty.l0 k l0 false l0 (l0.length : Int) 0) else (some (0, false)))
set_option maxHeartbeats 8000000 in
set_option maxRecDepth 100000 in
theorem impl_TicksToEmpty.calls (k : Nat) (P0_ : Nat → Prop) (A0 : Option Addr) (c0 : Nat) (l0 : List (S30)) (r1 : Int) (r2 : Bool) (w : World) (hs0 : Kd.V k30 30 w w.heap.size (fun k_ => P0_ k_) (.slice A0 l0.length c0) l0) (h : impl_TicksToEmpty.f k l0 = some (r1, r2)) :
  Calls Try.prog 7 #[.slice A0 l0.length c0] w fun e w' => e = .returned (.tuple #[.int .i64 r1, .bool r2]) ∧ Below w.heap.size w w' := by
 have hu30 := Try.underlying30
 have HO0 := Aside0.mk (show Kd.V k30 30 w w.heap.size (fun k_ => (P0_ k_ ∨ w.heap.size ≤ k_)) (.slice A0 l0.length c0) l0 from Kd.V_mono hs0 (fun k_ hk => .inl hk))
 have HB := Aside0.mk (Below.refl w.heap.size w)
 have H : ((impl_IsRow.f l0).bind fun t732 => (if t732 = true then (impl_TicksToEmpty.l0 k l0 false l0 (l0.length : Int) 0) else (some (0, false)))) = some (r1, r2) := h
 clear h
 replace H := Option.bind_eq_some_iff.mp H
 obtain ⟨t732, A20, H⟩ := H
 (try dsimp only at H)
 have A2 := Aside0.mk A20
 clear A20
 by_cases c3 : t732 = true
 rotate_left
 ·replace c3 := Bool.eq_false_iff.mpr c3
  subst c3
  have H1 : (some (0, false)) = some (r1, r2) := by rw [if_neg (show ¬ (false = true) by decide)] at H; exact H
  clear H
  have H := H1
  clear H1
  simp only [Option.some.injEq, Prod.mk.injEq] at H
  obtain ⟨rfl, rfl⟩ := H
  go_enter Try.func7, Try.ntmps7
  go_wp2_with (first | ((with_reducible refine gate_callee (f := 11) rfl ?_); refine gl 9 Try.func11 #[.slice A0 l0.length c0] ?_; (with_reducible refine (impl_IsRow.calls _ _ l0 false _ ?side1 ?side2 A2.out).mono ?_); (case side1 => repeat (first | exact (Kd.V_reads' HO0.out).2.2 | (with_reducible refine Kd.C_alloc ?_ _) | (with_reducible refine Kd.C_drewN ?_ _) | (with_reducible refine Kd.C_drew ?_))); (case side2 => exact (Kd.V_reads' HO0.out).2.1); rintro e w30 ⟨rfl, hb⟩; refine ⟨_, rfl, ?_⟩; replace HO0 := Aside0.mk (Kd.V_below HO0.out hb); replace HB := bs HB hb; (try clear hb)))
  go_ret2
  exact ⟨by first | rfl | (simp [errW_none, errW_some] <;> rfl) | (simp [*, errW_none, errW_some] <;> rfl), bw HB⟩
 subst c3
 have H1 : (impl_TicksToEmpty.l0 k l0 false l0 (l0.length : Int) 0) = some (r1, r2) := by rw [if_pos rfl] at H; exact H
 clear H
 have H := H1
 clear H1
 have H' := Aside0.mk H
 clear H
 go_enter Try.func7, Try.ntmps7
 go_wp2_with (first | ((with_reducible refine gate_callee (f := 11) rfl ?_); refine gl 9 Try.func11 #[.slice A0 l0.length c0] ?_; (with_reducible refine (impl_IsRow.calls _ _ l0 true _ ?side1 ?side2 A2.out).mono ?_); (case side1 => repeat (first | exact (Kd.V_reads' HO0.out).2.2 | (with_reducible refine Kd.C_alloc ?_ _) | (with_reducible refine Kd.C_drewN ?_ _) | (with_reducible refine Kd.C_drew ?_))); (case side2 => exact (Kd.V_reads' HO0.out).2.1); rintro e w4 ⟨rfl, hb⟩; refine ⟨_, rfl, ?_⟩; replace HO0 := Aside0.mk (Kd.V_below HO0.out hb); replace HB := bs HB hb; (try clear hb)))
 try simp only [Act.put, List.setIfInBounds_toArray, List.set_cons_zero, List.set_cons_succ]
 go_loopg [4, 13] k (fun kq v4 v13 w' => ∃ (x4_1 : Bool) (x13_1 : Int), v4 = .bool x4_1 ∧ v13 = .int .i64 x13_1 ∧ Aside0 (impl_TicksToEmpty.l0 kq l0 x4_1 l0 (l0.length : Int) x13_1 = some (r1, r2)) ∧ Aside0 (kq ≤ k) ∧ Aside0 (Kd.V k30 30 w' w.heap.size (fun k_ => (P0_ k_ ∨ w.heap.size ≤ k_)) (.slice A0 l0.length c0) l0) ∧ Aside0 (Kd.V k30 30 w' w.heap.size (fun k_ => (P0_ k_ ∨ w.heap.size ≤ k_)) (.slice A0 l0.length c0) l0) ∧ Aside0 (Below w.heap.size w w'))
 case atStart => exact ⟨(false), (0), (by first | rfl | (simp; done) | (simp [*]; done)), (by first | rfl | (simp; done) | (simp [*]; done)), H', ⟨Nat.le_refl _⟩, ⟨by exact HO0.out⟩, ⟨by exact HO0.out⟩, ⟨bw HB⟩⟩
 case round =>
  clear H'
  (try clear c1); (try clear p2); (try clear c3)
  obtain ⟨x4_1, x13_1, rfl, rfl, HA, HK1, HO_0, HO_11, HB⟩ := hrel
  cases gk with
  | zero => exact absurd HA.out (by simp [impl_TicksToEmpty.l0])
  | succ k1 =>
   have H := HA.out
   clear HA
   simp only [impl_TicksToEmpty.l0] at H
   by_cases c5 : x13_1 < (l0.length : Int)
   ·rw [if_pos c5] at H
    have c5b0 : decide (x13_1 < (l0.length : Int)) = true := decide_eq_true c5
    clear c5
    by_cases c6 : 0 ≤ x13_1
    rotate_left
    ·rw [if_neg c6] at H
     exact absurd H (by simp)
    rw [if_pos c6] at H
    have c6b0 : decide (0 ≤ x13_1) = true := decide_eq_true c6
    clear c6
    by_cases c7 : x13_1 < (l0.length : Int)
    rotate_left
    ·rw [if_neg c7] at H
     exact absurd H (by simp)
    rw [if_pos c7] at H
    have c7b0 : decide (x13_1 < (l0.length : Int)) = true := decide_eq_true c7
    clear c7
    by_cases c8 : x4_1 = true
    ·subst c8
     have H1 : (if ((rd_T30 l0 x13_1).f1) = 0 then (some (0, false)) else (impl_TicksToEmpty.l0 k1 l0 true l0 (l0.length : Int) (wrap64 (x13_1 + 1)))) = some (r1, r2) := by rw [if_pos rfl] at H; exact H
     clear H
     have H := H1
     clear H1
     by_cases c9 : ((rd_T30 l0 x13_1).f1) = 0
     rotate_left
     ·rw [if_neg c9] at H
      have c9b0 : (((rd_T30 l0 x13_1).f1) == 0) = false := beq_eq_false_iff_ne.mpr c9
      have c9b1 : (((rd_T30 l0 x13_1).f1) != 0) = true := bne_iff_ne.mpr c9
      have H' := Aside0.mk H
      clear H
      have p733 : 0 ≤ (x13_1 : Int) := of_decide_eq_true ‹_›
      have q733 : x13_1 < (l0.length : Int) := of_decide_eq_true ‹_›
      obtain ⟨ad733, e733, hx733_0, hx733_1, hx733_2⟩ := at_T30 (Kd.V_reads' HO_11.out).2.2 x13_1 p733 q733
      cases e733
      replace p733 := eq_true p733
      replace q733 := eq_true q733
      go_wp2_with (first | ((with_reducible refine gate_dst (N := 6) rfl ?_); refine bx 6 #[.int .i64 0, .int .i64 0, .int .i64 0] 30 ?_; intro gb734 hg w12 hbox hb; replace HO_0 := Aside0.mk (Kd.V_below (Kd.V_elderB HO_0.out gb734 (Nat.le_of_eq hg.symm)) hb); replace HO_11 := Aside0.mk (Kd.V_below (Kd.V_elderB HO_11.out gb734 (Nat.le_of_eq hg.symm)) hb); have BK734 := Aside0.mk (hbox); have GW734 := ge HB hg; have GE734 := ge HB hg; replace HB := bs HB hb; clear hb hbox hg; have hcz13_0 := bc0 BK734; have hcz13_1 := bc1 BK734; have hcz13_2 := bc2 BK734; have hfz13_0 := blk_frozen BK734.out 0; have hfz13_1 := blk_frozen BK734.out 1; have hfz13_2 := blk_frozen BK734.out 2))
      go_roundg k1
      case measure => have := HK1.out; omega
      case rel => exact ⟨(true), (wrap64 (x13_1 + 1)), (by first | rfl | (simp; done) | (simp [*]; done)), (by first | rfl | (simp; done) | (simp [*]; done)), H', ⟨by have := HK1.out; omega⟩, ⟨by exact Kd.V_mono (Kd.V_far (p := ⟨gb734, 2, none⟩) (Kd.V_far (p := ⟨gb734, 1, none⟩) (Kd.V_far (p := ⟨gb734, 0, none⟩) (Kd.V_mono HO_0.out (fun k_ hk => (⟨hk, hk.2⟩ : _ ∧ k_ ≠ gb734))) (fun _ hk => hk.2) (.int .i64 ((rd_T30 l0 x13_1).f0))) (fun _ hk => hk.2) (.int .i64 ((rd_T30 l0 x13_1).f1))) (fun _ hk => hk.2) (.int .i64 ((rd_T30 l0 x13_1).f2))) (fun _ hk => hk.1.1)⟩, ⟨by exact Kd.V_mono (Kd.V_far (p := ⟨gb734, 2, none⟩) (Kd.V_far (p := ⟨gb734, 1, none⟩) (Kd.V_far (p := ⟨gb734, 0, none⟩) (Kd.V_mono HO_11.out (fun k_ hk => (⟨hk, hk.2⟩ : _ ∧ k_ ≠ gb734))) (fun _ hk => hk.2) (.int .i64 ((rd_T30 l0 x13_1).f0))) (fun _ hk => hk.2) (.int .i64 ((rd_T30 l0 x13_1).f1))) (fun _ hk => hk.2) (.int .i64 ((rd_T30 l0 x13_1).f2))) (fun _ hk => hk.1.1)⟩, ⟨bw HB⟩⟩
     rw [if_pos c9] at H
     have c9b0 : (((rd_T30 l0 x13_1).f1) == 0) = true := beq_iff_eq.mpr c9
     have c9b1 : (((rd_T30 l0 x13_1).f1) != 0) = false := bne_eq_false_iff_eq.mpr c9
     clear c9
     simp only [Option.some.injEq, Prod.mk.injEq] at H
     obtain ⟨rfl, rfl⟩ := H
     have p733 : 0 ≤ (x13_1 : Int) := of_decide_eq_true ‹_›
     have q733 : x13_1 < (l0.length : Int) := of_decide_eq_true ‹_›
     obtain ⟨ad733, e733, hx733_0, hx733_1, hx733_2⟩ := at_T30 (Kd.V_reads' HO_11.out).2.2 x13_1 p733 q733
     cases e733
     replace p733 := eq_true p733
     replace q733 := eq_true q733
     go_wp2_with (first | ((with_reducible refine gate_dst (N := 6) rfl ?_); refine bx 6 #[.int .i64 0, .int .i64 0, .int .i64 0] 30 ?_; intro gb734 hg w10 hbox hb; replace HO_0 := Aside0.mk (Kd.V_below (Kd.V_elderB HO_0.out gb734 (Nat.le_of_eq hg.symm)) hb); replace HO_11 := Aside0.mk (Kd.V_below (Kd.V_elderB HO_11.out gb734 (Nat.le_of_eq hg.symm)) hb); have BK734 := Aside0.mk (hbox); have GW734 := ge HB hg; have GE734 := ge HB hg; replace HB := bs HB hb; clear hb hbox hg; have hcz11_0 := bc0 BK734; have hcz11_1 := bc1 BK734; have hcz11_2 := bc2 BK734; have hfz11_0 := blk_frozen BK734.out 0; have hfz11_1 := blk_frozen BK734.out 1; have hfz11_2 := blk_frozen BK734.out 2))
     go_ret2
     exact ⟨by first | rfl | (simp [errW_none, errW_some] <;> rfl) | (simp [*, errW_none, errW_some] <;> rfl), bw HB⟩
    replace c8 := Bool.eq_false_iff.mpr c8
    subst c8
    have H1 : (if ((rd_T30 l0 x13_1).f2) > 0 then (if ((rd_T30 l0 x13_1).f1) = 0 then (some (0, false)) else (impl_TicksToEmpty.l0 k1 l0 (decide (((rd_T30 l0 x13_1).f2) > 0)) l0 (l0.length : Int) (wrap64 (x13_1 + 1)))) else (impl_TicksToEmpty.l0 k1 l0 (decide (((rd_T30 l0 x13_1).f2) > 0)) l0 (l0.length : Int) (wrap64 (x13_1 + 1)))) = some (r1, r2) := by rw [if_neg (show ¬ (false = true) by decide)] at H; exact H
    clear H
    have H := H1
    clear H1
    by_cases c14 : ((rd_T30 l0 x13_1).f2) > 0
    rotate_left
    ·rw [if_neg c14] at H
     have c14b0 : decide (0 < ((rd_T30 l0 x13_1).f2)) = false := decide_eq_false c14
     clear c14
     have H' := Aside0.mk H
     clear H
     have p733 : 0 ≤ (x13_1 : Int) := of_decide_eq_true ‹_›
     have q733 : x13_1 < (l0.length : Int) := of_decide_eq_true ‹_›
     obtain ⟨ad733, e733, hx733_0, hx733_1, hx733_2⟩ := at_T30 (Kd.V_reads' HO_11.out).2.2 x13_1 p733 q733
     cases e733
     replace p733 := eq_true p733
     replace q733 := eq_true q733
     go_wp2_with (first | ((with_reducible refine gate_dst (N := 6) rfl ?_); refine bx 6 #[.int .i64 0, .int .i64 0, .int .i64 0] 30 ?_; intro gb734 hg w20 hbox hb; replace HO_0 := Aside0.mk (Kd.V_below (Kd.V_elderB HO_0.out gb734 (Nat.le_of_eq hg.symm)) hb); replace HO_11 := Aside0.mk (Kd.V_below (Kd.V_elderB HO_11.out gb734 (Nat.le_of_eq hg.symm)) hb); have BK734 := Aside0.mk (hbox); have GW734 := ge HB hg; have GE734 := ge HB hg; replace HB := bs HB hb; clear hb hbox hg; have hcz21_0 := bc0 BK734; have hcz21_1 := bc1 BK734; have hcz21_2 := bc2 BK734; have hfz21_0 := blk_frozen BK734.out 0; have hfz21_1 := blk_frozen BK734.out 1; have hfz21_2 := blk_frozen BK734.out 2))
     go_roundg k1
     case measure => have := HK1.out; omega
     case rel => exact ⟨(decide (((rd_T30 l0 x13_1).f2) > 0)), (wrap64 (x13_1 + 1)), (by first | rfl | (simp; done) | (simp [*]; done)), (by first | rfl | (simp; done) | (simp [*]; done)), H', ⟨by have := HK1.out; omega⟩, ⟨by exact Kd.V_mono (Kd.V_far (p := ⟨gb734, 2, none⟩) (Kd.V_far (p := ⟨gb734, 1, none⟩) (Kd.V_far (p := ⟨gb734, 0, none⟩) (Kd.V_mono HO_0.out (fun k_ hk => (⟨hk, hk.2⟩ : _ ∧ k_ ≠ gb734))) (fun _ hk => hk.2) (.int .i64 ((rd_T30 l0 x13_1).f0))) (fun _ hk => hk.2) (.int .i64 ((rd_T30 l0 x13_1).f1))) (fun _ hk => hk.2) (.int .i64 ((rd_T30 l0 x13_1).f2))) (fun _ hk => hk.1.1)⟩, ⟨by exact Kd.V_mono (Kd.V_far (p := ⟨gb734, 2, none⟩) (Kd.V_far (p := ⟨gb734, 1, none⟩) (Kd.V_far (p := ⟨gb734, 0, none⟩) (Kd.V_mono HO_11.out (fun k_ hk => (⟨hk, hk.2⟩ : _ ∧ k_ ≠ gb734))) (fun _ hk => hk.2) (.int .i64 ((rd_T30 l0 x13_1).f0))) (fun _ hk => hk.2) (.int .i64 ((rd_T30 l0 x13_1).f1))) (fun _ hk => hk.2) (.int .i64 ((rd_T30 l0 x13_1).f2))) (fun _ hk => hk.1.1)⟩, ⟨bw HB⟩⟩
    rw [if_pos c14] at H
    have c14b0 : decide (0 < ((rd_T30 l0 x13_1).f2)) = true := decide_eq_true c14
    clear c14
    by_cases c15 : ((rd_T30 l0 x13_1).f1) = 0
    rotate_left
    ·rw [if_neg c15] at H
     have c15b0 : (((rd_T30 l0 x13_1).f1) == 0) = false := beq_eq_false_iff_ne.mpr c15
     have c15b1 : (((rd_T30 l0 x13_1).f1) != 0) = true := bne_iff_ne.mpr c15
     have H' := Aside0.mk H
     clear H
     have p733 : 0 ≤ (x13_1 : Int) := of_decide_eq_true ‹_›
     have q733 : x13_1 < (l0.length : Int) := of_decide_eq_true ‹_›
     obtain ⟨ad733, e733, hx733_0, hx733_1, hx733_2⟩ := at_T30 (Kd.V_reads' HO_11.out).2.2 x13_1 p733 q733
     cases e733
     replace p733 := eq_true p733
     replace q733 := eq_true q733
     go_wp2_with (first | ((with_reducible refine gate_dst (N := 6) rfl ?_); refine bx 6 #[.int .i64 0, .int .i64 0, .int .i64 0] 30 ?_; intro gb734 hg w18 hbox hb; replace HO_0 := Aside0.mk (Kd.V_below (Kd.V_elderB HO_0.out gb734 (Nat.le_of_eq hg.symm)) hb); replace HO_11 := Aside0.mk (Kd.V_below (Kd.V_elderB HO_11.out gb734 (Nat.le_of_eq hg.symm)) hb); have BK734 := Aside0.mk (hbox); have GW734 := ge HB hg; have GE734 := ge HB hg; replace HB := bs HB hb; clear hb hbox hg; have hcz19_0 := bc0 BK734; have hcz19_1 := bc1 BK734; have hcz19_2 := bc2 BK734; have hfz19_0 := blk_frozen BK734.out 0; have hfz19_1 := blk_frozen BK734.out 1; have hfz19_2 := blk_frozen BK734.out 2))
     go_roundg k1
     case measure => have := HK1.out; omega
     case rel => exact ⟨(decide (((rd_T30 l0 x13_1).f2) > 0)), (wrap64 (x13_1 + 1)), (by first | rfl | (simp; done) | (simp [*]; done)), (by first | rfl | (simp; done) | (simp [*]; done)), H', ⟨by have := HK1.out; omega⟩, ⟨by exact Kd.V_mono (Kd.V_far (p := ⟨gb734, 2, none⟩) (Kd.V_far (p := ⟨gb734, 1, none⟩) (Kd.V_far (p := ⟨gb734, 0, none⟩) (Kd.V_mono HO_0.out (fun k_ hk => (⟨hk, hk.2⟩ : _ ∧ k_ ≠ gb734))) (fun _ hk => hk.2) (.int .i64 ((rd_T30 l0 x13_1).f0))) (fun _ hk => hk.2) (.int .i64 ((rd_T30 l0 x13_1).f1))) (fun _ hk => hk.2) (.int .i64 ((rd_T30 l0 x13_1).f2))) (fun _ hk => hk.1.1)⟩, ⟨by exact Kd.V_mono (Kd.V_far (p := ⟨gb734, 2, none⟩) (Kd.V_far (p := ⟨gb734, 1, none⟩) (Kd.V_far (p := ⟨gb734, 0, none⟩) (Kd.V_mono HO_11.out (fun k_ hk => (⟨hk, hk.2⟩ : _ ∧ k_ ≠ gb734))) (fun _ hk => hk.2) (.int .i64 ((rd_T30 l0 x13_1).f0))) (fun _ hk => hk.2) (.int .i64 ((rd_T30 l0 x13_1).f1))) (fun _ hk => hk.2) (.int .i64 ((rd_T30 l0 x13_1).f2))) (fun _ hk => hk.1.1)⟩, ⟨bw HB⟩⟩
    rw [if_pos c15] at H
    have c15b0 : (((rd_T30 l0 x13_1).f1) == 0) = true := beq_iff_eq.mpr c15
    have c15b1 : (((rd_T30 l0 x13_1).f1) != 0) = false := bne_eq_false_iff_eq.mpr c15
    clear c15
    simp only [Option.some.injEq, Prod.mk.injEq] at H
    obtain ⟨rfl, rfl⟩ := H
    have p733 : 0 ≤ (x13_1 : Int) := of_decide_eq_true ‹_›
    have q733 : x13_1 < (l0.length : Int) := of_decide_eq_true ‹_›
    obtain ⟨ad733, e733, hx733_0, hx733_1, hx733_2⟩ := at_T30 (Kd.V_reads' HO_11.out).2.2 x13_1 p733 q733
    cases e733
    replace p733 := eq_true p733
    replace q733 := eq_true q733
    go_wp2_with (first | ((with_reducible refine gate_dst (N := 6) rfl ?_); refine bx 6 #[.int .i64 0, .int .i64 0, .int .i64 0] 30 ?_; intro gb734 hg w16 hbox hb; replace HO_0 := Aside0.mk (Kd.V_below (Kd.V_elderB HO_0.out gb734 (Nat.le_of_eq hg.symm)) hb); replace HO_11 := Aside0.mk (Kd.V_below (Kd.V_elderB HO_11.out gb734 (Nat.le_of_eq hg.symm)) hb); have BK734 := Aside0.mk (hbox); have GW734 := ge HB hg; have GE734 := ge HB hg; replace HB := bs HB hb; clear hb hbox hg; have hcz17_0 := bc0 BK734; have hcz17_1 := bc1 BK734; have hcz17_2 := bc2 BK734; have hfz17_0 := blk_frozen BK734.out 0; have hfz17_1 := blk_frozen BK734.out 1; have hfz17_2 := blk_frozen BK734.out 2))
    go_ret2
    exact ⟨by first | rfl | (simp [errW_none, errW_some] <;> rfl) | (simp [*, errW_none, errW_some] <;> rfl), bw HB⟩
   rw [if_neg c5] at H
   have c5b0 : decide (x13_1 < (l0.length : Int)) = false := decide_eq_false c5
   clear c5
   have H' := Aside0.mk H
   clear H
   go_wp2
   try simp only [Act.put, List.setIfInBounds_toArray, List.set_cons_zero, List.set_cons_succ]
   go_loopg [0, 7] k1 (fun kq v0 v7 w' => ∃ (x0_2 : List (S30)) (x7_2 : Int), v7 = .int .i64 x7_2 ∧ Aside0 (impl_TicksToEmpty.l1 kq x0_2 x7_2 = some (r1, r2)) ∧ Aside0 (kq ≤ k1) ∧ Aside0 (Kd.V k30 30 w' w.heap.size (fun k_ => (P0_ k_ ∨ w.heap.size ≤ k_)) v0 x0_2) ∧ Aside0 (Below w.heap.size w w'))
   case atStart => exact ⟨(l0), (0), (by first | rfl | (simp; done) | (simp [*]; done)), H', ⟨Nat.le_refl _⟩, ⟨by exact HO_0.out⟩, ⟨bw HB⟩⟩
   case round =>
    clear H'
    (try clear c1); (try clear p2); (try clear c3); (try clear c5); (try clear c5b0); (try clear c6); (try clear c6b0); (try clear p6); (try clear c7); (try clear c7b0); (try clear p7); (try clear q7); (try clear hx7); (try clear c8); (try clear c9); (try clear c9b0); (try clear c9b1); (try clear c11); (try clear c14); (try clear c14b0); (try clear c15); (try clear c15b0); (try clear c15b1); (try clear hcz11_0); (try clear hcz11_1); (try clear hcz11_2); (try clear hcz13_0); (try clear hcz13_1); (try clear hcz13_2); (try clear hcz17_0); (try clear hcz17_1); (try clear hcz17_2); (try clear hcz19_0); (try clear hcz19_1); (try clear hcz19_2); (try clear hcz21_0); (try clear hcz21_1); (try clear hcz21_2); (try clear hfz11_0); (try clear hfz11_1); (try clear hfz11_2); (try clear hfz13_0); (try clear hfz13_1); (try clear hfz13_2); (try clear hfz17_0); (try clear hfz17_1); (try clear hfz17_2); (try clear hfz19_0); (try clear hfz19_1); (try clear hfz19_2); (try clear hfz21_0); (try clear hfz21_1); (try clear hfz21_2); (try clear hx733_0); (try clear hx733_1); (try clear hx733_2); (try clear p2); (try clear p733); (try clear q733)
    obtain ⟨x0_2, x7_2, rfl, HA, HK2, HO_0, HB⟩ := hrel
    cases gk with
    | zero => exact absurd HA.out (by simp [impl_TicksToEmpty.l1])
    | succ k2 =>
     have H := HA.out
     clear HA
     simp only [impl_TicksToEmpty.l1] at H
     replace H := Option.bind_eq_some_iff.mp H
     obtain ⟨t735, A220, H⟩ := H
     (try dsimp only at H)
     have A22 := Aside0.mk A220
     clear A220
     by_cases c23 : t735 > 0
     rotate_left
     ·rw [if_neg c23] at H
      have c23b0 : decide (0 < t735) = false := decide_eq_false c23
      clear c23
      simp only [Option.some.injEq, Prod.mk.injEq] at H
      obtain ⟨rfl, rfl⟩ := H
      obtain ⟨Ao28, co28, eo28⟩ := Kd.V_slice HO_0.out
      subst eo28
      go_wp2_with (first | ((with_reducible refine gate_callee (f := 49) rfl ?_); refine gl 31 Try.func49 #[.slice Ao28 x0_2.length co28] ?_; (with_reducible refine (impl_heldIn.calls k2 _ _ x0_2 t735 _ ?side1 ?side2 A22.out).mono ?_); (case side1 => repeat (first | exact (Kd.V_reads' HO_0.out).2.2 | (with_reducible refine Kd.C_alloc ?_ _) | (with_reducible refine Kd.C_drewN ?_ _) | (with_reducible refine Kd.C_drew ?_))); (case side2 => exact (Kd.V_reads' HO_0.out).2.1); rintro e w29 ⟨rfl, hb⟩; refine ⟨_, rfl, ?_⟩; replace HO_0 := Aside0.mk (Kd.V_below HO_0.out hb); replace HB := bs HB hb; (try clear hb)))
      go_ret2
      exact ⟨by first | rfl | (simp [errW_none, errW_some] <;> rfl) | (simp [*, errW_none, errW_some] <;> rfl), bw HB⟩
     rw [if_pos c23] at H
     have c23b0 : decide (0 < t735) = true := decide_eq_true c23
     clear c23
     replace H := Option.bind_eq_some_iff.mp H
     obtain ⟨⟨t736, t737, t738⟩, A240, H⟩ := H
     (try dsimp only at H)
     have A24 := Aside0.mk A240
     clear A240
     have H' := Aside0.mk H
     clear H
     obtain ⟨Ao25, co25, eo25⟩ := Kd.V_slice HO_0.out
     subst eo25
     go_wp2_with (first | ((with_reducible refine gate_callee (f := 49) rfl ?_); refine gl 31 Try.func49 #[.slice Ao25 x0_2.length co25] ?_; (with_reducible refine (impl_heldIn.calls k2 _ _ x0_2 t735 _ ?side1 ?side2 A22.out).mono ?_); (case side1 => repeat (first | exact (Kd.V_reads' HO_0.out).2.2 | (with_reducible refine Kd.C_alloc ?_ _) | (with_reducible refine Kd.C_drewN ?_ _) | (with_reducible refine Kd.C_drew ?_))); (case side2 => exact (Kd.V_reads' HO_0.out).2.1); rintro e w26 ⟨rfl, hb⟩; refine ⟨_, rfl, ?_⟩; replace HO_0 := Aside0.mk (Kd.V_below HO_0.out hb); replace HB := bs HB hb; (try clear hb)) | ((with_reducible refine gate_callee (f := 50) rfl ?_); refine gl 37 Try.func50 #[.slice Ao25 x0_2.length co25, .int .i64 0] ?_; (with_reducible refine (impl_tickRow.calls k2 _ _ x0_2 0 t736 t737 t738 _ ?side1 ?side2 A24.out).mono ?_); (case side1 => repeat (first | exact (Kd.V_reads' HO_0.out).2.2 | (with_reducible refine Kd.C_alloc ?_ _) | (with_reducible refine Kd.C_drewN ?_ _) | (with_reducible refine Kd.C_drew ?_))); (case side2 => exact (Kd.V_reads' HO_0.out).2.1); rintro e w27 ⟨v739, v741, rfl, ho0, ho1, hb⟩; refine ⟨_, rfl, ?_⟩; replace HO_0 := Aside0.mk (Kd.V_mono (Kd.V_told (Kd.V_told (Kd.V_old HO_0.out hb) (Kd.R_base ho0)) (Kd.R_base ho1)) (fun _ h_ => h_.1)); have HO740 := Aside0.mk (Kd.R_lower (Kd.R_newM (M := fun k_ => (w.heap.size ≤ k_)) ho0 (below_size (bw HB)) (fun k_ h_ => h_)) (below_size (bw HB))); have HO742 := Aside0.mk (Kd.R_lower (Kd.R_newM (M := fun k_ => (w.heap.size ≤ k_)) ho1 (below_size (bw HB)) (fun k_ h_ => h_)) (below_size (bw HB))); replace HB := bs HB hb; (try clear hb); (try clear ho0); (try clear ho1)))
     go_roundg k2
     case measure => have := HK1.out; have := HK2.out; omega
     case rel => exact ⟨(t736), (wrap64 (x7_2 + 1)), (by first | rfl | (simp; done) | (simp [*]; done)), H', ⟨by have := HK1.out; have := HK2.out; omega⟩, ⟨Kd.V_mono (Kd.R_V (by exact Kd.R_mono HO740.out (fun _ hk => hk.1))) (fun k_ hk => by first | exact ⟨(.inr (hk.1)), hk.2⟩ | exact (.inr (hk)))⟩, ⟨bw HB⟩⟩
mutual
def spec_TicksToEmpty.l0 : Nat → List (S30) → Int → Option (Int × Bool)
 | 0, _, _ => none
 | k + 1, x0, x4 => (spec_weHeld.f k x0).bind fun t744 => (if t744 = 0 then (some (x4, true)) else ((spec_weTick.f k x0 0).bind fun bt745 => (spec_TicksToEmpty.l1 k x0 x4 bt745.1 true bt745.1 (bt745.1.length : Int) 0)))
def spec_TicksToEmpty.l1 : Nat → List (S30) → Int → List (S30) → Bool → List (S30) → Int → Int → Option (Int × Bool)
 | 0, _, _, _, _, _, _, _ => none
 | k + 1, x0, x4, x5, x8, x26, x27, x28 => if x28 < x27 then (if 0 ≤ x28 then (if x28 < (x26.length : Int) then (if x8 = true then (if x28 < (x0.length : Int) then (spec_TicksToEmpty.l1 k x0 x4 x5 (((rd_T30 x26 x28).f0) == ((rd_T30 x0 x28).f0) && (((rd_T30 x26 x28).f1) == ((rd_T30 x0 x28).f1) && (((rd_T30 x26 x28).f2) == ((rd_T30 x0 x28).f2)))) x26 x27 (wrap64 (x28 + 1))) else (none)) else (spec_TicksToEmpty.l1 k x0 x4 x5 false x26 x27 (wrap64 (x28 + 1)))) else (none)) else (none)) else (if x8 = true then (some (0, false)) else (spec_TicksToEmpty.l0 k x5 (wrap64 (x4 + 1))))
end
def spec_TicksToEmpty.f (k : Nat) (l0 : List (S30)) : Option (Int × Bool) := (spec_weRow.f k l0).bind fun t743 => (if t743 = true then (spec_TicksToEmpty.l0 k l0 0) else (some (0, false)))
set_option maxHeartbeats 8000000 in
set_option maxRecDepth 100000 in
theorem spec_TicksToEmpty.calls (k : Nat) (P0_ : Nat → Prop) (A0 : Option Addr) (c0 : Nat) (l0 : List (S30)) (r1 : Int) (r2 : Bool) (w : World) (hs0 : Kd.V k30 30 w w.heap.size (fun k_ => P0_ k_) (.slice A0 l0.length c0) l0) (h : spec_TicksToEmpty.f k l0 = some (r1, r2)) :
  Calls Try.prog 8 #[.slice A0 l0.length c0] w fun e w' => e = .returned (.tuple #[.int .i64 r1, .bool r2]) ∧ Below w.heap.size w w' := by
 have hu30 := Try.underlying30
 have HO0 := Aside0.mk (show Kd.V k30 30 w w.heap.size (fun k_ => (P0_ k_ ∨ w.heap.size ≤ k_)) (.slice A0 l0.length c0) l0 from Kd.V_mono hs0 (fun k_ hk => .inl hk))
 have HB := Aside0.mk (Below.refl w.heap.size w)
 have H : ((spec_weRow.f k l0).bind fun t743 => (if t743 = true then (spec_TicksToEmpty.l0 k l0 0) else (some (0, false)))) = some (r1, r2) := h
 clear h
 replace H := Option.bind_eq_some_iff.mp H
 obtain ⟨t743, A20, H⟩ := H
 (try dsimp only at H)
 have A2 := Aside0.mk A20
 clear A20
 by_cases c3 : t743 = true
 rotate_left
 ·replace c3 := Bool.eq_false_iff.mpr c3
  subst c3
  have H1 : (some (0, false)) = some (r1, r2) := by rw [if_neg (show ¬ (false = true) by decide)] at H; exact H
  clear H
  have H := H1
  clear H1
  simp only [Option.some.injEq, Prod.mk.injEq] at H
  obtain ⟨rfl, rfl⟩ := H
  go_enter Try.func8, Try.ntmps8
  go_wp2_with (first | (go_at_call 51; (with_reducible refine (spec_weRow.calls k _ _ l0 false _ ?side1 ?side2 A2.out).mono ?_); (case side1 => repeat (first | exact (Kd.V_reads' HO0.out).2.2 | (with_reducible refine Kd.C_alloc ?_ _) | (with_reducible refine Kd.C_drewN ?_ _) | (with_reducible refine Kd.C_drew ?_))); (case side2 => exact (Kd.V_reads' HO0.out).2.1); rintro e w24 ⟨rfl, hb⟩; replace HO0 := Aside0.mk (Kd.V_below HO0.out hb); replace HB := bs HB hb; (try clear hb)))
  repeat (go_quiet (first | (go_at_call 51; (with_reducible refine (spec_weRow.calls k _ _ l0 false _ ?side1 ?side2 A2.out).mono ?_); (case side1 => repeat (first | exact (Kd.V_reads' HO0.out).2.2 | (with_reducible refine Kd.C_alloc ?_ _) | (with_reducible refine Kd.C_drewN ?_ _) | (with_reducible refine Kd.C_drew ?_))); (case side2 => exact (Kd.V_reads' HO0.out).2.1); rintro e w24 ⟨rfl, hb⟩; have n0_ := Aside0.mk (Kd.V_below HO0.out hb); have n1_ := bs HB hb; clear HO0; clear HB; have HO0 := n0_; have HB := n1_; clear n0_ n1_; (try clear hb); (try clear hb2); (try clear hk); (try clear hi))); try go_wp2_with (first | (go_at_call 51; (with_reducible refine (spec_weRow.calls k _ _ l0 false _ ?side1 ?side2 A2.out).mono ?_); (case side1 => repeat (first | exact (Kd.V_reads' HO0.out).2.2 | (with_reducible refine Kd.C_alloc ?_ _) | (with_reducible refine Kd.C_drewN ?_ _) | (with_reducible refine Kd.C_drew ?_))); (case side2 => exact (Kd.V_reads' HO0.out).2.1); rintro e w24 ⟨rfl, hb⟩; have n0_ := Aside0.mk (Kd.V_below HO0.out hb); have n1_ := bs HB hb; clear HO0; clear HB; have HO0 := n0_; have HB := n1_; clear n0_ n1_; (try clear hb); (try clear hb2); (try clear hk); (try clear hi))))
  go_ret2
  exact ⟨by first | rfl | (simp [errW_none, errW_some] <;> rfl) | (simp [*, errW_none, errW_some] <;> rfl), bw HB⟩
 subst c3
 have H1 : (spec_TicksToEmpty.l0 k l0 0) = some (r1, r2) := by rw [if_pos rfl] at H; exact H
 clear H
 have H := H1
 clear H1
 have H' := Aside0.mk H
 clear H
 go_enter Try.func8, Try.ntmps8
 go_wp2_with (first | (go_at_call 51; (with_reducible refine (spec_weRow.calls k _ _ l0 true _ ?side1 ?side2 A2.out).mono ?_); (case side1 => repeat (first | exact (Kd.V_reads' HO0.out).2.2 | (with_reducible refine Kd.C_alloc ?_ _) | (with_reducible refine Kd.C_drewN ?_ _) | (with_reducible refine Kd.C_drew ?_))); (case side2 => exact (Kd.V_reads' HO0.out).2.1); rintro e w4 ⟨rfl, hb⟩; replace HO0 := Aside0.mk (Kd.V_below HO0.out hb); replace HB := bs HB hb; (try clear hb)))
 repeat (go_quiet (first | (go_at_call 51; (with_reducible refine (spec_weRow.calls k _ _ l0 true _ ?side1 ?side2 A2.out).mono ?_); (case side1 => repeat (first | exact (Kd.V_reads' HO0.out).2.2 | (with_reducible refine Kd.C_alloc ?_ _) | (with_reducible refine Kd.C_drewN ?_ _) | (with_reducible refine Kd.C_drew ?_))); (case side2 => exact (Kd.V_reads' HO0.out).2.1); rintro e w4 ⟨rfl, hb⟩; have n0_ := Aside0.mk (Kd.V_below HO0.out hb); have n1_ := bs HB hb; clear HO0; clear HB; have HO0 := n0_; have HB := n1_; clear n0_ n1_; (try clear hb); (try clear hb2); (try clear hk); (try clear hi))); try go_wp2_with (first | (go_at_call 51; (with_reducible refine (spec_weRow.calls k _ _ l0 true _ ?side1 ?side2 A2.out).mono ?_); (case side1 => repeat (first | exact (Kd.V_reads' HO0.out).2.2 | (with_reducible refine Kd.C_alloc ?_ _) | (with_reducible refine Kd.C_drewN ?_ _) | (with_reducible refine Kd.C_drew ?_))); (case side2 => exact (Kd.V_reads' HO0.out).2.1); rintro e w4 ⟨rfl, hb⟩; have n0_ := Aside0.mk (Kd.V_below HO0.out hb); have n1_ := bs HB hb; clear HO0; clear HB; have HO0 := n0_; have HB := n1_; clear n0_ n1_; (try clear hb); (try clear hb2); (try clear hk); (try clear hi))))
 try simp only [Act.put, List.setIfInBounds_toArray, List.set_cons_zero, List.set_cons_succ]
 go_loopg [0, 4] k (fun kq v0 v4 w' => ∃ (x0_1 : List (S30)) (x4_1 : Int), v4 = .int .i64 x4_1 ∧ Aside0 (spec_TicksToEmpty.l0 kq x0_1 x4_1 = some (r1, r2)) ∧ Aside0 (kq ≤ k) ∧ Aside0 (Kd.V k30 30 w' w.heap.size (fun k_ => (P0_ k_ ∨ w.heap.size ≤ k_)) v0 x0_1) ∧ Aside0 (Below w.heap.size w w'))
 case atStart => exact ⟨(l0), (0), (by first | rfl | (simp; done) | (simp [*]; done)), H', ⟨Nat.le_refl _⟩, ⟨by exact HO0.out⟩, ⟨bw HB⟩⟩
 case round =>
  clear H'
  (try clear p2); (try clear c3)
  obtain ⟨x0_1, x4_1, rfl, HA, HK1, HO_0, HB⟩ := hrel
  cases gk with
  | zero => exact absurd HA.out (by simp [spec_TicksToEmpty.l0])
  | succ k1 =>
   have H := HA.out
   clear HA
   simp only [spec_TicksToEmpty.l0] at H
   replace H := Option.bind_eq_some_iff.mp H
   obtain ⟨t744, A50, H⟩ := H
   (try dsimp only at H)
   have A5 := Aside0.mk A50
   clear A50
   by_cases c6 : t744 = 0
   ·rw [if_pos c6] at H
    have c6b0 : (t744 == 0) = true := beq_iff_eq.mpr c6
    have c6b1 : (t744 != 0) = false := bne_eq_false_iff_eq.mpr c6
    clear c6
    simp only [Option.some.injEq, Prod.mk.injEq] at H
    obtain ⟨rfl, rfl⟩ := H
    obtain ⟨Ao7, co7, eo7⟩ := Kd.V_slice HO_0.out
    subst eo7
    go_wp2_with (first | (go_at_call 52; (with_reducible refine (spec_weHeld.calls k1 _ _ x0_1 t744 _ ?side1 ?side2 A5.out).mono ?_); (case side1 => repeat (first | exact (Kd.V_reads' HO_0.out).2.2 | (with_reducible refine Kd.C_alloc ?_ _) | (with_reducible refine Kd.C_drewN ?_ _) | (with_reducible refine Kd.C_drew ?_))); (case side2 => exact (Kd.V_reads' HO_0.out).2.1); rintro e w8 ⟨rfl, hb⟩; replace HO_0 := Aside0.mk (Kd.V_below HO_0.out hb); replace HB := bs HB hb; (try clear hb)))
    repeat (go_quiet (first | (go_at_call 52; (with_reducible refine (spec_weHeld.calls k1 _ _ x0_1 t744 _ ?side1 ?side2 A5.out).mono ?_); (case side1 => repeat (first | exact (Kd.V_reads' HO_0.out).2.2 | (with_reducible refine Kd.C_alloc ?_ _) | (with_reducible refine Kd.C_drewN ?_ _) | (with_reducible refine Kd.C_drew ?_))); (case side2 => exact (Kd.V_reads' HO_0.out).2.1); rintro e w8 ⟨rfl, hb⟩; have n0_ := Aside0.mk (Kd.V_below HO_0.out hb); have n1_ := bs HB hb; clear HO_0; clear HB; have HO_0 := n0_; have HB := n1_; clear n0_ n1_; (try clear hb); (try clear hb2); (try clear hk); (try clear hi))); try go_wp2_with (first | (go_at_call 52; (with_reducible refine (spec_weHeld.calls k1 _ _ x0_1 t744 _ ?side1 ?side2 A5.out).mono ?_); (case side1 => repeat (first | exact (Kd.V_reads' HO_0.out).2.2 | (with_reducible refine Kd.C_alloc ?_ _) | (with_reducible refine Kd.C_drewN ?_ _) | (with_reducible refine Kd.C_drew ?_))); (case side2 => exact (Kd.V_reads' HO_0.out).2.1); rintro e w8 ⟨rfl, hb⟩; have n0_ := Aside0.mk (Kd.V_below HO_0.out hb); have n1_ := bs HB hb; clear HO_0; clear HB; have HO_0 := n0_; have HB := n1_; clear n0_ n1_; (try clear hb); (try clear hb2); (try clear hk); (try clear hi))))
    go_ret2
    exact ⟨by first | rfl | (simp [errW_none, errW_some] <;> rfl) | (simp [*, errW_none, errW_some] <;> rfl), bw HB⟩
   rw [if_neg c6] at H
   have c6b0 : (t744 == 0) = false := beq_eq_false_iff_ne.mpr c6
   have c6b1 : (t744 != 0) = true := bne_iff_ne.mpr c6
   replace H := Option.bind_eq_some_iff.mp H
   obtain ⟨⟨t745, t746, t747⟩, A90, H⟩ := H
   (try dsimp only at H)
   have A9 := Aside0.mk A90
   clear A90
   have H' := Aside0.mk H
   clear H
   obtain ⟨Ao10, co10, eo10⟩ := Kd.V_slice HO_0.out
   subst eo10
   go_wp2_with (first | (go_at_call 52; (with_reducible refine (spec_weHeld.calls k1 _ _ x0_1 t744 _ ?side1 ?side2 A5.out).mono ?_); (case side1 => repeat (first | exact (Kd.V_reads' HO_0.out).2.2 | (with_reducible refine Kd.C_alloc ?_ _) | (with_reducible refine Kd.C_drewN ?_ _) | (with_reducible refine Kd.C_drew ?_))); (case side2 => exact (Kd.V_reads' HO_0.out).2.1); rintro e w11 ⟨rfl, hb⟩; replace HO_0 := Aside0.mk (Kd.V_below HO_0.out hb); replace HB := bs HB hb; (try clear hb)) | (go_at_call 53; (with_reducible refine (spec_weTick.calls k1 _ _ x0_1 0 t745 t746 t747 _ ?side1 ?side2 A9.out).mono ?_); (case side1 => repeat (first | exact (Kd.V_reads' HO_0.out).2.2 | (with_reducible refine Kd.C_alloc ?_ _) | (with_reducible refine Kd.C_drewN ?_ _) | (with_reducible refine Kd.C_drew ?_))); (case side2 => exact (Kd.V_reads' HO_0.out).2.1); rintro e w12 ⟨v748, v750, rfl, ho0, ho1, hb⟩; replace HO_0 := Aside0.mk (Kd.V_mono (Kd.V_told (Kd.V_told (Kd.V_old HO_0.out hb) (Kd.R_base ho0)) (Kd.R_base ho1)) (fun _ h_ => h_.1)); have HO749 := Aside0.mk (Kd.R_lower (Kd.R_newM (M := fun k_ => (w.heap.size ≤ k_)) ho0 (below_size (bw HB)) (fun k_ h_ => h_)) (below_size (bw HB))); have HO751 := Aside0.mk (Kd.R_lower (Kd.R_newM (M := fun k_ => (w.heap.size ≤ k_)) ho1 (below_size (bw HB)) (fun k_ h_ => h_)) (below_size (bw HB))); replace HB := bs HB hb; (try clear hb); (try clear ho0); (try clear ho1); obtain ⟨Ao13, co13, eo13⟩ := Kd.R_slice HO749.out; subst eo13))
   repeat (go_quiet (first | (go_at_call 52; (with_reducible refine (spec_weHeld.calls k1 _ _ x0_1 t744 _ ?side1 ?side2 A5.out).mono ?_); (case side1 => repeat (first | exact (Kd.V_reads' HO_0.out).2.2 | (with_reducible refine Kd.C_alloc ?_ _) | (with_reducible refine Kd.C_drewN ?_ _) | (with_reducible refine Kd.C_drew ?_))); (case side2 => exact (Kd.V_reads' HO_0.out).2.1); rintro e w11 ⟨rfl, hb⟩; have n0_ := Aside0.mk (Kd.V_below HO_0.out hb); have n1_ := bs HB hb; clear HO_0; clear HB; have HO_0 := n0_; have HB := n1_; clear n0_ n1_; (try clear hb); (try clear hb2); (try clear hk); (try clear hi)) | (go_at_call 53; (with_reducible refine (spec_weTick.calls k1 _ _ x0_1 0 t745 t746 t747 _ ?side1 ?side2 A9.out).mono ?_); (case side1 => repeat (first | exact (Kd.V_reads' HO_0.out).2.2 | (with_reducible refine Kd.C_alloc ?_ _) | (with_reducible refine Kd.C_drewN ?_ _) | (with_reducible refine Kd.C_drew ?_))); (case side2 => exact (Kd.V_reads' HO_0.out).2.1); rintro e w12 ⟨v748, v750, rfl, ho0, ho1, hb⟩; have n0_ := Aside0.mk (Kd.V_mono (Kd.V_told (Kd.V_told (Kd.V_old HO_0.out hb) (Kd.R_base ho0)) (Kd.R_base ho1)) (fun _ h_ => h_.1)); have n1_ := Aside0.mk (Kd.R_lower (Kd.R_newM (M := fun k_ => (w.heap.size ≤ k_)) ho0 (below_size (bw HB)) (fun k_ h_ => h_)) (below_size (bw HB))); have n2_ := Aside0.mk (Kd.R_lower (Kd.R_newM (M := fun k_ => (w.heap.size ≤ k_)) ho1 (below_size (bw HB)) (fun k_ h_ => h_)) (below_size (bw HB))); have n3_ := bs HB hb; clear HO_0; clear HB; have HO_0 := n0_; have HO749 := n1_; have HO751 := n2_; have HB := n3_; clear n0_ n1_ n2_ n3_; (try clear hb); (try clear hb2); (try clear hk); (try clear hi); (try clear ho0); (try clear ho1); obtain ⟨Ao13, co13, eo13⟩ := Kd.R_slice HO749.out; subst eo13)); try go_wp2_with (first | (go_at_call 52; (with_reducible refine (spec_weHeld.calls k1 _ _ x0_1 t744 _ ?side1 ?side2 A5.out).mono ?_); (case side1 => repeat (first | exact (Kd.V_reads' HO_0.out).2.2 | (with_reducible refine Kd.C_alloc ?_ _) | (with_reducible refine Kd.C_drewN ?_ _) | (with_reducible refine Kd.C_drew ?_))); (case side2 => exact (Kd.V_reads' HO_0.out).2.1); rintro e w11 ⟨rfl, hb⟩; have n0_ := Aside0.mk (Kd.V_below HO_0.out hb); have n1_ := bs HB hb; clear HO_0; clear HB; have HO_0 := n0_; have HB := n1_; clear n0_ n1_; (try clear hb); (try clear hb2); (try clear hk); (try clear hi)) | (go_at_call 53; (with_reducible refine (spec_weTick.calls k1 _ _ x0_1 0 t745 t746 t747 _ ?side1 ?side2 A9.out).mono ?_); (case side1 => repeat (first | exact (Kd.V_reads' HO_0.out).2.2 | (with_reducible refine Kd.C_alloc ?_ _) | (with_reducible refine Kd.C_drewN ?_ _) | (with_reducible refine Kd.C_drew ?_))); (case side2 => exact (Kd.V_reads' HO_0.out).2.1); rintro e w12 ⟨v748, v750, rfl, ho0, ho1, hb⟩; have n0_ := Aside0.mk (Kd.V_mono (Kd.V_told (Kd.V_told (Kd.V_old HO_0.out hb) (Kd.R_base ho0)) (Kd.R_base ho1)) (fun _ h_ => h_.1)); have n1_ := Aside0.mk (Kd.R_lower (Kd.R_newM (M := fun k_ => (w.heap.size ≤ k_)) ho0 (below_size (bw HB)) (fun k_ h_ => h_)) (below_size (bw HB))); have n2_ := Aside0.mk (Kd.R_lower (Kd.R_newM (M := fun k_ => (w.heap.size ≤ k_)) ho1 (below_size (bw HB)) (fun k_ h_ => h_)) (below_size (bw HB))); have n3_ := bs HB hb; clear HO_0; clear HB; have HO_0 := n0_; have HO749 := n1_; have HO751 := n2_; have HB := n3_; clear n0_ n1_ n2_ n3_; (try clear hb); (try clear hb2); (try clear hk); (try clear hi); (try clear ho0); (try clear ho1); obtain ⟨Ao13, co13, eo13⟩ := Kd.R_slice HO749.out; subst eo13)))
   try simp only [Act.put, List.setIfInBounds_toArray, List.set_cons_zero, List.set_cons_succ]
   go_loopg [8, 28] k1 (fun kq v8 v28 w' => ∃ (x8_2 : Bool) (x28_2 : Int), v8 = .bool x8_2 ∧ v28 = .int .i64 x28_2 ∧ Aside0 (spec_TicksToEmpty.l1 kq x0_1 x4_1 t745 x8_2 t745 (t745.length : Int) x28_2 = some (r1, r2)) ∧ Aside0 (kq ≤ k1) ∧ Aside0 (Kd.V k30 30 w' w.heap.size (fun k_ => (P0_ k_ ∨ w.heap.size ≤ k_) ∧ some k_ ≠ ((.slice Ao13 t745.length co13) : Value).ownBlock ∧ some k_ ≠ ((.slice Ao13 t745.length co13) : Value).ownBlock) (.slice Ao10 x0_1.length co10) x0_1) ∧ Aside0 (Kd.R k30 30 w' w.heap.size (fun k_ => (w.heap.size ≤ k_)) (.slice Ao13 t745.length co13) t745) ∧ Aside0 (Kd.R k30 30 w' w.heap.size (fun k_ => (w.heap.size ≤ k_)) (.slice Ao13 t745.length co13) t745) ∧ Aside0 (Below w.heap.size w w'))
   case atStart => exact ⟨(true), (0), (by first | rfl | (simp; done) | (simp [*]; done)), (by first | rfl | (simp; done) | (simp [*]; done)), H', ⟨Nat.le_refl _⟩, ⟨by exact Kd.V_mono HO_0.out (fun _ hk => ⟨hk.1.1, ⟨hk.1.2, hk.1.2⟩⟩)⟩, ⟨by exact Kd.R_mono HO749.out (fun _ hk => hk.1)⟩, ⟨by exact Kd.R_mono HO749.out (fun _ hk => hk.1)⟩, ⟨bw HB⟩⟩
   case round =>
    clear H'
    (try clear p2); (try clear c3); (try clear c6); (try clear c6b0); (try clear c6b1); (try clear c8); (try clear p2)
    obtain ⟨x8_2, x28_2, rfl, rfl, HA, HK2, HO_0, HO_5, HO_26, HB⟩ := hrel
    cases gk with
    | zero => exact absurd HA.out (by simp [spec_TicksToEmpty.l1])
    | succ k2 =>
     have H := HA.out
     clear HA
     simp only [spec_TicksToEmpty.l1] at H
     by_cases c14 : x28_2 < (t745.length : Int)
     rotate_left
     ·rw [if_neg c14] at H
      have c14b0 : decide (x28_2 < (t745.length : Int)) = false := decide_eq_false c14
      clear c14
      by_cases c23 : x8_2 = true
      ·subst c23
       have H1 : (some (0, false)) = some (r1, r2) := by rw [if_pos rfl] at H; exact H
       clear H
       have H := H1
       clear H1
       simp only [Option.some.injEq, Prod.mk.injEq] at H
       obtain ⟨rfl, rfl⟩ := H
       go_wp2
       repeat (go_quiet (fail); try go_wp2)
       go_ret2
       exact ⟨by first | rfl | (simp [errW_none, errW_some] <;> rfl) | (simp [*, errW_none, errW_some] <;> rfl), bw HB⟩
      replace c23 := Bool.eq_false_iff.mpr c23
      subst c23
      have H1 : (spec_TicksToEmpty.l0 k2 t745 (wrap64 (x4_1 + 1))) = some (r1, r2) := by rw [if_neg (show ¬ (false = true) by decide)] at H; exact H
      clear H
      have H := H1
      clear H1
      have H' := Aside0.mk H
      clear H
      go_wp2
      repeat (go_quiet (fail); try go_wp2)
      go_roundg k2
      case measure => have := HK1.out; have := HK2.out; omega
      case rel => exact ⟨(t745), (wrap64 (x4_1 + 1)), (by first | rfl | (simp; done) | (simp [*]; done)), H', ⟨by have := HK1.out; have := HK2.out; omega⟩, ⟨Kd.V_mono (Kd.R_V (rk HO_5)) (fun k_ hk => by first | exact ⟨(.inr (hk.1)), hk.2⟩ | exact (.inr (hk)))⟩, ⟨bw HB⟩⟩
     rw [if_pos c14] at H
     have c14b0 : decide (x28_2 < (t745.length : Int)) = true := decide_eq_true c14
     clear c14
     by_cases c15 : 0 ≤ x28_2
     rotate_left
     ·rw [if_neg c15] at H
      exact absurd H (by simp)
     rw [if_pos c15] at H
     have c15b0 : decide (0 ≤ x28_2) = true := decide_eq_true c15
     clear c15
     by_cases c16 : x28_2 < (t745.length : Int)
     rotate_left
     ·rw [if_neg c16] at H
      exact absurd H (by simp)
     rw [if_pos c16] at H
     have c16b0 : decide (x28_2 < (t745.length : Int)) = true := decide_eq_true c16
     clear c16
     by_cases c17 : x8_2 = true
     rotate_left
     ·replace c17 := Bool.eq_false_iff.mpr c17
      subst c17
      have H1 : (spec_TicksToEmpty.l1 k2 x0_1 x4_1 t745 false t745 (t745.length : Int) (wrap64 (x28_2 + 1))) = some (r1, r2) := by rw [if_neg (show ¬ (false = true) by decide)] at H; exact H
      clear H
      have H := H1
      clear H1
      have H' := Aside0.mk H
      clear H
      have p752 : 0 ≤ (x28_2 : Int) := of_decide_eq_true ‹_›
      have q752 : x28_2 < (t745.length : Int) := of_decide_eq_true ‹_›
      obtain ⟨ad752, e752, hx752_0, hx752_1, hx752_2⟩ := at_T30 (Kd.R_reads' HO_26.out).2.2 x28_2 p752 q752
      cases e752
      replace p752 := eq_true p752
      replace q752 := eq_true q752
      go_wp2_with (first | ((with_reducible refine gate_dst (N := 10) rfl ?_); refine bx 10 #[.int .i64 0, .int .i64 0, .int .i64 0] 30 ?_; intro gb753 hg w21 hbox hb; replace HO_0 := Aside0.mk (Kd.V_below (Kd.V_elderB HO_0.out gb753 (Nat.le_of_eq hg.symm)) hb); replace HO_5 := Aside0.mk (Kd.R_below (Kd.R_elderB (rk HO_5) gb753 (Nat.le_of_eq hg.symm)) hb); replace HO_26 := Aside0.mk (Kd.R_below (Kd.R_elderB (rk HO_26) gb753 (Nat.le_of_eq hg.symm)) hb); have BK753 := Aside0.mk (hbox); have GW753 := ge HB hg; have GE753 := ge HB hg; replace HB := bs HB hb; clear hb hbox hg; have hcz22_0 := bc0 BK753; have hcz22_1 := bc1 BK753; have hcz22_2 := bc2 BK753; have hfz22_0 := blk_frozen BK753.out 0; have hfz22_1 := blk_frozen BK753.out 1; have hfz22_2 := blk_frozen BK753.out 2))
      repeat (go_quiet (first | ((with_reducible refine gate_dst (N := 10) rfl ?_); refine bx 10 #[.int .i64 0, .int .i64 0, .int .i64 0] 30 ?_; intro gb753 hg w21 hbox hb; have n0_ := Aside0.mk (Kd.V_below (Kd.V_elderB HO_0.out gb753 (Nat.le_of_eq hg.symm)) hb); have n1_ := Aside0.mk (Kd.R_below (Kd.R_elderB (rk HO_5) gb753 (Nat.le_of_eq hg.symm)) hb); have n2_ := Aside0.mk (Kd.R_below (Kd.R_elderB (rk HO_26) gb753 (Nat.le_of_eq hg.symm)) hb); have n3_ := bs HB hb; have n4_ := Aside0.mk (hbox); have n5_ := ge HB hg; have n6_ := ge HB hg; clear HO_0; clear HO_5; clear HO_26; clear HB; have HO_0 := n0_; have HO_5 := n1_; have HO_26 := n2_; have HB := n3_; have BK753 := n4_; have GW753 := n5_; have GE753 := n6_; clear n0_ n1_ n2_ n3_ n4_ n5_ n6_; clear hb hbox hg; have hcz22_0 := bc0 BK753; have hcz22_1 := bc1 BK753; have hcz22_2 := bc2 BK753; have hfz22_0 := blk_frozen BK753.out 0; have hfz22_1 := blk_frozen BK753.out 1; have hfz22_2 := blk_frozen BK753.out 2)); try go_wp2_with (first | ((with_reducible refine gate_dst (N := 10) rfl ?_); refine bx 10 #[.int .i64 0, .int .i64 0, .int .i64 0] 30 ?_; intro gb753 hg w21 hbox hb; have n0_ := Aside0.mk (Kd.V_below (Kd.V_elderB HO_0.out gb753 (Nat.le_of_eq hg.symm)) hb); have n1_ := Aside0.mk (Kd.R_below (Kd.R_elderB (rk HO_5) gb753 (Nat.le_of_eq hg.symm)) hb); have n2_ := Aside0.mk (Kd.R_below (Kd.R_elderB (rk HO_26) gb753 (Nat.le_of_eq hg.symm)) hb); have n3_ := bs HB hb; have n4_ := Aside0.mk (hbox); have n5_ := ge HB hg; have n6_ := ge HB hg; clear HO_0; clear HO_5; clear HO_26; clear HB; have HO_0 := n0_; have HO_5 := n1_; have HO_26 := n2_; have HB := n3_; have BK753 := n4_; have GW753 := n5_; have GE753 := n6_; clear n0_ n1_ n2_ n3_ n4_ n5_ n6_; clear hb hbox hg; have hcz22_0 := bc0 BK753; have hcz22_1 := bc1 BK753; have hcz22_2 := bc2 BK753; have hfz22_0 := blk_frozen BK753.out 0; have hfz22_1 := blk_frozen BK753.out 1; have hfz22_2 := blk_frozen BK753.out 2)))
      go_roundg k2
      case measure => have := HK1.out; have := HK2.out; omega
      case rel => exact ⟨(false), (wrap64 (x28_2 + 1)), (by first | rfl | (simp; done) | (simp [*]; done)), (by first | rfl | (simp; done) | (simp [*]; done)), H', ⟨by have := HK1.out; have := HK2.out; omega⟩, ⟨by exact Kd.V_mono (Kd.V_far (p := ⟨gb753, 2, none⟩) (Kd.V_far (p := ⟨gb753, 1, none⟩) (Kd.V_far (p := ⟨gb753, 0, none⟩) (Kd.V_mono HO_0.out (fun k_ hk => (⟨hk, hk.2⟩ : _ ∧ k_ ≠ gb753))) (fun _ hk => hk.2) (.int .i64 ((rd_T30 t745 x28_2).f0))) (fun _ hk => hk.2) (.int .i64 ((rd_T30 t745 x28_2).f1))) (fun _ hk => hk.2) (.int .i64 ((rd_T30 t745 x28_2).f2))) (fun _ hk => ⟨hk.1.1.1, ⟨hk.1.1.2.1, hk.1.1.2.2⟩⟩)⟩, ⟨by exact Kd.R_mono (Kd.R_far (p := ⟨gb753, 2, none⟩) (Kd.R_far (p := ⟨gb753, 1, none⟩) (Kd.R_far (p := ⟨gb753, 0, none⟩) (Kd.R_mono HO_5.out (fun k_ hk => (⟨hk, hk.2⟩ : _ ∧ k_ ≠ gb753))) (fun _ hk => hk.2) (.int .i64 ((rd_T30 t745 x28_2).f0))) (fun _ hk => hk.2) (.int .i64 ((rd_T30 t745 x28_2).f1))) (fun _ hk => hk.2) (.int .i64 ((rd_T30 t745 x28_2).f2))) (fun _ hk => hk.1.1)⟩, ⟨by exact Kd.R_mono (Kd.R_far (p := ⟨gb753, 2, none⟩) (Kd.R_far (p := ⟨gb753, 1, none⟩) (Kd.R_far (p := ⟨gb753, 0, none⟩) (Kd.R_mono HO_26.out (fun k_ hk => (⟨hk, hk.2⟩ : _ ∧ k_ ≠ gb753))) (fun _ hk => hk.2) (.int .i64 ((rd_T30 t745 x28_2).f0))) (fun _ hk => hk.2) (.int .i64 ((rd_T30 t745 x28_2).f1))) (fun _ hk => hk.2) (.int .i64 ((rd_T30 t745 x28_2).f2))) (fun _ hk => hk.1.1)⟩, ⟨bw HB⟩⟩
     subst c17
     have H1 : (if x28_2 < (x0_1.length : Int) then (spec_TicksToEmpty.l1 k2 x0_1 x4_1 t745 (((rd_T30 t745 x28_2).f0) == ((rd_T30 x0_1 x28_2).f0) && (((rd_T30 t745 x28_2).f1) == ((rd_T30 x0_1 x28_2).f1) && (((rd_T30 t745 x28_2).f2) == ((rd_T30 x0_1 x28_2).f2)))) t745 (t745.length : Int) (wrap64 (x28_2 + 1))) else (none)) = some (r1, r2) := by rw [if_pos rfl] at H; exact H
     clear H
     have H := H1
     clear H1
     by_cases c18 : x28_2 < (x0_1.length : Int)
     rotate_left
     ·rw [if_neg c18] at H
      exact absurd H (by simp)
     rw [if_pos c18] at H
     have c18b0 : decide (x28_2 < (x0_1.length : Int)) = true := decide_eq_true c18
     clear c18
     have H' := Aside0.mk H
     clear H
     have p752 : 0 ≤ (x28_2 : Int) := of_decide_eq_true ‹_›
     have q752 : x28_2 < (t745.length : Int) := of_decide_eq_true ‹_›
     obtain ⟨ad752, e752, hx752_0, hx752_1, hx752_2⟩ := at_T30 (Kd.R_reads' HO_26.out).2.2 x28_2 p752 q752
     cases e752
     replace p752 := eq_true p752
     replace q752 := eq_true q752
     go_wp2_with (first | ((with_reducible refine gate_dst (N := 10) rfl ?_); refine bx 10 #[.int .i64 0, .int .i64 0, .int .i64 0] 30 ?_; intro gb753 hg w19 hbox hb; replace HO_0 := Aside0.mk (Kd.V_below (Kd.V_elderB HO_0.out gb753 (Nat.le_of_eq hg.symm)) hb); replace HO_5 := Aside0.mk (Kd.R_below (Kd.R_elderB (rk HO_5) gb753 (Nat.le_of_eq hg.symm)) hb); replace HO_26 := Aside0.mk (Kd.R_below (Kd.R_elderB (rk HO_26) gb753 (Nat.le_of_eq hg.symm)) hb); have BK753 := Aside0.mk (hbox); have GW753 := ge HB hg; have GE753 := ge HB hg; replace HB := bs HB hb; clear hb hbox hg; have hcz20_0 := bc0 BK753; have hcz20_1 := bc1 BK753; have hcz20_2 := bc2 BK753; have hfz20_0 := blk_frozen BK753.out 0; have hfz20_1 := blk_frozen BK753.out 1; have hfz20_2 := blk_frozen BK753.out 2; have p754 : 0 ≤ (x28_2 : Int) := of_decide_eq_true ‹_›; have q754 : x28_2 < (x0_1.length : Int) := of_decide_eq_true ‹_›; obtain ⟨ad754, e754, hx754_0, hx754_1, hx754_2⟩ := at_T30 (Kd.V_reads' (Kd.V_far (p := ⟨gb753, 2, none⟩) (Kd.V_far (p := ⟨gb753, 1, none⟩) (Kd.V_far (p := ⟨gb753, 0, none⟩) HO_0.out (fun _ hk => hk.2) (.int .i64 ((rd_T30 t745 x28_2).f0))) (fun _ hk => hk.2) (.int .i64 ((rd_T30 t745 x28_2).f1))) (fun _ hk => hk.2) (.int .i64 ((rd_T30 t745 x28_2).f2)))).2.2 x28_2 p754 q754; cases e754; (try have hy754_0 := fun (n_ : Nat) => (show (((((w19.drewN n_).setCell ⟨gb753, 0, none⟩ (.int .i64 ((rd_T30 t745 x28_2).f0))).setCell ⟨gb753, 1, none⟩ (.int .i64 ((rd_T30 t745 x28_2).f1))).setCell ⟨gb753, 2, none⟩ (.int .i64 ((rd_T30 t745 x28_2).f2)))).cell? _ = some _ from hx754_0)); (try have hy754_1 := fun (n_ : Nat) => (show (((((w19.drewN n_).setCell ⟨gb753, 0, none⟩ (.int .i64 ((rd_T30 t745 x28_2).f0))).setCell ⟨gb753, 1, none⟩ (.int .i64 ((rd_T30 t745 x28_2).f1))).setCell ⟨gb753, 2, none⟩ (.int .i64 ((rd_T30 t745 x28_2).f2)))).cell? _ = some _ from hx754_1)); (try have hy754_2 := fun (n_ : Nat) => (show (((((w19.drewN n_).setCell ⟨gb753, 0, none⟩ (.int .i64 ((rd_T30 t745 x28_2).f0))).setCell ⟨gb753, 1, none⟩ (.int .i64 ((rd_T30 t745 x28_2).f1))).setCell ⟨gb753, 2, none⟩ (.int .i64 ((rd_T30 t745 x28_2).f2)))).cell? _ = some _ from hx754_2)); replace p754 := eq_true p754; replace q754 := eq_true q754))
     repeat (go_quiet (first | ((with_reducible refine gate_dst (N := 10) rfl ?_); refine bx 10 #[.int .i64 0, .int .i64 0, .int .i64 0] 30 ?_; intro gb753 hg w19 hbox hb; have n0_ := Aside0.mk (Kd.V_below (Kd.V_elderB HO_0.out gb753 (Nat.le_of_eq hg.symm)) hb); have n1_ := Aside0.mk (Kd.R_below (Kd.R_elderB (rk HO_5) gb753 (Nat.le_of_eq hg.symm)) hb); have n2_ := Aside0.mk (Kd.R_below (Kd.R_elderB (rk HO_26) gb753 (Nat.le_of_eq hg.symm)) hb); have n3_ := bs HB hb; have n4_ := Aside0.mk (hbox); have n5_ := ge HB hg; have n6_ := ge HB hg; clear HO_0; clear HO_5; clear HO_26; clear HB; have HO_0 := n0_; have HO_5 := n1_; have HO_26 := n2_; have HB := n3_; have BK753 := n4_; have GW753 := n5_; have GE753 := n6_; clear n0_ n1_ n2_ n3_ n4_ n5_ n6_; clear hb hbox hg; have hcz20_0 := bc0 BK753; have hcz20_1 := bc1 BK753; have hcz20_2 := bc2 BK753; have hfz20_0 := blk_frozen BK753.out 0; have hfz20_1 := blk_frozen BK753.out 1; have hfz20_2 := blk_frozen BK753.out 2; have p754 : 0 ≤ (x28_2 : Int) := of_decide_eq_true ‹_›; have q754 : x28_2 < (x0_1.length : Int) := of_decide_eq_true ‹_›; obtain ⟨ad754, e754, hx754_0, hx754_1, hx754_2⟩ := at_T30 (Kd.V_reads' (Kd.V_far (p := ⟨gb753, 2, none⟩) (Kd.V_far (p := ⟨gb753, 1, none⟩) (Kd.V_far (p := ⟨gb753, 0, none⟩) HO_0.out (fun _ hk => hk.2) (.int .i64 ((rd_T30 t745 x28_2).f0))) (fun _ hk => hk.2) (.int .i64 ((rd_T30 t745 x28_2).f1))) (fun _ hk => hk.2) (.int .i64 ((rd_T30 t745 x28_2).f2)))).2.2 x28_2 p754 q754; cases e754; (try have hy754_0 := fun (n_ : Nat) => (show (((((w19.drewN n_).setCell ⟨gb753, 0, none⟩ (.int .i64 ((rd_T30 t745 x28_2).f0))).setCell ⟨gb753, 1, none⟩ (.int .i64 ((rd_T30 t745 x28_2).f1))).setCell ⟨gb753, 2, none⟩ (.int .i64 ((rd_T30 t745 x28_2).f2)))).cell? _ = some _ from hx754_0)); (try have hy754_1 := fun (n_ : Nat) => (show (((((w19.drewN n_).setCell ⟨gb753, 0, none⟩ (.int .i64 ((rd_T30 t745 x28_2).f0))).setCell ⟨gb753, 1, none⟩ (.int .i64 ((rd_T30 t745 x28_2).f1))).setCell ⟨gb753, 2, none⟩ (.int .i64 ((rd_T30 t745 x28_2).f2)))).cell? _ = some _ from hx754_1)); (try have hy754_2 := fun (n_ : Nat) => (show (((((w19.drewN n_).setCell ⟨gb753, 0, none⟩ (.int .i64 ((rd_T30 t745 x28_2).f0))).setCell ⟨gb753, 1, none⟩ (.int .i64 ((rd_T30 t745 x28_2).f1))).setCell ⟨gb753, 2, none⟩ (.int .i64 ((rd_T30 t745 x28_2).f2)))).cell? _ = some _ from hx754_2)); replace p754 := eq_true p754; replace q754 := eq_true q754)); try go_wp2_with (first | ((with_reducible refine gate_dst (N := 10) rfl ?_); refine bx 10 #[.int .i64 0, .int .i64 0, .int .i64 0] 30 ?_; intro gb753 hg w19 hbox hb; have n0_ := Aside0.mk (Kd.V_below (Kd.V_elderB HO_0.out gb753 (Nat.le_of_eq hg.symm)) hb); have n1_ := Aside0.mk (Kd.R_below (Kd.R_elderB (rk HO_5) gb753 (Nat.le_of_eq hg.symm)) hb); have n2_ := Aside0.mk (Kd.R_below (Kd.R_elderB (rk HO_26) gb753 (Nat.le_of_eq hg.symm)) hb); have n3_ := bs HB hb; have n4_ := Aside0.mk (hbox); have n5_ := ge HB hg; have n6_ := ge HB hg; clear HO_0; clear HO_5; clear HO_26; clear HB; have HO_0 := n0_; have HO_5 := n1_; have HO_26 := n2_; have HB := n3_; have BK753 := n4_; have GW753 := n5_; have GE753 := n6_; clear n0_ n1_ n2_ n3_ n4_ n5_ n6_; clear hb hbox hg; have hcz20_0 := bc0 BK753; have hcz20_1 := bc1 BK753; have hcz20_2 := bc2 BK753; have hfz20_0 := blk_frozen BK753.out 0; have hfz20_1 := blk_frozen BK753.out 1; have hfz20_2 := blk_frozen BK753.out 2; have p754 : 0 ≤ (x28_2 : Int) := of_decide_eq_true ‹_›; have q754 : x28_2 < (x0_1.length : Int) := of_decide_eq_true ‹_›; obtain ⟨ad754, e754, hx754_0, hx754_1, hx754_2⟩ := at_T30 (Kd.V_reads' (Kd.V_far (p := ⟨gb753, 2, none⟩) (Kd.V_far (p := ⟨gb753, 1, none⟩) (Kd.V_far (p := ⟨gb753, 0, none⟩) HO_0.out (fun _ hk => hk.2) (.int .i64 ((rd_T30 t745 x28_2).f0))) (fun _ hk => hk.2) (.int .i64 ((rd_T30 t745 x28_2).f1))) (fun _ hk => hk.2) (.int .i64 ((rd_T30 t745 x28_2).f2)))).2.2 x28_2 p754 q754; cases e754; (try have hy754_0 := fun (n_ : Nat) => (show (((((w19.drewN n_).setCell ⟨gb753, 0, none⟩ (.int .i64 ((rd_T30 t745 x28_2).f0))).setCell ⟨gb753, 1, none⟩ (.int .i64 ((rd_T30 t745 x28_2).f1))).setCell ⟨gb753, 2, none⟩ (.int .i64 ((rd_T30 t745 x28_2).f2)))).cell? _ = some _ from hx754_0)); (try have hy754_1 := fun (n_ : Nat) => (show (((((w19.drewN n_).setCell ⟨gb753, 0, none⟩ (.int .i64 ((rd_T30 t745 x28_2).f0))).setCell ⟨gb753, 1, none⟩ (.int .i64 ((rd_T30 t745 x28_2).f1))).setCell ⟨gb753, 2, none⟩ (.int .i64 ((rd_T30 t745 x28_2).f2)))).cell? _ = some _ from hx754_1)); (try have hy754_2 := fun (n_ : Nat) => (show (((((w19.drewN n_).setCell ⟨gb753, 0, none⟩ (.int .i64 ((rd_T30 t745 x28_2).f0))).setCell ⟨gb753, 1, none⟩ (.int .i64 ((rd_T30 t745 x28_2).f1))).setCell ⟨gb753, 2, none⟩ (.int .i64 ((rd_T30 t745 x28_2).f2)))).cell? _ = some _ from hx754_2)); replace p754 := eq_true p754; replace q754 := eq_true q754)))
     go_roundg k2
     case measure => have := HK1.out; have := HK2.out; omega
     case rel => exact ⟨((((rd_T30 t745 x28_2).f0) == ((rd_T30 x0_1 x28_2).f0) && (((rd_T30 t745 x28_2).f1) == ((rd_T30 x0_1 x28_2).f1) && (((rd_T30 t745 x28_2).f2) == ((rd_T30 x0_1 x28_2).f2))))), (wrap64 (x28_2 + 1)), (by first | rfl | (simp; done) | (simp [*]; done)), (by first | rfl | (simp; done) | (simp [*]; done)), H', ⟨by have := HK1.out; have := HK2.out; omega⟩, ⟨by exact Kd.V_mono (Kd.V_far (p := ⟨gb753, 2, none⟩) (Kd.V_far (p := ⟨gb753, 1, none⟩) (Kd.V_far (p := ⟨gb753, 0, none⟩) (Kd.V_mono HO_0.out (fun k_ hk => (⟨hk, hk.2⟩ : _ ∧ k_ ≠ gb753))) (fun _ hk => hk.2) (.int .i64 ((rd_T30 t745 x28_2).f0))) (fun _ hk => hk.2) (.int .i64 ((rd_T30 t745 x28_2).f1))) (fun _ hk => hk.2) (.int .i64 ((rd_T30 t745 x28_2).f2))) (fun _ hk => ⟨hk.1.1.1, ⟨hk.1.1.2.1, hk.1.1.2.2⟩⟩)⟩, ⟨by exact Kd.R_mono (Kd.R_far (p := ⟨gb753, 2, none⟩) (Kd.R_far (p := ⟨gb753, 1, none⟩) (Kd.R_far (p := ⟨gb753, 0, none⟩) (Kd.R_mono HO_5.out (fun k_ hk => (⟨hk, hk.2⟩ : _ ∧ k_ ≠ gb753))) (fun _ hk => hk.2) (.int .i64 ((rd_T30 t745 x28_2).f0))) (fun _ hk => hk.2) (.int .i64 ((rd_T30 t745 x28_2).f1))) (fun _ hk => hk.2) (.int .i64 ((rd_T30 t745 x28_2).f2))) (fun _ hk => hk.1.1)⟩, ⟨by exact Kd.R_mono (Kd.R_far (p := ⟨gb753, 2, none⟩) (Kd.R_far (p := ⟨gb753, 1, none⟩) (Kd.R_far (p := ⟨gb753, 0, none⟩) (Kd.R_mono HO_26.out (fun k_ hk => (⟨hk, hk.2⟩ : _ ∧ k_ ≠ gb753))) (fun _ hk => hk.2) (.int .i64 ((rd_T30 t745 x28_2).f0))) (fun _ hk => hk.2) (.int .i64 ((rd_T30 t745 x28_2).f1))) (fun _ hk => hk.2) (.int .i64 ((rd_T30 t745 x28_2).f2))) (fun _ hk => hk.1.1)⟩, ⟨bw HB⟩⟩
def spec_HeldInRow.f (k : Nat) (l0 : List (S30)) : Option (Int × Bool) := (spec_weRow.f k l0).bind fun t755 => (if t755 = true then ((spec_weHeld.f k l0).bind fun t756 => (some (t756, true))) else (some (0, false)))
set_option maxHeartbeats 8000000 in
set_option maxRecDepth 100000 in
theorem spec_HeldInRow.calls (k : Nat) (A0 : Option Addr) (c0 : Nat) (l0 : List (S30)) (r1 : Int) (r2 : Bool) (w : World) (hr0 : Kd.C k30 w A0 l0.length l0) (hc0 : l0.length ≤ c0) (h : spec_HeldInRow.f k l0 = some (r1, r2)) :
  Calls Try.prog 10 #[.slice A0 l0.length c0] w fun e w' => e = .returned (.tuple #[.int .i64 r1, .bool r2]) ∧ Below w.heap.size w w' := by
 have HR0 := Aside0.mk hr0
 have HC0 := Aside0.mk hc0
 clear hr0 hc0
 have HB := Aside0.mk (Below.refl w.heap.size w)
 have H : ((spec_weRow.f k l0).bind fun t755 => (if t755 = true then ((spec_weHeld.f k l0).bind fun t756 => (some (t756, true))) else (some (0, false)))) = some (r1, r2) := h
 clear h
 replace H := Option.bind_eq_some_iff.mp H
 obtain ⟨t755, A20, H⟩ := H
 (try dsimp only at H)
 have A2 := Aside0.mk A20
 clear A20
 by_cases c3 : t755 = true
 rotate_left
 ·replace c3 := Bool.eq_false_iff.mpr c3
  subst c3
  have H1 : (some (0, false)) = some (r1, r2) := by rw [if_neg (show ¬ (false = true) by decide)] at H; exact H
  clear H
  have H := H1
  clear H1
  simp only [Option.some.injEq, Prod.mk.injEq] at H
  obtain ⟨rfl, rfl⟩ := H
  go_enter Try.func10, Try.ntmps10
  go_wp2_with (first | ((with_reducible refine gate_callee (f := 51) rfl ?_); refine gl 5 Try.func51 #[.slice A0 l0.length c0] ?_; (with_reducible refine (spec_weRow.calls k _ _ l0 false _ ?side1 ?side2 A2.out).mono ?_); (case side1 => repeat (first | exact HR0.out | (with_reducible refine Kd.C_alloc ?_ _) | (with_reducible refine Kd.C_drewN ?_ _) | (with_reducible refine Kd.C_drew ?_))); (case side2 => exact HC0.out); rintro e w7 ⟨rfl, hb⟩; refine ⟨_, rfl, ?_⟩; replace HB := bs HB hb; (try clear hb)))
  go_ret2
  exact ⟨by first | rfl | (simp [errW_none, errW_some] <;> rfl) | (simp [*, errW_none, errW_some] <;> rfl), bw HB⟩
 subst c3
 have H1 : ((spec_weHeld.f k l0).bind fun t756 => (some (t756, true))) = some (r1, r2) := by rw [if_pos rfl] at H; exact H
 clear H
 have H := H1
 clear H1
 replace H := Option.bind_eq_some_iff.mp H
 obtain ⟨t756, A40, H⟩ := H
 (try dsimp only at H)
 have A4 := Aside0.mk A40
 clear A40
 simp only [Option.some.injEq, Prod.mk.injEq] at H
 obtain ⟨rfl, rfl⟩ := H
 go_enter Try.func10, Try.ntmps10
 go_wp2_with (first | ((with_reducible refine gate_callee (f := 51) rfl ?_); refine gl 5 Try.func51 #[.slice A0 l0.length c0] ?_; (with_reducible refine (spec_weRow.calls k _ _ l0 true _ ?side1 ?side2 A2.out).mono ?_); (case side1 => repeat (first | exact HR0.out | (with_reducible refine Kd.C_alloc ?_ _) | (with_reducible refine Kd.C_drewN ?_ _) | (with_reducible refine Kd.C_drew ?_))); (case side2 => exact HC0.out); rintro e w5 ⟨rfl, hb⟩; refine ⟨_, rfl, ?_⟩; replace HB := bs HB hb; (try clear hb)) | ((with_reducible refine gate_callee (f := 52) rfl ?_); refine gl 8 Try.func52 #[.slice A0 l0.length c0] ?_; (with_reducible refine (spec_weHeld.calls k _ _ l0 t756 _ ?side1 ?side2 A4.out).mono ?_); (case side1 => exact ck HR0 HB); (case side2 => exact HC0.out); rintro e w6 ⟨rfl, hb⟩; refine ⟨_, rfl, ?_⟩; replace HB := bs HB hb; (try clear hb)))
 go_ret2
 exact ⟨by first | rfl | (simp [errW_none, errW_some] <;> rfl) | (simp [*, errW_none, errW_some] <;> rfl), bw HB⟩
def spec_IsRow.f (k : Nat) (l0 : List (S30)) : Option (Bool) := (spec_weRow.f k l0).bind fun t757 => (some t757)
set_option maxHeartbeats 8000000 in
set_option maxRecDepth 100000 in
theorem spec_IsRow.calls (k : Nat) (A0 : Option Addr) (c0 : Nat) (l0 : List (S30)) (r : Bool) (w : World) (hr0 : Kd.C k30 w A0 l0.length l0) (hc0 : l0.length ≤ c0) (h : spec_IsRow.f k l0 = some r) :
  Calls Try.prog 12 #[.slice A0 l0.length c0] w fun e w' => e = .returned (.bool r) ∧ Below w.heap.size w w' := by
 have HR0 := Aside0.mk hr0
 have HC0 := Aside0.mk hc0
 clear hr0 hc0
 have HB := Aside0.mk (Below.refl w.heap.size w)
 have H : ((spec_weRow.f k l0).bind fun t757 => (some t757)) = some r := h
 clear h
 replace H := Option.bind_eq_some_iff.mp H
 obtain ⟨t757, A20, H⟩ := H
 (try dsimp only at H)
 have A2 := Aside0.mk A20
 clear A20
 obtain rfl := Option.some.inj H
 go_enter Try.func12, Try.ntmps12
 go_wp2_with (first | ((with_reducible refine gate_callee (f := 51) rfl ?_); refine gl 4 Try.func51 #[.slice A0 l0.length c0] ?_; (with_reducible refine (spec_weRow.calls k _ _ l0 t757 _ ?side1 ?side2 A2.out).mono ?_); (case side1 => repeat (first | exact HR0.out | (with_reducible refine Kd.C_alloc ?_ _) | (with_reducible refine Kd.C_drewN ?_ _) | (with_reducible refine Kd.C_drew ?_))); (case side2 => exact HC0.out); rintro e w3 ⟨rfl, hb⟩; refine ⟨_, rfl, ?_⟩; replace HB := bs HB hb; (try clear hb)))
 go_ret
 exact ⟨by first | rfl | (simp [errW_none, errW_some] <;> rfl) | (simp [*, errW_none, errW_some] <;> rfl), bw HB⟩
def spec_l1Cur_flow.f (s0_0 : List Int) (s0_1 : Int) (s0_2 : Int) : Option (Int × Int × Int) := (spec_l1Cur_one.f s0_0 s0_1 s0_2 12).bind fun bt758 => (if bt758.1 = true then ((spec_l1Cur_among.f s0_0 bt758.2.1 bt758.2.2 (([(-1), 0, 1000, 1001] : List Int))).bind fun bt764 => (some (bt764.1, bt764.2.1, bt764.2.2))) else ((spec_l1Cur_pick.f s0_0 bt758.2.1 bt758.2.2 9).bind fun bt767 => (some (bt767.1, bt767.2.1, bt767.2.2))))
set_option maxHeartbeats 8000000 in
set_option maxRecDepth 100000 in
theorem spec_l1Cur_flow.calls (g : Nat) (s0_0 : List Int) (s0_1 : Int) (s0_2 : Int) (r1 : Int) (r2 : Int) (r3 : Int) (w0 w : World) (hI : IsS83 w0 w g s0_0 s0_1 s0_2) (hB : Below w0.heap.size w0 w) (h : spec_l1Cur_flow.f s0_0 s0_1 s0_2 = some (r1, r2, r3)) :
  Calls Try.prog 68 #[.pointer (some ⟨g, 0, none⟩)] w fun e w' => e = .returned (.int .i64 r1) ∧ IsS83 w0 w' g s0_0 r2 r3 ∧ Below w0.heap.size w0 w' ∧ KeepBut w w' g none := by
 have HI0 := Aside0.mk hI
 have HK := Aside0.mk (KeepBut.refl w g none)
 have HL := Aside0.mk hB.size
 clear hI
 have HW0 := Aside0.mk hB.size
 have HB := Aside0.mk hB
 clear hB
 have H : ((spec_l1Cur_one.f s0_0 s0_1 s0_2 12).bind fun bt758 => (if bt758.1 = true then ((spec_l1Cur_among.f s0_0 bt758.2.1 bt758.2.2 (([(-1), 0, 1000, 1001] : List Int))).bind fun bt764 => (some (bt764.1, bt764.2.1, bt764.2.2))) else ((spec_l1Cur_pick.f s0_0 bt758.2.1 bt758.2.2 9).bind fun bt767 => (some (bt767.1, bt767.2.1, bt767.2.2))))) = some (r1, r2, r3) := h
 clear h
 replace H := Option.bind_eq_some_iff.mp H
 obtain ⟨⟨t758, t759, t760⟩, A20, H⟩ := H
 (try dsimp only at H)
 have A2 := Aside0.mk A20
 clear A20
 by_cases c3 : t758 = true
 rotate_left
 ·replace c3 := Bool.eq_false_iff.mpr c3
  subst c3
  have H1 : ((spec_l1Cur_pick.f s0_0 t759 t760 9).bind fun bt767 => (some (bt767.1, bt767.2.1, bt767.2.2))) = some (r1, r2, r3) := by rw [if_neg (show ¬ (false = true) by decide)] at H; exact H
  clear H
  have H := H1
  clear H1
  replace H := Option.bind_eq_some_iff.mp H
  obtain ⟨⟨t767, t768, t769⟩, A100, H⟩ := H
  (try dsimp only at H)
  have A10 := Aside0.mk A100
  clear A100
  simp only [Option.some.injEq, Prod.mk.injEq] at H
  obtain ⟨rfl, rfl, rfl⟩ := H
  go_enter Try.func68, Try.ntmps68
  go_wp2_with (first | ((with_reducible refine gate_callee (f := 82) rfl ?_); refine gl 4 Try.func82 #[.pointer (some ⟨g, 0, none⟩), .int .i64 12] ?_; (with_reducible refine (spec_l1Cur_one.calls g s0_0 s0_1 s0_2 12 false t759 t760 w0 _ ?side1 ?side2 A2.out).mono ?_); (case side1 => repeat (first | (with_reducible first | exact HI0.out | apply IsS83.alloc | apply IsS83.drewN | apply IsS83.drew | apply IsS83.set_1 | apply IsS83.set_2) | exact HI0.out)); (case side2 => repeat (first | (with_reducible first | exact HB.out | apply below_alloc | apply pw_below_drewN | apply below_drew1 | refine below_set ?_ (IsS83.ge HI0.out)) | exact HB.out)); rintro e w11 ⟨rfl, hi, hb, hk⟩; refine ⟨_, rfl, ?_⟩; replace HK := Aside0.mk (KeepBut.trans (by repeat (first | (with_reducible first | exact HK.out | apply KeepBut.set_ | apply keep_drewN | apply keep_drew | apply keep_alloc) | exact HK.out)) hk (.inl rfl)); replace HB := Aside0.mk (hb); replace HI0 := Aside0.mk (hi); (try clear hb); (try clear hk); (try clear hi)) | ((with_reducible refine gate_callee (f := 80) rfl ?_); refine gl 9 Try.func80 #[.pointer (some ⟨g, 0, none⟩), .int .i64 9] ?_; (with_reducible refine (spec_l1Cur_pick.calls g s0_0 t759 t760 9 t767 t768 t769 w0 _ ?side1 ?side2 A10.out).mono ?_); (case side1 => repeat (first | (with_reducible first | exact HI0.out | apply IsS83.alloc | apply IsS83.drewN | apply IsS83.drew | apply IsS83.set_1 | apply IsS83.set_2) | exact HI0.out)); (case side2 => repeat (first | (with_reducible first | exact HB.out | apply below_alloc | apply pw_below_drewN | apply below_drew1 | refine below_set ?_ (IsS83.ge HI0.out)) | exact HB.out)); rintro e w12 ⟨rfl, hi, hb, hk⟩; refine ⟨_, rfl, ?_⟩; replace HK := Aside0.mk (KeepBut.trans (by repeat (first | (with_reducible first | exact HK.out | apply KeepBut.set_ | apply keep_drewN | apply keep_drew | apply keep_alloc) | exact HK.out)) hk (.inl rfl)); replace HB := Aside0.mk (hb); replace HI0 := Aside0.mk (hi); (try clear hb); (try clear hk); (try clear hi)))
  go_ret
  exact ⟨by first | rfl | (simp [errW_none, errW_some] <;> rfl) | (simp [*, errW_none, errW_some] <;> rfl), by repeat (first | (with_reducible first | exact HI0.out | apply IsS83.alloc | apply IsS83.drewN | apply IsS83.drew | apply IsS83.set_1 | apply IsS83.set_2) | exact HI0.out), by repeat (first | (with_reducible first | exact HB.out | apply below_alloc | apply pw_below_drewN | apply below_drew1 | refine below_set ?_ (IsS83.ge HI0.out)) | exact HB.out), by repeat (first | (with_reducible first | exact HK.out | apply KeepBut.set_ | apply keep_drewN | apply keep_drew | apply keep_alloc) | exact HK.out)⟩
 subst c3
 have H1 : ((spec_l1Cur_among.f s0_0 t759 t760 (([(-1), 0, 1000, 1001] : List Int))).bind fun bt764 => (some (bt764.1, bt764.2.1, bt764.2.2))) = some (r1, r2, r3) := by rw [if_pos rfl] at H; exact H
 clear H
 have H := H1
 clear H1
 obtain ⟨y761, hy761⟩ : ∃ y_ : List Int, y_ = (([(-1), 0, 1000, 1001] : List Int)) := ⟨_, rfl⟩
 replace H : ((spec_l1Cur_among.f s0_0 t759 t760 y761).bind fun bt764 => (some (bt764.1, bt764.2.1, bt764.2.2))) = some (r1, r2, r3) := by first | (rw [hy761]; with_reducible exact H) | (have H2_ := (Option.bind_some _ _).symm.trans H; rw [hy761]; with_reducible exact H2_) | (have H2_ := (Option.bind_some _ _).symm.trans H; with_reducible exact H2_) | with_reducible exact H | (rw [hy761]; exact H) | exact H
 have Ny761 := Aside0.mk hy761
 clear hy761
 replace H := Option.bind_eq_some_iff.mp H
 obtain ⟨⟨t764, t765, t766⟩, A40, H⟩ := H
 (try dsimp only at H)
 have A4 := Aside0.mk A40
 clear A40
 simp only [Option.some.injEq, Prod.mk.injEq] at H
 obtain ⟨rfl, rfl, rfl⟩ := H
 go_enter Try.func68, Try.ntmps68
 go_wp2_with (first | ((with_reducible refine gate_callee (f := 82) rfl ?_); refine gl 4 Try.func82 #[.pointer (some ⟨g, 0, none⟩), .int .i64 12] ?_; (with_reducible refine (spec_l1Cur_one.calls g s0_0 s0_1 s0_2 12 true t759 t760 w0 _ ?side1 ?side2 A2.out).mono ?_); (case side1 => repeat (first | (with_reducible first | exact HI0.out | apply IsS83.alloc | apply IsS83.drewN | apply IsS83.drew | apply IsS83.set_1 | apply IsS83.set_2) | exact HI0.out)); (case side2 => repeat (first | (with_reducible first | exact HB.out | apply below_alloc | apply pw_below_drewN | apply below_drew1 | refine below_set ?_ (IsS83.ge HI0.out)) | exact HB.out)); rintro e w5 ⟨rfl, hi, hb, hk⟩; refine ⟨_, rfl, ?_⟩; replace HK := Aside0.mk (KeepBut.trans (by repeat (first | (with_reducible first | exact HK.out | apply KeepBut.set_ | apply keep_drewN | apply keep_drew | apply keep_alloc) | exact HK.out)) hk (.inl rfl)); replace HB := Aside0.mk (hb); replace HI0 := Aside0.mk (hi); (try clear hb); (try clear hk); (try clear hi)) | ((with_reducible refine gate_dst (N := 6) rfl ?_); refine Kd.R_lit (Kd.int .i64) _ 3 ?hg (N := 6) ?hd (xs := ([(-1), 0, 1000, 1001] : List Int)) (inner := [.int .i64 (-1), .int .i64 0, .int .i64 1000, .int .i64 1001]) (ok := fun _ => True) (okp := fun _ => True) ?hr ?hp (fun _ hk => hk) trivial (Below.refl _ _) (Nat.le_refl _) (by simp) ?_; (case hd => rfl); (case hg => rfl); (case hr => first | (go_simp; done) | (go_simp; rfl)); (case hp => exact (Reps.one (show Kd.M (Kd.int .i64) _ _ _ (-1) [.int .i64 (-1)] from rfl) (Reps.one (show Kd.M (Kd.int .i64) _ _ _ 0 [.int .i64 0] from rfl) (Reps.one (show Kd.M (Kd.int .i64) _ _ _ 1000 [.int .i64 1000] from rfl) (Reps.one (show Kd.M (Kd.int .i64) _ _ _ 1001 [.int .i64 1001] from rfl) (Reps.none _ _)))))); intro v762 w6 ho7 hb hg_ hnew_; clear hg_ hnew_; (first | rw [← Ny761.out] at ho7 | (simp only [Int.reduceToNat] at ho7; rw [← Ny761.out] at ho7)); have HO763 := Aside0.mk (Kd.R_lower ho7 (keep_size (w := w) (g := g) (row := none) (by repeat (first | (with_reducible first | exact HK.out | apply KeepBut.set_ | apply keep_drewN | apply keep_drew | apply keep_alloc) | exact HK.out)))); replace HK := Aside0.mk (KeepBut.trans (by repeat (first | (with_reducible first | exact HK.out | apply KeepBut.set_ | apply keep_drewN | apply keep_drew | apply keep_alloc) | exact HK.out)) (KeepBut.of_below hb g none) (.inl rfl)); replace HB := Aside0.mk (below_step (by repeat (first | (with_reducible first | exact HB.out | apply below_alloc | apply pw_below_drewN | apply below_drew1 | refine below_set ?_ (IsS83.ge HI0.out)) | exact HB.out)) hb); replace HI0 := Aside0.mk (IsS83.below (by repeat (first | (with_reducible first | exact HI0.out | apply IsS83.alloc | apply IsS83.drewN | apply IsS83.drew | apply IsS83.set_1 | apply IsS83.set_2) | exact HI0.out)) hb); clear hb ho7; obtain ⟨Ao8, co8, eo8⟩ := Kd.R_slice HO763.out; subst eo8) | ((with_reducible refine gate_callee (f := 81) rfl ?_); refine gl 7 Try.func81 #[.pointer (some ⟨g, 0, none⟩), .slice Ao8 y761.length co8] ?_; (with_reducible refine (spec_l1Cur_among.calls g s0_0 t759 t760 _ _ y761 t764 t765 t766 w0 _ ?side1 ?side2 ?side3 ?side4 ?side5 A4.out).mono ?_); (case side1 => repeat (first | (with_reducible first | exact HI0.out | apply IsS83.alloc | apply IsS83.drewN | apply IsS83.drew | apply IsS83.set_1 | apply IsS83.set_2) | exact HI0.out)); (case side2 => repeat (first | (with_reducible first | exact HB.out | apply below_alloc | apply pw_below_drewN | apply below_drew1 | refine below_set ?_ (IsS83.ge HI0.out)) | exact HB.out)); (case side3 => exact cr HO763); (case side4 => exact (Kd.R_reads' HO763.out).2.1); (case side5 => exact far_slice (IsS83.own_ne HI0.out HO763.out (by decide))); rintro e w9 ⟨rfl, hi, hb, hk⟩; refine ⟨_, rfl, ?_⟩; replace HO763 := Aside0.mk (Kd.R_mono (Kd.R_keep (IsS83.apart (show IsS83 w0 _ g s0_0 t759 t760 from by repeat (first | (with_reducible first | exact HI0.out | apply IsS83.alloc | apply IsS83.drewN | apply IsS83.drew | apply IsS83.set_1 | apply IsS83.set_2) | exact HI0.out)) (rk HO763) (by decide)) hk (fun _ h => h.2)) (fun _ h => h.1)); replace HK := Aside0.mk (KeepBut.trans (by repeat (first | (with_reducible first | exact HK.out | apply KeepBut.set_ | apply keep_drewN | apply keep_drew | apply keep_alloc) | exact HK.out)) hk (.inl rfl)); replace HB := Aside0.mk (hb); replace HI0 := Aside0.mk (hi); (try clear hb); (try clear hk); (try clear hi)))
 go_ret
 exact ⟨by first | rfl | (simp [errW_none, errW_some] <;> rfl) | (simp [*, errW_none, errW_some] <;> rfl), by repeat (first | (with_reducible first | exact HI0.out | apply IsS83.alloc | apply IsS83.drewN | apply IsS83.drew | apply IsS83.set_1 | apply IsS83.set_2) | exact HI0.out), by repeat (first | (with_reducible first | exact HB.out | apply below_alloc | apply pw_below_drewN | apply below_drew1 | refine below_set ?_ (IsS83.ge HI0.out)) | exact HB.out), by repeat (first | (with_reducible first | exact HK.out | apply KeepBut.set_ | apply keep_drewN | apply keep_drew | apply keep_alloc) | exact HK.out)⟩
def spec_DrawTickRow.f (k : Nat) (l0 : List Int) : Option ((List (S30)) × Int) := (spec_l1Cur_row.f k l0 0 0 4).bind fun bt771 => ((spec_l1Cur_flow.f l0 bt771.2.1 bt771.2.2).bind fun bt776 => (some (bt771.1, bt776.1)))
theorem spec_DrawTickRow.mono : ∀ a0 k, LeO (spec_DrawTickRow.f k a0) (spec_DrawTickRow.f (k + 1) a0) := by
 intro a0 k
 unfold spec_DrawTickRow.f
 repeat' first
   | (with_reducible exact spec_l1Cur_row.mono _ _ _ _ _)
   | (with_reducible exact LeO.refl _)
   | (with_reducible exact LeO.none _)
   | (with_reducible refine LeO.ite ?_ ?_)
   | (with_reducible refine LeO.bind ?_ (fun _ => ?_))
   | exact spec_l1Cur_row.mono _ _ _ _ _
   | exact LeO.none _
   | refine LeO.ite ?_ ?_
   | refine LeO.bind ?_ (fun _ => ?_)
set_option maxHeartbeats 8000000 in
set_option maxRecDepth 100000 in
theorem spec_DrawTickRow.calls (k : Nat) (A0 : Option Addr) (c0 : Nat) (l0 : List Int) (r1 : List (S30)) (r2 : Int) (w : World) (hr0 : Kd.C (Kd.int .u8) w A0 l0.length l0) (hc0 : l0.length ≤ c0) (h : spec_DrawTickRow.f k l0 = some (r1, r2)) :
  Calls Try.prog 25 #[.slice A0 l0.length c0] w fun e w' => ∃ v0_ : Value, e = .returned (.tuple #[v0_, .int .i64 r2]) ∧ Kd.R k30 30 w' w.heap.size (fun _ => True) v0_ r1 ∧ Below w.heap.size w w' := by
 have hu83 := Try.underlying83
 have HR0 := Aside0.mk hr0
 have HC0 := Aside0.mk hc0
 clear hr0 hc0
 have HB := Aside0.mk (Below.refl w.heap.size w)
 have H : ((spec_l1Cur_row.f k l0 0 0 4).bind fun bt771 => ((spec_l1Cur_flow.f l0 bt771.2.1 bt771.2.2).bind fun bt776 => (some (bt771.1, bt776.1)))) = some (r1, r2) := h
 clear h
 replace H := Option.bind_eq_some_iff.mp H
 obtain ⟨⟨t771, t774, t775⟩, A20, H⟩ := H
 (try dsimp only at H)
 have A2 := Aside0.mk A20
 clear A20
 replace H := Option.bind_eq_some_iff.mp H
 obtain ⟨⟨t776, t777, t778⟩, A30, H⟩ := H
 (try dsimp only at H)
 have A3 := Aside0.mk A30
 clear A30
 simp only [Option.some.injEq, Prod.mk.injEq] at H
 obtain ⟨rfl, rfl⟩ := H
 go_enter Try.func25, Try.ntmps25
 go_wp2_with (first | ((with_reducible refine gate_dst (N := 7) rfl ?_); refine bx 7 #[.slice A0 l0.length c0, .int .i64 0, .int .u64 0] 83 ?_; intro gb770 hg w4 hbox hb; have HI770 := Aside0.mk ((⟨_, _, hbox, (by rw [hg]; exact (below_size (bw HB)) : w.heap.size ≤ gb770), HR0.out⟩ : IsS83 w _ gb770 l0 0 0)); replace HB := bs HB hb; clear hb hbox hg) | ((with_reducible refine gate_callee (f := 67) rfl ?_); refine gl 9 Try.func67 #[.pointer (some ⟨gb770, 0, none⟩), .int .i64 4] ?_; (with_reducible refine (spec_l1Cur_row.calls k gb770 l0 0 0 4 t771 t774 t775 w _ ?side1 ?side2 A2.out).mono ?_); (case side1 => repeat (first | (with_reducible first | exact HI770.out | apply IsS83.alloc | apply IsS83.drewN | apply IsS83.drew | apply IsS83.set_1 | apply IsS83.set_2) | exact HI770.out)); (case side2 => repeat (first | (with_reducible first | exact HB.out | apply below_alloc | apply pw_below_drewN | apply below_drew1 | refine below_set ?_ (IsS83.ge HI770.out)) | exact HB.out)); rintro e w5 ⟨v772, rfl, ho0, hi, hb, hk⟩; refine ⟨_, rfl, ?_⟩; have HO773 := Aside0.mk (Kd.R_lower ho0 (below_size (by repeat (first | (with_reducible first | exact HB.out | apply below_alloc | apply pw_below_drewN | apply below_drew1 | refine below_set ?_ (IsS83.ge HI770.out)) | exact HB.out)))); replace HB := Aside0.mk (hb); replace HI770 := Aside0.mk (hi); (try clear hb); (try clear hk); (try clear hi); (try clear ho0)) | ((with_reducible refine gate_callee (f := 68) rfl ?_); refine gl 11 Try.func68 #[.pointer (some ⟨gb770, 0, none⟩)] ?_; (with_reducible refine (spec_l1Cur_flow.calls gb770 l0 t774 t775 t776 t777 t778 w _ ?side1 ?side2 A3.out).mono ?_); (case side1 => repeat (first | (with_reducible first | exact HI770.out | apply IsS83.alloc | apply IsS83.drewN | apply IsS83.drew | apply IsS83.set_1 | apply IsS83.set_2) | exact HI770.out)); (case side2 => repeat (first | (with_reducible first | exact HB.out | apply below_alloc | apply pw_below_drewN | apply below_drew1 | refine below_set ?_ (IsS83.ge HI770.out)) | exact HB.out)); rintro e w6 ⟨rfl, hi, hb, hk⟩; refine ⟨_, rfl, ?_⟩; replace HO773 := Aside0.mk (Kd.R_mono (Kd.R_keep (IsS83.apart (show IsS83 w _ gb770 l0 t774 t775 from by repeat (first | (with_reducible first | exact HI770.out | apply IsS83.alloc | apply IsS83.drewN | apply IsS83.drew | apply IsS83.set_1 | apply IsS83.set_2) | exact HI770.out)) (rk HO773) (by decide)) hk (fun _ h => h.2)) (fun _ h => h.1)); replace HB := Aside0.mk (hb); replace HI770 := Aside0.mk (hi); (try clear hb); (try clear hk); (try clear hi)))
 go_ret2
 exact ⟨_, by first | rfl | (simp [errW_none, errW_some] <;> rfl) | (simp [*, errW_none, errW_some] <;> rfl), rk HO773, by repeat (first | (with_reducible first | exact HB.out | apply below_alloc | apply pw_below_drewN | apply below_drew1 | refine below_set ?_ (IsS83.ge HI770.out)) | exact HB.out)⟩
def spec_DrawSteadyHeld.f (k : Nat) (l0 : List Int) : Option ((List (S30)) × Int) := (spec_DrawTickRow.f k l0).bind fun bt779 => (some (bt779.1, bt779.2))
theorem spec_DrawSteadyHeld.mono : ∀ a0 k, LeO (spec_DrawSteadyHeld.f k a0) (spec_DrawSteadyHeld.f (k + 1) a0) := by
 intro a0 k
 unfold spec_DrawSteadyHeld.f
 repeat' first
   | (with_reducible exact spec_DrawTickRow.mono _ _)
   | (with_reducible exact LeO.refl _)
   | (with_reducible exact LeO.none _)
   | (with_reducible refine LeO.ite ?_ ?_)
   | (with_reducible refine LeO.bind ?_ (fun _ => ?_))
   | exact spec_DrawTickRow.mono _ _
   | exact LeO.none _
   | refine LeO.ite ?_ ?_
   | refine LeO.bind ?_ (fun _ => ?_)
set_option maxHeartbeats 8000000 in
set_option maxRecDepth 100000 in
theorem spec_DrawSteadyHeld.calls (k : Nat) (A0 : Option Addr) (c0 : Nat) (l0 : List Int) (r1 : List (S30)) (r2 : Int) (w : World) (hr0 : Kd.C (Kd.int .u8) w A0 l0.length l0) (hc0 : l0.length ≤ c0) (h : spec_DrawSteadyHeld.f k l0 = some (r1, r2)) :
  Calls Try.prog 14 #[.slice A0 l0.length c0] w fun e w' => ∃ v0_ : Value, e = .returned (.tuple #[v0_, .int .i64 r2]) ∧ Kd.R k30 30 w' w.heap.size (fun _ => True) v0_ r1 ∧ Below w.heap.size w w' := by
 have HR0 := Aside0.mk hr0
 have HC0 := Aside0.mk hc0
 clear hr0 hc0
 have HB := Aside0.mk (Below.refl w.heap.size w)
 have H : ((spec_DrawTickRow.f k l0).bind fun bt779 => (some (bt779.1, bt779.2))) = some (r1, r2) := h
 clear h
 replace H := Option.bind_eq_some_iff.mp H
 obtain ⟨⟨t779, t780⟩, A20, H⟩ := H
 (try dsimp only at H)
 have A2 := Aside0.mk A20
 clear A20
 simp only [Option.some.injEq, Prod.mk.injEq] at H
 obtain ⟨rfl, rfl⟩ := H
 go_enter Try.func14, Try.ntmps14
 go_wp2_with (first | ((with_reducible refine gate_callee (f := 25) rfl ?_); refine gl 5 Try.func25 #[.slice A0 l0.length c0] ?_; (with_reducible refine (spec_DrawTickRow.calls k _ _ l0 t779 t780 _ ?side1 ?side2 A2.out).mono ?_); (case side1 => repeat (first | exact HR0.out | (with_reducible refine Kd.C_alloc ?_ _) | (with_reducible refine Kd.C_drewN ?_ _) | (with_reducible refine Kd.C_drew ?_))); (case side2 => exact HC0.out); rintro e w3 ⟨v781, rfl, ho0, hb⟩; refine ⟨_, rfl, ?_⟩; have HO782 := lo ho0 HB; replace HB := bs HB hb; (try clear hb); (try clear ho0)))
 go_ret2
 exact ⟨_, by first | rfl | (simp [errW_none, errW_some] <;> rfl) | (simp [*, errW_none, errW_some] <;> rfl), rk HO782, bw HB⟩
def impl_Basin_59.l0 : Nat → List (S30) → List (S30) → Int → Int → Option (Bool)
 | 0, _, _, _, _ => none
 | k + 1, x0, x1, x12, x13 => if x13 < x12 then (if 0 ≤ x13 then (if x13 < (x0.length : Int) then (if x13 < (x1.length : Int) then (if (!(((rd_T30 x0 x13).f0) == ((rd_T30 x1 x13).f0)) || (!(((rd_T30 x0 x13).f1) == ((rd_T30 x1 x13).f1)) || (!(((rd_T30 x0 x13).f2) == ((rd_T30 x1 x13).f2))))) = true then (some false) else (impl_Basin_59.l0 k x0 x1 x12 (wrap64 (x13 + 1)))) else (none)) else (none)) else (none)) else (some true)
def impl_Basin_59.f (k : Nat) (l0 : List (S30)) (l1 : List (S30)) : Option (Bool) := if (l0.length : Int) = (l1.length : Int) then (impl_Basin_59.l0 k l0 l1 (l0.length : Int) 0) else (some false)
set_option maxHeartbeats 8000000 in
set_option maxRecDepth 100000 in
theorem impl_Basin_59.calls (k : Nat) (A0 : Option Addr) (c0 : Nat) (l0 : List (S30)) (A1 : Option Addr) (c1 : Nat) (l1 : List (S30)) (r : Bool) (w : World) (hr0 : Kd.C k30 w A0 l0.length l0) (hc0 : l0.length ≤ c0) (hr1 : Kd.C k30 w A1 l1.length l1) (hc1 : l1.length ≤ c1) (h : impl_Basin_59.f k l0 l1 = some r) :
  Calls Try.prog 59 #[.slice A0 l0.length c0, .slice A1 l1.length c1] w fun e w' => e = .returned (.bool r) ∧ Drawn0 w w' := by
 have hu30 := Try.underlying30
 have HR0 := Aside0.mk hr0
 have HC0 := Aside0.mk hc0
 clear hr0 hc0
 have HR1 := Aside0.mk hr1
 have HC1 := Aside0.mk hc1
 clear hr1 hc1
 have H : (if (l0.length : Int) = (l1.length : Int) then (impl_Basin_59.l0 k l0 l1 (l0.length : Int) 0) else (some false)) = some r := h
 clear h
 by_cases c3 : (l0.length : Int) = (l1.length : Int)
 rotate_left
 ·rw [if_neg c3] at H
  have c3b0 : ((l0.length : Int) == (l1.length : Int)) = false := beq_eq_false_iff_ne.mpr c3
  have c3b1 : ((l0.length : Int) != (l1.length : Int)) = true := bne_iff_ne.mpr c3
  have c3b2 : (l0.length == l1.length) = false := by first | simpa using c3 | (simp at c3 ⊢; omega)
  obtain rfl := Option.some.inj H
  go_enter Try.func59, Try.ntmps59
  go_wp2
  repeat (go_quiet (fail); try go_wp2)
  go_ret
  exact ⟨by first | rfl | (simp; done) | (simp [*]; done), by repeat (first | exact Drawn0.refl _ | apply Drawn0.step)⟩
 rw [if_pos c3] at H
 have c3b0 : ((l0.length : Int) == (l1.length : Int)) = true := beq_iff_eq.mpr c3
 have c3b1 : ((l0.length : Int) != (l1.length : Int)) = false := bne_eq_false_iff_eq.mpr c3
 have c3b2 : (l0.length == l1.length) = true := by first | simpa using c3 | (simp at c3 ⊢; omega)
 clear c3
 have H' := Aside0.mk H
 clear H
 go_enter Try.func59, Try.ntmps59
 go_wp2
 repeat (go_quiet (fail); try go_wp2)
 try simp only [Act.put, List.setIfInBounds_toArray, List.set_cons_zero, List.set_cons_succ]
 go_loopg [13] k (fun kq v13 w' => ∃ (x13_1 : Int), v13 = .int .i64 x13_1 ∧ Aside0 (impl_Basin_59.l0 kq l0 l1 (l0.length : Int) x13_1 = some r) ∧ Aside0 (kq ≤ k) ∧ Drawn0 w w')
 case atStart => exact ⟨(0), (by first | rfl | (simp; done) | (simp [*]; done)), H', ⟨Nat.le_refl _⟩, by repeat (first | exact Drawn0.refl _ | apply Drawn0.step)⟩
 case round =>
  clear H'
  (try clear c1); (try clear p2); (try clear c3); (try clear c3b0); (try clear c3b1); (try clear c3b2)
  obtain ⟨x13_1, rfl, HA, HK1, ⟨m1, rfl⟩⟩ := hrel
  cases gk with
  | zero => exact absurd HA.out (by simp [impl_Basin_59.l0])
  | succ k1 =>
   have H := HA.out
   clear HA
   simp only [impl_Basin_59.l0] at H
   by_cases c4 : x13_1 < (l0.length : Int)
   rotate_left
   ·rw [if_neg c4] at H
    have c4b0 : decide (x13_1 < (l0.length : Int)) = false := decide_eq_false c4
    clear c4
    obtain rfl := Option.some.inj H
    go_wp2
    repeat (go_quiet (fail); try go_wp2)
    go_ret
    exact ⟨by first | rfl | (simp; done) | (simp [*]; done), by repeat (first | exact Drawn0.refl _ | apply Drawn0.step)⟩
   rw [if_pos c4] at H
   have c4b0 : decide (x13_1 < (l0.length : Int)) = true := decide_eq_true c4
   clear c4
   by_cases c5 : 0 ≤ x13_1
   rotate_left
   ·rw [if_neg c5] at H
    exact absurd H (by simp)
   rw [if_pos c5] at H
   have c5b0 : decide (0 ≤ x13_1) = true := decide_eq_true c5
   clear c5
   by_cases c6 : x13_1 < (l0.length : Int)
   rotate_left
   ·rw [if_neg c6] at H
    exact absurd H (by simp)
   rw [if_pos c6] at H
   have c6b0 : decide (x13_1 < (l0.length : Int)) = true := decide_eq_true c6
   clear c6
   by_cases c7 : x13_1 < (l1.length : Int)
   rotate_left
   ·rw [if_neg c7] at H
    exact absurd H (by simp)
   rw [if_pos c7] at H
   have c7b0 : decide (x13_1 < (l1.length : Int)) = true := decide_eq_true c7
   clear c7
   by_cases c8 : (!(((rd_T30 l0 x13_1).f0) == ((rd_T30 l1 x13_1).f0)) || (!(((rd_T30 l0 x13_1).f1) == ((rd_T30 l1 x13_1).f1)) || (!(((rd_T30 l0 x13_1).f2) == ((rd_T30 l1 x13_1).f2))))) = true
   ·rw [if_pos c8] at H
    have c8b0 : (!(((rd_T30 l0 x13_1).f0) == ((rd_T30 l1 x13_1).f0)) || (!(((rd_T30 l0 x13_1).f1) == ((rd_T30 l1 x13_1).f1)) || (!(((rd_T30 l0 x13_1).f2) == ((rd_T30 l1 x13_1).f2))))) = true := c8
    clear c8
    obtain rfl := Option.some.inj H
    have p783 : 0 ≤ (x13_1 : Int) := of_decide_eq_true ‹_›
    have q783 : x13_1 < (l0.length : Int) := of_decide_eq_true ‹_›
    obtain ⟨ad783, e783, hx783_0, hx783_1, hx783_2⟩ := at_T30 HR0.out x13_1 p783 q783
    cases e783
    replace p783 := eq_true p783
    replace q783 := eq_true q783
    have p784 : 0 ≤ (x13_1 : Int) := of_decide_eq_true ‹_›
    have q784 : x13_1 < (l1.length : Int) := of_decide_eq_true ‹_›
    obtain ⟨ad784, e784, hx784_0, hx784_1, hx784_2⟩ := at_T30 HR1.out x13_1 p784 q784
    cases e784
    replace p784 := eq_true p784
    replace q784 := eq_true q784
    go_wp2
    repeat (go_quiet (fail); try go_wp2)
    go_ret
    exact ⟨by first | rfl | (simp; done) | (simp [*]; done), by repeat (first | exact Drawn0.refl _ | apply Drawn0.step)⟩
   rw [if_neg c8] at H
   have c8b0 : (!(((rd_T30 l0 x13_1).f0) == ((rd_T30 l1 x13_1).f0)) || (!(((rd_T30 l0 x13_1).f1) == ((rd_T30 l1 x13_1).f1)) || (!(((rd_T30 l0 x13_1).f2) == ((rd_T30 l1 x13_1).f2))))) = false := by simpa using c8
   clear c8
   have H' := Aside0.mk H
   clear H
   have p783 : 0 ≤ (x13_1 : Int) := of_decide_eq_true ‹_›
   have q783 : x13_1 < (l0.length : Int) := of_decide_eq_true ‹_›
   obtain ⟨ad783, e783, hx783_0, hx783_1, hx783_2⟩ := at_T30 HR0.out x13_1 p783 q783
   cases e783
   replace p783 := eq_true p783
   replace q783 := eq_true q783
   have p784 : 0 ≤ (x13_1 : Int) := of_decide_eq_true ‹_›
   have q784 : x13_1 < (l1.length : Int) := of_decide_eq_true ‹_›
   obtain ⟨ad784, e784, hx784_0, hx784_1, hx784_2⟩ := at_T30 HR1.out x13_1 p784 q784
   cases e784
   replace p784 := eq_true p784
   replace q784 := eq_true q784
   go_wp2
   repeat (go_quiet (fail); try go_wp2)
   go_roundg k1
   case measure => have := HK1.out; omega
   case rel => exact ⟨(wrap64 (x13_1 + 1)), (by first | rfl | (simp; done) | (simp [*]; done)), H', ⟨by have := HK1.out; omega⟩, by repeat (first | exact Drawn0.refl _ | apply Drawn0.step)⟩
mutual
def impl_SteadyHeld.j0 : Nat → List (S30) → Int → Bool → Option (List Int × Bool)
 | 0, _, _, _ => none
 | k + 1, x0, x1, x19 => if x19 = true then (some (([] : List Int), false)) else (impl_SteadyHeld.l0 k x0 x1)
def impl_SteadyHeld.l0 : Nat → List (S30) → Int → Option (List Int × Bool)
 | 0, _, _ => none
 | k + 1, x0, x1 => (impl_tickRow.f k x0 x1).bind fun bt787 => ((impl_Basin_59.f k bt787.1 x0).bind fun t794 => (if t794 = true then (impl_SteadyHeld.l1 k (([] : List Int)) x0 (x0.length : Int) 0) else (impl_SteadyHeld.l0 k bt787.1 x1)))
def impl_SteadyHeld.l1 : Nat → List Int → List (S30) → Int → Int → Option (List Int × Bool)
 | 0, _, _, _, _ => none
 | k + 1, x9, x32, x33, x34 => if x34 < x33 then (if 0 ≤ x34 then (if x34 < (x32.length : Int) then (if x9.length < 17592186044416 then (impl_SteadyHeld.l1 k (x9 ++ [(rd_T30 x32 x34).f2]) x32 x33 (wrap64 (x34 + 1))) else (none)) else (none)) else (none)) else (some (x9, true))
end
def impl_SteadyHeld.f (k : Nat) (l0 : List (S30)) (a1 : Int) : Option (List Int × Bool) := (impl_IsRow.f l0).bind fun t785 => (if t785 = true then ((impl_within.f a1 0 1000).bind fun t786 => (impl_SteadyHeld.j0 k l0 a1 (!t786))) else (impl_SteadyHeld.j0 k l0 a1 true))
set_option maxHeartbeats 8000000 in
set_option maxRecDepth 100000 in
theorem impl_SteadyHeld.calls (k : Nat) (P0_ : Nat → Prop) (A0 : Option Addr) (c0 : Nat) (l0 : List (S30)) (a1 : Int) (r1 : List Int) (r2 : Bool) (w : World) (hs0 : Kd.V k30 30 w w.heap.size (fun k_ => P0_ k_) (.slice A0 l0.length c0) l0) (h : impl_SteadyHeld.f k l0 a1 = some (r1, r2)) :
  Calls Try.prog 15 #[.slice A0 l0.length c0, .int .i64 a1] w fun e w' => ∃ v0_ : Value, e = .returned (.tuple #[v0_, .bool r2]) ∧ Kd.R (Kd.int .i64) 3 w' w.heap.size (fun k_ => (w.heap.size ≤ k_)) v0_ r1 ∧ Below w.heap.size w w' := by
 have hu30 := Try.underlying30
 have HO0 := Aside0.mk (show Kd.V k30 30 w w.heap.size (fun k_ => (P0_ k_ ∨ w.heap.size ≤ k_)) (.slice A0 l0.length c0) l0 from Kd.V_mono hs0 (fun k_ hk => .inl hk))
 have HB := Aside0.mk (Below.refl w.heap.size w)
 have H : ((impl_IsRow.f l0).bind fun t785 => (if t785 = true then ((impl_within.f a1 0 1000).bind fun t786 => (impl_SteadyHeld.j0 k l0 a1 (!t786))) else (impl_SteadyHeld.j0 k l0 a1 true))) = some (r1, r2) := h
 clear h
 have HC3 := Aside0.mk H
 clear H
 go_enter Try.func15, Try.ntmps15
 go_upto_region 1 with (fail)
 go_cut [19] (fun v19 wc => ∃ (kq : Nat) (x19_2 : Bool), v19 = .bool x19_2 ∧ Aside0 (impl_SteadyHeld.j0 kq l0 a1 x19_2 = some (r1, r2)) ∧ Aside0 (kq ≤ k) ∧ Aside0 (Kd.V k30 30 wc w.heap.size (fun k_ => (P0_ k_ ∨ w.heap.size ≤ k_)) (.slice A0 l0.length c0) l0) ∧ Aside0 (Below w.heap.size w wc))
 case first =>
  have H := HC3.out
  clear HC3
  replace H := Option.bind_eq_some_iff.mp H
  obtain ⟨t785, A40, H⟩ := H
  (try dsimp only at H)
  have A4 := Aside0.mk A40
  clear A40
  by_cases c5 : t785 = true
  rotate_left
  ·replace c5 := Bool.eq_false_iff.mpr c5
   subst c5
   have H1 : (impl_SteadyHeld.j0 k l0 a1 true) = some (r1, r2) := by rw [if_neg (show ¬ (false = true) by decide)] at H; exact H
   clear H
   have H := H1
   clear H1
   have H' := Aside0.mk H
   clear H
   go_wp2_with (first | ((with_reducible refine gate_callee (f := 11) rfl ?_); refine gl 13 Try.func11 #[.slice A0 l0.length c0] ?_; (with_reducible refine (impl_IsRow.calls _ _ l0 false _ ?side1 ?side2 A4.out).mono ?_); (case side1 => repeat (first | exact (Kd.V_reads' HO0.out).2.2 | (with_reducible refine Kd.C_alloc ?_ _) | (with_reducible refine Kd.C_drewN ?_ _) | (with_reducible refine Kd.C_drew ?_))); (case side2 => exact (Kd.V_reads' HO0.out).2.1); rintro e w8 ⟨rfl, hb⟩; refine ⟨_, rfl, ?_⟩; replace HO0 := Aside0.mk (Kd.V_below HO0.out hb); replace HB := bs HB hb; (try clear hb)))
   go_meet
   case rel => exact ⟨_, (true), (by first | rfl | (simp; done) | (simp [*]; done)), H', ⟨by first | omega | exact Nat.le_refl _⟩, ⟨by exact HO0.out⟩, ⟨bw HB⟩⟩
  subst c5
  have H1 : ((impl_within.f a1 0 1000).bind fun t786 => (impl_SteadyHeld.j0 k l0 a1 (!t786))) = some (r1, r2) := by rw [if_pos rfl] at H; exact H
  clear H
  have H := H1
  clear H1
  replace H := Option.bind_eq_some_iff.mp H
  obtain ⟨t786, A60, H⟩ := H
  (try dsimp only at H)
  have A6 := Aside0.mk A60
  clear A60
  have H' := Aside0.mk H
  clear H
  go_wp2_with (first | ((with_reducible refine gate_callee (f := 11) rfl ?_); refine gl 13 Try.func11 #[.slice A0 l0.length c0] ?_; (with_reducible refine (impl_IsRow.calls _ _ l0 true _ ?side1 ?side2 A4.out).mono ?_); (case side1 => repeat (first | exact (Kd.V_reads' HO0.out).2.2 | (with_reducible refine Kd.C_alloc ?_ _) | (with_reducible refine Kd.C_drewN ?_ _) | (with_reducible refine Kd.C_drew ?_))); (case side2 => exact (Kd.V_reads' HO0.out).2.1); rintro e w7 ⟨rfl, hb⟩; refine ⟨_, rfl, ?_⟩; replace HO0 := Aside0.mk (Kd.V_below HO0.out hb); replace HB := bs HB hb; (try clear hb)) | (go_at_call 54; (with_reducible refine (impl_within.calls a1 0 1000 t786 _ A6.out).mono ?_); rintro e w' ⟨rfl, ⟨nd, rfl⟩⟩))
  go_meet
  case rel => exact ⟨_, (!t786), (by first | rfl | (simp; done) | (simp [*]; done)), H', ⟨by first | omega | exact Nat.le_refl _⟩, ⟨by exact HO0.out⟩, ⟨bw HB⟩⟩
 case rest =>
  clear HC3
  (try clear c1); (try clear p2); (try clear c5)
  obtain ⟨kq, x19_2, rfl, HA, HJ2, HO_0, HB⟩ := hcut
  cases kq with
  | zero => exact absurd HA.out (by simp [impl_SteadyHeld.j0])
  | succ kj2 =>
   have H := HA.out
   clear HA
   simp only [impl_SteadyHeld.j0] at H
   by_cases c9 : x19_2 = true
   ·subst c9
    have H1 : (some (([] : List Int), false)) = some (r1, r2) := by rw [if_pos rfl] at H; exact H
    clear H
    have H := H1
    clear H1
    simp only [Option.some.injEq, Prod.mk.injEq] at H
    obtain ⟨rfl, rfl⟩ := H
    go_wp2
    go_ret2
    exact ⟨_, by first | rfl | (simp [errW_none, errW_some] <;> rfl) | (simp [*, errW_none, errW_some] <;> rfl), by first | exact Kd.R_nil _ _ _ _ _ | exact Kd.N_nil _ _ _ _ _ | exact Kd.V_nil _ _ _ _ _ | exact Kd.Q_nil _ _ _ _ _ | exact Kd.S_nil _ _ _ _ _, bw HB⟩
   replace c9 := Bool.eq_false_iff.mpr c9
   subst c9
   have H1 : (impl_SteadyHeld.l0 kj2 l0 a1) = some (r1, r2) := by rw [if_neg (show ¬ (false = true) by decide)] at H; exact H
   clear H
   have H := H1
   clear H1
   have H' := Aside0.mk H
   clear H
   go_wp2
   try simp only [Act.put, List.setIfInBounds_toArray, List.set_cons_zero, List.set_cons_succ]
   go_loopg [0] kj2 (fun kq v0 w' => ∃ (x0_2 : List (S30)), Aside0 (impl_SteadyHeld.l0 kq x0_2 a1 = some (r1, r2)) ∧ Aside0 (kq ≤ kj2) ∧ Aside0 (Kd.V k30 30 w' w.heap.size (fun k_ => (P0_ k_ ∨ w.heap.size ≤ k_)) v0 x0_2) ∧ Aside0 (Below w.heap.size w w'))
   case atStart => exact ⟨(l0), H', ⟨Nat.le_refl _⟩, ⟨by exact HO_0.out⟩, ⟨bw HB⟩⟩
   case round =>
    clear H'
    (try clear c1); (try clear p2); (try clear c5); (try clear c9); (try clear p2)
    obtain ⟨x0_2, HA, HK2, HO_0, HB⟩ := hrel
    cases gk with
    | zero => exact absurd HA.out (by simp [impl_SteadyHeld.l0])
    | succ k2 =>
     have H := HA.out
     clear HA
     simp only [impl_SteadyHeld.l0] at H
     replace H := Option.bind_eq_some_iff.mp H
     obtain ⟨⟨t787, t788, t789⟩, A100, H⟩ := H
     (try dsimp only at H)
     have A10 := Aside0.mk A100
     clear A100
     replace H := Option.bind_eq_some_iff.mp H
     obtain ⟨t794, A110, H⟩ := H
     (try dsimp only at H)
     have A11 := Aside0.mk A110
     clear A110
     by_cases c12 : t794 = true
     rotate_left
     ·replace c12 := Bool.eq_false_iff.mpr c12
      subst c12
      have H1 : (impl_SteadyHeld.l0 k2 t787 a1) = some (r1, r2) := by rw [if_neg (show ¬ (false = true) by decide)] at H; exact H
      clear H
      have H := H1
      clear H1
      have H' := Aside0.mk H
      clear H
      obtain ⟨Ao25, co25, eo25⟩ := Kd.V_slice HO_0.out
      subst eo25
      go_wp2_with (first | ((with_reducible refine gate_callee (f := 50) rfl ?_); refine gl 23 Try.func50 #[.slice Ao25 x0_2.length co25, .int .i64 a1] ?_; (with_reducible refine (impl_tickRow.calls k2 _ _ x0_2 a1 t787 t788 t789 _ ?side1 ?side2 A10.out).mono ?_); (case side1 => repeat (first | exact (Kd.V_reads' HO_0.out).2.2 | (with_reducible refine Kd.C_alloc ?_ _) | (with_reducible refine Kd.C_drewN ?_ _) | (with_reducible refine Kd.C_drew ?_))); (case side2 => exact (Kd.V_reads' HO_0.out).2.1); rintro e w26 ⟨v790, v792, rfl, ho0, ho1, hb⟩; refine ⟨_, rfl, ?_⟩; replace HO_0 := Aside0.mk (Kd.V_mono (Kd.V_told (Kd.V_told (Kd.V_old HO_0.out hb) (Kd.R_base ho0)) (Kd.R_base ho1)) (fun _ h_ => h_.1)); have HO791 := Aside0.mk (Kd.R_lower (Kd.R_newM (M := fun k_ => (w.heap.size ≤ k_)) ho0 (below_size (bw HB)) (fun k_ h_ => h_)) (below_size (bw HB))); have HO793 := Aside0.mk (Kd.R_lower (Kd.R_newM (M := fun k_ => (w.heap.size ≤ k_)) ho1 (below_size (bw HB)) (fun k_ h_ => h_)) (below_size (bw HB))); replace HB := bs HB hb; (try clear hb); (try clear ho0); (try clear ho1); obtain ⟨Ao27, co27, eo27⟩ := Kd.R_slice HO791.out; subst eo27) | ((with_reducible refine gate_callee (f := 59) rfl ?_); refine gl 29 Try.func59 #[.slice Ao27 t787.length co27, .slice Ao25 x0_2.length co25] ?_; (with_reducible refine (impl_Basin_59.calls k2 _ _ t787 _ _ x0_2 false _ ?side1 ?side2 ?side3 ?side4 A11.out).mono ?_); (case side1 => exact cr HO791); (case side2 => exact (Kd.R_reads' HO791.out).2.1); (case side3 => repeat (first | exact (Kd.V_reads' HO_0.out).2.2 | (with_reducible refine Kd.C_alloc ?_ _) | (with_reducible refine Kd.C_drewN ?_ _) | (with_reducible refine Kd.C_drew ?_))); (case side4 => exact (Kd.V_reads' HO_0.out).2.1); rintro e w' ⟨rfl, ⟨nd, rfl⟩⟩; refine ⟨_, rfl, ?_⟩))
      go_roundg k2
      case measure => have := HJ2.out; have := HK2.out; omega
      case rel => exact ⟨(t787), H', ⟨by have := HJ2.out; have := HK2.out; omega⟩, ⟨Kd.V_mono (Kd.R_V (by exact Kd.R_mono HO791.out (fun _ hk => hk.1))) (fun k_ hk => by first | exact ⟨(.inr (hk.1)), hk.2⟩ | exact (.inr (hk)))⟩, ⟨bw HB⟩⟩
     subst c12
     have H1 : (impl_SteadyHeld.l1 k2 (([] : List Int)) x0_2 (x0_2.length : Int) 0) = some (r1, r2) := by rw [if_pos rfl] at H; exact H
     clear H
     have H := H1
     clear H1
     obtain ⟨y795, hy795⟩ : ∃ y_ : List Int, y_ = (([] : List Int)) := ⟨_, rfl⟩
     replace H : (impl_SteadyHeld.l1 k2 y795 x0_2 (x0_2.length : Int) 0) = some (r1, r2) := by first | (rw [hy795]; with_reducible exact H) | (have H2_ := (Option.bind_some _ _).symm.trans H; rw [hy795]; with_reducible exact H2_) | (have H2_ := (Option.bind_some _ _).symm.trans H; with_reducible exact H2_) | with_reducible exact H | (rw [hy795]; exact H) | exact H
     have Ny795 := Aside0.mk hy795
     clear hy795
     have H' := Aside0.mk H
     clear H
     obtain ⟨Ao13, co13, eo13⟩ := Kd.V_slice HO_0.out
     subst eo13
     go_wp2_with (first | ((with_reducible refine gate_callee (f := 50) rfl ?_); refine gl 23 Try.func50 #[.slice Ao13 x0_2.length co13, .int .i64 a1] ?_; (with_reducible refine (impl_tickRow.calls k2 _ _ x0_2 a1 t787 t788 t789 _ ?side1 ?side2 A10.out).mono ?_); (case side1 => repeat (first | exact (Kd.V_reads' HO_0.out).2.2 | (with_reducible refine Kd.C_alloc ?_ _) | (with_reducible refine Kd.C_drewN ?_ _) | (with_reducible refine Kd.C_drew ?_))); (case side2 => exact (Kd.V_reads' HO_0.out).2.1); rintro e w14 ⟨v790, v792, rfl, ho0, ho1, hb⟩; refine ⟨_, rfl, ?_⟩; replace HO_0 := Aside0.mk (Kd.V_mono (Kd.V_told (Kd.V_told (Kd.V_old (by (with_reducible repeat (first | apply Kd.V_alloc | apply Kd.V_drewN | apply Kd.V_drew)); exact HO_0.out) hb) (Kd.R_base ho0)) (Kd.R_base ho1)) (fun _ h_ => h_.1)); have HO791 := Aside0.mk (Kd.R_lower (Kd.R_newM (M := fun k_ => (w.heap.size ≤ k_)) ho0 (below_size (bw HB)) (fun k_ h_ => h_)) (below_size (bw HB))); have HO793 := Aside0.mk (Kd.R_lower (Kd.R_newM (M := fun k_ => (w.heap.size ≤ k_)) ho1 (below_size (bw HB)) (fun k_ h_ => h_)) (below_size (bw HB))); replace HB := bs HB hb; (try clear hb); (try clear ho0); (try clear ho1); obtain ⟨Ao15, co15, eo15⟩ := Kd.R_slice HO791.out; subst eo15) | ((with_reducible refine gate_callee (f := 59) rfl ?_); refine gl 29 Try.func59 #[.slice Ao15 t787.length co15, .slice Ao13 x0_2.length co13] ?_; (with_reducible refine (impl_Basin_59.calls k2 _ _ t787 _ _ x0_2 true _ ?side1 ?side2 ?side3 ?side4 A11.out).mono ?_); (case side1 => exact cr HO791); (case side2 => exact (Kd.R_reads' HO791.out).2.1); (case side3 => repeat (first | exact (Kd.V_reads' HO_0.out).2.2 | (with_reducible refine Kd.C_alloc ?_ _) | (with_reducible refine Kd.C_drewN ?_ _) | (with_reducible refine Kd.C_drew ?_))); (case side4 => exact (Kd.V_reads' HO_0.out).2.1); rintro e w' ⟨rfl, ⟨nd, rfl⟩⟩; refine ⟨_, rfl, ?_⟩) | ((with_reducible refine gate_dst (N := 31) rfl ?_); refine Kd.R_lit (Kd.int .i64) _ 3 ?hg (N := 31) ?hd (xs := ([] : List Int)) (inner := []) (ok := fun _ => True) (okp := fun _ => True) ?hr ?hp (fun _ hk => hk) trivial (Below.refl _ _) (Nat.le_refl _) (by simp) ?_; (case hd => rfl); (case hg => rfl); (case hr => first | (go_simp; done) | (go_simp; rfl)); (case hp => exact (Reps.none _ _)); intro v796 w16 ho17 hb hg_ hnew_; clear hg_ hnew_; (first | rw [← Ny795.out] at ho17 | (simp only [Int.reduceToNat] at ho17; rw [← Ny795.out] at ho17)); replace HO_0 := Aside0.mk (Kd.V_elder' (by (with_reducible repeat (first | apply Kd.V_alloc | apply Kd.V_drewN | apply Kd.V_drew)); exact HO_0.out) (Kd.R_base ho17) hb); replace HO791 := rb HO791 hb; have HO797 := Aside0.mk (Kd.R_lower (Kd.R_new' (Kd.R_newM (M := fun k_ => (w.heap.size ≤ k_)) ho17 (below_size (bw HB)) (fun k_ h_ => h_)) (Kd.R_lt (rk HO793))) (below_size (bw HB))); replace HO793 := Aside0.mk (Kd.R_elder' (rk HO793) (Kd.R_base ho17) hb); replace HB := bs HB hb; clear hb ho17))
     try simp only [Act.put, List.setIfInBounds_toArray, List.set_cons_zero, List.set_cons_succ]
     go_loopg [9, 34] k2 (fun kq v9 v34 w' => ∃ (x9_3 : List Int) (x34_3 : Int), v34 = .int .i64 x34_3 ∧ Aside0 (impl_SteadyHeld.l1 kq x9_3 x0_2 (x0_2.length : Int) x34_3 = some (r1, r2)) ∧ Aside0 (kq ≤ k2) ∧ Aside0 (Kd.R (Kd.int .i64) 3 w' w.heap.size (fun k_ => (w.heap.size ≤ k_)) v9 x9_3) ∧ Aside0 (Kd.V k30 30 w' w.heap.size (fun k_ => (P0_ k_ ∨ w.heap.size ≤ k_) ∧ some k_ ≠ (v9 : Value).ownBlock) (.slice Ao13 x0_2.length co13) x0_2) ∧ Aside0 (Below w.heap.size w w'))
     case atStart => exact ⟨(y795), (0), (by first | rfl | (simp; done) | (simp [*]; done)), H', ⟨Nat.le_refl _⟩, ⟨by (with_reducible repeat (first | apply Kd.R_alloc | apply Kd.R_drewN | apply Kd.R_drew)); exact Kd.R_mono HO797.out (fun _ hk => hk.1.1)⟩, ⟨by (with_reducible repeat (first | apply Kd.V_alloc | apply Kd.V_drewN | apply Kd.V_drew)); exact Kd.V_mono HO_0.out (fun _ hk => ⟨hk.1.1.1, hk.2⟩)⟩, ⟨bw HB⟩⟩
     case round =>
      clear H'
      (try clear c1); (try clear p2); (try clear c5); (try clear c9); (try clear c11); (try clear c12); (try clear c15); (try clear p2)
      obtain ⟨x9_3, x34_3, rfl, HA, HK3, HO_9, HO_32, HB⟩ := hrel
      cases gk with
      | zero => exact absurd HA.out (by simp [impl_SteadyHeld.l1])
      | succ k3 =>
       have H := HA.out
       clear HA
       simp only [impl_SteadyHeld.l1] at H
       by_cases c18 : x34_3 < (x0_2.length : Int)
       rotate_left
       ·rw [if_neg c18] at H
        have c18b0 : decide (x34_3 < (x0_2.length : Int)) = false := decide_eq_false c18
        clear c18
        simp only [Option.some.injEq, Prod.mk.injEq] at H
        obtain ⟨rfl, rfl⟩ := H
        go_wp2
        go_ret2
        exact ⟨_, by first | rfl | (simp [errW_none, errW_some] <;> rfl) | (simp [*, errW_none, errW_some] <;> rfl), rk HO_9, bw HB⟩
       rw [if_pos c18] at H
       have c18b0 : decide (x34_3 < (x0_2.length : Int)) = true := decide_eq_true c18
       clear c18
       by_cases c19 : 0 ≤ x34_3
       rotate_left
       ·rw [if_neg c19] at H
        exact absurd H (by simp)
       rw [if_pos c19] at H
       have c19b0 : decide (0 ≤ x34_3) = true := decide_eq_true c19
       clear c19
       by_cases c20 : x34_3 < (x0_2.length : Int)
       rotate_left
       ·rw [if_neg c20] at H
        exact absurd H (by simp)
       rw [if_pos c20] at H
       have c20b0 : decide (x34_3 < (x0_2.length : Int)) = true := decide_eq_true c20
       clear c20
       by_cases c21 : x9_3.length < 17592186044416
       rotate_left
       ·rw [if_neg c21] at H
        exact absurd H (by simp)
       rw [if_pos c21] at H
       have LMc21 := Aside0.mk c21
       clear c21
       obtain ⟨y800, hy800⟩ : ∃ y_ : List Int, y_ = (x9_3 ++ [(rd_T30 x0_2 x34_3).f2]) := ⟨_, rfl⟩
       replace H : (impl_SteadyHeld.l1 k3 y800 x0_2 (x0_2.length : Int) (wrap64 (x34_3 + 1))) = some (r1, r2) := by first | (rw [hy800]; with_reducible exact H) | (have H2_ := (Option.bind_some _ _).symm.trans H; rw [hy800]; with_reducible exact H2_) | (have H2_ := (Option.bind_some _ _).symm.trans H; with_reducible exact H2_) | with_reducible exact H | (rw [hy800]; exact H) | exact H
       have Ny800 := Aside0.mk hy800
       clear hy800
       have H' := Aside0.mk H
       clear H
       have p798 : 0 ≤ (x34_3 : Int) := of_decide_eq_true ‹_›
       have q798 : x34_3 < (x0_2.length : Int) := of_decide_eq_true ‹_›
       obtain ⟨ad798, e798, hx798_0, hx798_1, hx798_2⟩ := at_T30 (Kd.V_reads' HO_32.out).2.2 x34_3 p798 q798
       cases e798
       replace p798 := eq_true p798
       replace q798 := eq_true q798
       go_wp2_with (first | ((with_reducible refine gate_dst (N := 11) rfl ?_); refine bx 11 #[.int .i64 0, .int .i64 0, .int .i64 0] 30 ?_; intro gb799 hg w22 hbox hb; replace HO_9 := rb HO_9 hb; replace HO_32 := Aside0.mk (Kd.V_below (Kd.V_elderB HO_32.out gb799 (Nat.le_of_eq hg.symm)) hb); have BK799 := Aside0.mk (hbox); have GW799 := ge HB hg; have GE799 := ge HB hg; replace HB := bs HB hb; clear hb hbox hg; have hcz23_0 := bc0 BK799; have hcz23_1 := bc1 BK799; have hcz23_2 := bc2 BK799; have hfz23_0 := blk_frozen BK799.out 0; have hfz23_1 := blk_frozen BK799.out 1; have hfz23_2 := blk_frozen BK799.out 2) | ((with_reducible refine gate_builtin (b := .append) (xs := #[.tmp 38, .tmp 41]) rfl ?_); at_builtin; refine Kd.R_append (Kd.int .i64) (w0 := w) w.heap.size rfl (.tmp 38) (.tmp 41) 33 3 (.int .i64 0) 8 rfl Try.underlying33 info3 rfl (by decide) (by omega) u9 x9_3 ((rd_T30 x0_2 x34_3).f2) [.int .i64 ((rd_T30 x0_2 x34_3).f2)] (fun k_ => (w.heap.size ≤ k_)) (fun _ => False) rfl (by first | (go_simp; done) | (go_simp; rfl)) ?aP (fun _ hk => hk.elim) ?aF ?aO ?aB ?aS ?aL ?_; (case aP => exact rfl); (case aB => exact (bw HB)); (case aF => exact (fun k_ hk => (Nat.le_trans (below_size (bw HB)) hk))); (case aO => exact (by exact Kd.R_mono (Kd.R_far (p := ⟨gb799, 2, none⟩) (Kd.R_far (p := ⟨gb799, 1, none⟩) (Kd.R_far (p := ⟨gb799, 0, none⟩) (Kd.R_types HO_9.out BK799.out (by decide)) (fun _ hk => hk.2) (.int .i64 ((rd_T30 x0_2 x34_3).f0))) (fun _ hk => hk.2) (.int .i64 ((rd_T30 x0_2 x34_3).f1))) (fun _ hk => hk.2) (.int .i64 ((rd_T30 x0_2 x34_3).f2))) (fun _ hk => hk.1))); (case aS => exact (below_size (bw HB))); (case aL => have := LMc21.out; omega); intro v801 w24 ho hb hg hat; rw [← Ny800.out] at ho; have n0_ := Aside0.mk (Kd.V_afterv (ok := (fun k_ => (P0_ k_ ∨ w.heap.size ≤ k_) ∧ k_ ≠ gb799)) (by exact Kd.V_mono (Kd.V_far (p := ⟨gb799, 2, none⟩) (Kd.V_far (p := ⟨gb799, 1, none⟩) (Kd.V_far (p := ⟨gb799, 0, none⟩) (Kd.V_mono HO_32.out (fun k_ hk => (⟨hk, hk.2⟩ : _ ∧ k_ ≠ gb799))) (fun _ hk => hk.2) (.int .i64 ((rd_T30 x0_2 x34_3).f0))) (fun _ hk => hk.2) (.int .i64 ((rd_T30 x0_2 x34_3).f1))) (fun _ hk => hk.2) (.int .i64 ((rd_T30 x0_2 x34_3).f2))) (fun _ hk => ⟨⟨hk.1.1.1, hk.1.2⟩, hk.1.1.2⟩)) hg hat); have n1_ := Aside0.mk (blk_grown (g := gb799) (o := .cells #[.int .i64 ((rd_T30 x0_2 x34_3).f0), .int .i64 ((rd_T30 x0_2 x34_3).f1), .int .i64 ((rd_T30 x0_2 x34_3).f2)] 30 (0, 0)) (by refine blk_put (cs := #[.int .i64 ((rd_T30 x0_2 x34_3).f0), .int .i64 ((rd_T30 x0_2 x34_3).f1), .int .i64 0]) ?_ 2 _ rfl; refine blk_put (cs := #[.int .i64 ((rd_T30 x0_2 x34_3).f0), .int .i64 0, .int .i64 0]) ?_ 1 _ rfl; refine blk_put (cs := #[.int .i64 0, .int .i64 0, .int .i64 0]) ?_ 0 _ rfl; exact bk BK799) hg (Kd.R_ne HO_9.out BK799.out (by decide))); have n2_ := Aside0.mk (hb); have n3_ := Aside0.mk (ho); clear HO_32; clear BK799; clear HB; clear HO_9; have HO_32 := n0_; have BK799 := n1_; have HB := n2_; have HO802 := n3_; clear n0_ n1_ n2_ n3_; clear ho hb hg hat))
       go_roundg k3
       case measure => have := HJ2.out; have := HK2.out; have := HK3.out; omega
       case rel => exact ⟨(y800), (wrap64 (x34_3 + 1)), (by first | rfl | (simp; done) | (simp [*]; done)), H', ⟨by have := HJ2.out; have := HK2.out; have := HK3.out; omega⟩, ⟨rk HO802⟩, ⟨by exact Kd.V_mono HO_32.out (fun _ hk => ⟨hk.1.1, hk.2⟩)⟩, ⟨bw HB⟩⟩
mutual
def spec_SteadyHeld.j0 : Nat → List (S30) → Int → Bool → Option (List Int × Bool)
 | 0, _, _, _ => none
 | k + 1, x0, x1, x22 => if x22 = true then (some (([] : List Int), false)) else (spec_SteadyHeld.l0 k x0 x1 true)
def spec_SteadyHeld.l0 : Nat → List (S30) → Int → Bool → Option (List Int × Bool)
 | 0, _, _, _ => none
 | k + 1, x0, x1, x6 => if x6 = true then ((spec_weTick.f k x0 x1).bind fun bt805 => (spec_SteadyHeld.l1 k x0 x1 false bt805.1 bt805.1 (bt805.1.length : Int) 0)) else (spec_SteadyHeld.l2 k ([] : List Int) x0 (x0.length : Int) 0)
def spec_SteadyHeld.l1 : Nat → List (S30) → Int → Bool → List (S30) → List (S30) → Int → Int → Option (List Int × Bool)
 | 0, _, _, _, _, _, _, _ => none
 | k + 1, x0, x1, x6, x7, x31, x32, x33 => if x33 < x32 then (if 0 ≤ x33 then (if x33 < (x31.length : Int) then (if x6 = true then (spec_SteadyHeld.l1 k x0 x1 true x7 x31 x32 (wrap64 (x33 + 1))) else (if x33 < (x0.length : Int) then (spec_SteadyHeld.l1 k x0 x1 (!(((rd_T30 x31 x33).f0) == ((rd_T30 x0 x33).f0)) || (!(((rd_T30 x31 x33).f1) == ((rd_T30 x0 x33).f1)) || (!(((rd_T30 x31 x33).f2) == ((rd_T30 x0 x33).f2))))) x7 x31 x32 (wrap64 (x33 + 1))) else (none))) else (none)) else (none)) else (spec_SteadyHeld.l0 k x7 x1 x6)
def spec_SteadyHeld.l2 : Nat → List Int → List (S30) → Int → Int → Option (List Int × Bool)
 | 0, _, _, _, _ => none
 | k + 1, x12, x49, x50, x51 => if x51 < x50 then (if 0 ≤ x51 then (if x51 < (x49.length : Int) then (if x12.length < 17592186044416 then (spec_SteadyHeld.l2 k (x12 ++ [(rd_T30 x49 x51).f2]) x49 x50 (wrap64 (x51 + 1))) else (none)) else (none)) else (none)) else (some (x12, true))
end
def spec_SteadyHeld.f (k : Nat) (l0 : List (S30)) (a1 : Int) : Option (List Int × Bool) := (spec_weRow.f k l0).bind fun t803 => (if t803 = true then ((spec_l1In.f a1 0 1000).bind fun t804 => (spec_SteadyHeld.j0 k l0 a1 (!t804))) else (spec_SteadyHeld.j0 k l0 a1 true))
set_option maxHeartbeats 8000000 in
set_option maxRecDepth 100000 in
theorem spec_SteadyHeld.calls (k : Nat) (P0_ : Nat → Prop) (A0 : Option Addr) (c0 : Nat) (l0 : List (S30)) (a1 : Int) (r1 : List Int) (r2 : Bool) (w : World) (hs0 : Kd.V k30 30 w w.heap.size (fun k_ => P0_ k_) (.slice A0 l0.length c0) l0) (h : spec_SteadyHeld.f k l0 a1 = some (r1, r2)) :
  Calls Try.prog 16 #[.slice A0 l0.length c0, .int .i64 a1] w fun e w' => ∃ v0_ : Value, e = .returned (.tuple #[v0_, .bool r2]) ∧ Kd.R (Kd.int .i64) 3 w' w.heap.size (fun k_ => (w.heap.size ≤ k_)) v0_ r1 ∧ Below w.heap.size w w' := by
 have hu30 := Try.underlying30
 have HO0 := Aside0.mk (show Kd.V k30 30 w w.heap.size (fun k_ => (P0_ k_ ∨ w.heap.size ≤ k_)) (.slice A0 l0.length c0) l0 from Kd.V_mono hs0 (fun k_ hk => .inl hk))
 have HB := Aside0.mk (Below.refl w.heap.size w)
 have H : ((spec_weRow.f k l0).bind fun t803 => (if t803 = true then ((spec_l1In.f a1 0 1000).bind fun t804 => (spec_SteadyHeld.j0 k l0 a1 (!t804))) else (spec_SteadyHeld.j0 k l0 a1 true))) = some (r1, r2) := h
 clear h
 have HC3 := Aside0.mk H
 clear H
 go_enter Try.func16, Try.ntmps16
 go_upto_region 1 with (fail)
 repeat (go_quiet (fail); go_upto_region 1 with (fail))
 go_cut [22] (fun v22 wc => ∃ (kq : Nat) (x22_2 : Bool), v22 = .bool x22_2 ∧ Aside0 (spec_SteadyHeld.j0 kq l0 a1 x22_2 = some (r1, r2)) ∧ Aside0 (kq ≤ k) ∧ Aside0 (Kd.V k30 30 wc w.heap.size (fun k_ => (P0_ k_ ∨ w.heap.size ≤ k_)) (.slice A0 l0.length c0) l0) ∧ Aside0 (Below w.heap.size w wc))
 case first =>
  have H := HC3.out
  clear HC3
  replace H := Option.bind_eq_some_iff.mp H
  obtain ⟨t803, A40, H⟩ := H
  (try dsimp only at H)
  have A4 := Aside0.mk A40
  clear A40
  by_cases c5 : t803 = true
  rotate_left
  ·replace c5 := Bool.eq_false_iff.mpr c5
   subst c5
   have H1 : (spec_SteadyHeld.j0 k l0 a1 true) = some (r1, r2) := by rw [if_neg (show ¬ (false = true) by decide)] at H; exact H
   clear H
   have H := H1
   clear H1
   have H' := Aside0.mk H
   clear H
   go_wp2_with (first | (go_at_call 51; (with_reducible refine (spec_weRow.calls k _ _ l0 false _ ?side1 ?side2 A4.out).mono ?_); (case side1 => repeat (first | exact (Kd.V_reads' HO0.out).2.2 | (with_reducible refine Kd.C_alloc ?_ _) | (with_reducible refine Kd.C_drewN ?_ _) | (with_reducible refine Kd.C_drew ?_))); (case side2 => exact (Kd.V_reads' HO0.out).2.1); rintro e w8 ⟨rfl, hb⟩; replace HO0 := Aside0.mk (Kd.V_below HO0.out hb); replace HB := bs HB hb; (try clear hb)))
   repeat (go_quiet (first | (go_at_call 51; (with_reducible refine (spec_weRow.calls k _ _ l0 false _ ?side1 ?side2 A4.out).mono ?_); (case side1 => repeat (first | exact (Kd.V_reads' HO0.out).2.2 | (with_reducible refine Kd.C_alloc ?_ _) | (with_reducible refine Kd.C_drewN ?_ _) | (with_reducible refine Kd.C_drew ?_))); (case side2 => exact (Kd.V_reads' HO0.out).2.1); rintro e w8 ⟨rfl, hb⟩; have n0_ := Aside0.mk (Kd.V_below HO0.out hb); have n1_ := bs HB hb; clear HO0; clear HB; have HO0 := n0_; have HB := n1_; clear n0_ n1_; (try clear hb); (try clear hb2); (try clear hk); (try clear hi))); try go_wp2_with (first | (go_at_call 51; (with_reducible refine (spec_weRow.calls k _ _ l0 false _ ?side1 ?side2 A4.out).mono ?_); (case side1 => repeat (first | exact (Kd.V_reads' HO0.out).2.2 | (with_reducible refine Kd.C_alloc ?_ _) | (with_reducible refine Kd.C_drewN ?_ _) | (with_reducible refine Kd.C_drew ?_))); (case side2 => exact (Kd.V_reads' HO0.out).2.1); rintro e w8 ⟨rfl, hb⟩; have n0_ := Aside0.mk (Kd.V_below HO0.out hb); have n1_ := bs HB hb; clear HO0; clear HB; have HO0 := n0_; have HB := n1_; clear n0_ n1_; (try clear hb); (try clear hb2); (try clear hk); (try clear hi))))
   go_meet
   case rel => exact ⟨_, (true), (by first | rfl | (simp; done) | (simp [*]; done)), H', ⟨by first | omega | exact Nat.le_refl _⟩, ⟨by exact HO0.out⟩, ⟨bw HB⟩⟩
  subst c5
  have H1 : ((spec_l1In.f a1 0 1000).bind fun t804 => (spec_SteadyHeld.j0 k l0 a1 (!t804))) = some (r1, r2) := by rw [if_pos rfl] at H; exact H
  clear H
  have H := H1
  clear H1
  replace H := Option.bind_eq_some_iff.mp H
  obtain ⟨t804, A60, H⟩ := H
  (try dsimp only at H)
  have A6 := Aside0.mk A60
  clear A60
  have H' := Aside0.mk H
  clear H
  go_wp2_with (first | (go_at_call 51; (with_reducible refine (spec_weRow.calls k _ _ l0 true _ ?side1 ?side2 A4.out).mono ?_); (case side1 => repeat (first | exact (Kd.V_reads' HO0.out).2.2 | (with_reducible refine Kd.C_alloc ?_ _) | (with_reducible refine Kd.C_drewN ?_ _) | (with_reducible refine Kd.C_drew ?_))); (case side2 => exact (Kd.V_reads' HO0.out).2.1); rintro e w7 ⟨rfl, hb⟩; replace HO0 := Aside0.mk (Kd.V_below HO0.out hb); replace HB := bs HB hb; (try clear hb)) | (go_at_call 60; (with_reducible refine (spec_l1In.calls a1 0 1000 t804 _ A6.out).mono ?_); rintro e w' ⟨rfl, ⟨nd, rfl⟩⟩; (try first | exact ⟨rfl, _, World.drewN_drewN _ _ _⟩ | exact ⟨rfl, _, Eq.trans (World.drewN_drewN _ _ _) (congrArg (World.drewN _) (Nat.add_assoc _ _ _))⟩)))
  repeat (go_quiet (first | (go_at_call 51; (with_reducible refine (spec_weRow.calls k _ _ l0 true _ ?side1 ?side2 A4.out).mono ?_); (case side1 => repeat (first | exact (Kd.V_reads' HO0.out).2.2 | (with_reducible refine Kd.C_alloc ?_ _) | (with_reducible refine Kd.C_drewN ?_ _) | (with_reducible refine Kd.C_drew ?_))); (case side2 => exact (Kd.V_reads' HO0.out).2.1); rintro e w7 ⟨rfl, hb⟩; have n0_ := Aside0.mk (Kd.V_below HO0.out hb); have n1_ := bs HB hb; clear HO0; clear HB; have HO0 := n0_; have HB := n1_; clear n0_ n1_; (try clear hb); (try clear hb2); (try clear hk); (try clear hi)) | (go_at_call 60; (with_reducible refine (spec_l1In.calls a1 0 1000 t804 _ A6.out).mono ?_); rintro e w' ⟨rfl, ⟨nd, rfl⟩⟩; (try first | exact ⟨rfl, _, World.drewN_drewN _ _ _⟩ | exact ⟨rfl, _, Eq.trans (World.drewN_drewN _ _ _) (congrArg (World.drewN _) (Nat.add_assoc _ _ _))⟩))); try go_wp2_with (first | (go_at_call 51; (with_reducible refine (spec_weRow.calls k _ _ l0 true _ ?side1 ?side2 A4.out).mono ?_); (case side1 => repeat (first | exact (Kd.V_reads' HO0.out).2.2 | (with_reducible refine Kd.C_alloc ?_ _) | (with_reducible refine Kd.C_drewN ?_ _) | (with_reducible refine Kd.C_drew ?_))); (case side2 => exact (Kd.V_reads' HO0.out).2.1); rintro e w7 ⟨rfl, hb⟩; have n0_ := Aside0.mk (Kd.V_below HO0.out hb); have n1_ := bs HB hb; clear HO0; clear HB; have HO0 := n0_; have HB := n1_; clear n0_ n1_; (try clear hb); (try clear hb2); (try clear hk); (try clear hi)) | (go_at_call 60; (with_reducible refine (spec_l1In.calls a1 0 1000 t804 _ A6.out).mono ?_); rintro e w' ⟨rfl, ⟨nd, rfl⟩⟩; (try first | exact ⟨rfl, _, World.drewN_drewN _ _ _⟩ | exact ⟨rfl, _, Eq.trans (World.drewN_drewN _ _ _) (congrArg (World.drewN _) (Nat.add_assoc _ _ _))⟩))))
  go_meet
  case rel => exact ⟨_, (!t804), (by first | rfl | (simp; done) | (simp [*]; done)), H', ⟨by first | omega | exact Nat.le_refl _⟩, ⟨by exact HO0.out⟩, ⟨bw HB⟩⟩
 case rest =>
  clear HC3
  (try clear c1); (try clear p2); (try clear c5)
  obtain ⟨kq, x22_2, rfl, HA, HJ2, HO_0, HB⟩ := hcut
  cases kq with
  | zero => exact absurd HA.out (by simp [spec_SteadyHeld.j0])
  | succ kj2 =>
   have H := HA.out
   clear HA
   simp only [spec_SteadyHeld.j0] at H
   by_cases c9 : x22_2 = true
   ·subst c9
    have H1 : (some (([] : List Int), false)) = some (r1, r2) := by rw [if_pos rfl] at H; exact H
    clear H
    have H := H1
    clear H1
    simp only [Option.some.injEq, Prod.mk.injEq] at H
    obtain ⟨rfl, rfl⟩ := H
    go_wp2
    repeat (go_quiet (fail); try go_wp2)
    go_ret2
    exact ⟨_, by first | rfl | (simp [errW_none, errW_some] <;> rfl) | (simp [*, errW_none, errW_some] <;> rfl), by first | exact Kd.R_nil _ _ _ _ _ | exact Kd.N_nil _ _ _ _ _ | exact Kd.V_nil _ _ _ _ _ | exact Kd.Q_nil _ _ _ _ _ | exact Kd.S_nil _ _ _ _ _, bw HB⟩
   replace c9 := Bool.eq_false_iff.mpr c9
   subst c9
   have H1 : (spec_SteadyHeld.l0 kj2 l0 a1 true) = some (r1, r2) := by rw [if_neg (show ¬ (false = true) by decide)] at H; exact H
   clear H
   have H := H1
   clear H1
   have H' := Aside0.mk H
   clear H
   go_wp2
   repeat (go_quiet (fail); try go_wp2)
   try simp only [Act.put, List.setIfInBounds_toArray, List.set_cons_zero, List.set_cons_succ]
   go_loopg [0, 6] kj2 (fun kq v0 v6 w' => ∃ (x0_2 : List (S30)) (x6_2 : Bool), v6 = .bool x6_2 ∧ Aside0 (spec_SteadyHeld.l0 kq x0_2 a1 x6_2 = some (r1, r2)) ∧ Aside0 (kq ≤ kj2) ∧ Aside0 (Kd.V k30 30 w' w.heap.size (fun k_ => (P0_ k_ ∨ w.heap.size ≤ k_)) v0 x0_2) ∧ Aside0 (Below w.heap.size w w'))
   case atStart => exact ⟨(l0), (true), (by first | rfl | (simp; done) | (simp [*]; done)), H', ⟨Nat.le_refl _⟩, ⟨by exact HO_0.out⟩, ⟨bw HB⟩⟩
   case round =>
    clear H'
    (try clear c1); (try clear p2); (try clear c5); (try clear c9); (try clear p2)
    obtain ⟨x0_2, x6_2, rfl, HA, HK2, HO_0, HB⟩ := hrel
    cases gk with
    | zero => exact absurd HA.out (by simp [spec_SteadyHeld.l0])
    | succ k2 =>
     have H := HA.out
     clear HA
     simp only [spec_SteadyHeld.l0] at H
     by_cases c10 : x6_2 = true
     ·subst c10
      have H1 : ((spec_weTick.f k2 x0_2 a1).bind fun bt805 => (spec_SteadyHeld.l1 k2 x0_2 a1 false bt805.1 bt805.1 (bt805.1.length : Int) 0)) = some (r1, r2) := by rw [if_pos rfl] at H; exact H
      clear H
      have H := H1
      clear H1
      replace H := Option.bind_eq_some_iff.mp H
      obtain ⟨⟨t805, t806, t807⟩, A110, H⟩ := H
      (try dsimp only at H)
      have A11 := Aside0.mk A110
      clear A110
      have H' := Aside0.mk H
      clear H
      obtain ⟨Ao12, co12, eo12⟩ := Kd.V_slice HO_0.out
      subst eo12
      go_wp2_with (first | (go_at_call 53; (with_reducible refine (spec_weTick.calls k2 _ _ x0_2 a1 t805 t806 t807 _ ?side1 ?side2 A11.out).mono ?_); (case side1 => repeat (first | exact (Kd.V_reads' HO_0.out).2.2 | (with_reducible refine Kd.C_alloc ?_ _) | (with_reducible refine Kd.C_drewN ?_ _) | (with_reducible refine Kd.C_drew ?_))); (case side2 => exact (Kd.V_reads' HO_0.out).2.1); rintro e w13 ⟨v808, v810, rfl, ho0, ho1, hb⟩; replace HO_0 := Aside0.mk (Kd.V_mono (Kd.V_told (Kd.V_told (Kd.V_old HO_0.out hb) (Kd.R_base ho0)) (Kd.R_base ho1)) (fun _ h_ => h_.1)); have HO809 := Aside0.mk (Kd.R_lower (Kd.R_newM (M := fun k_ => (w.heap.size ≤ k_)) ho0 (below_size (bw HB)) (fun k_ h_ => h_)) (below_size (bw HB))); have HO811 := Aside0.mk (Kd.R_lower (Kd.R_newM (M := fun k_ => (w.heap.size ≤ k_)) ho1 (below_size (bw HB)) (fun k_ h_ => h_)) (below_size (bw HB))); replace HB := bs HB hb; (try clear hb); (try clear ho0); (try clear ho1); obtain ⟨Ao14, co14, eo14⟩ := Kd.R_slice HO809.out; subst eo14))
      repeat (go_quiet (first | (go_at_call 53; (with_reducible refine (spec_weTick.calls k2 _ _ x0_2 a1 t805 t806 t807 _ ?side1 ?side2 A11.out).mono ?_); (case side1 => repeat (first | exact (Kd.V_reads' HO_0.out).2.2 | (with_reducible refine Kd.C_alloc ?_ _) | (with_reducible refine Kd.C_drewN ?_ _) | (with_reducible refine Kd.C_drew ?_))); (case side2 => exact (Kd.V_reads' HO_0.out).2.1); rintro e w13 ⟨v808, v810, rfl, ho0, ho1, hb⟩; have n0_ := Aside0.mk (Kd.V_mono (Kd.V_told (Kd.V_told (Kd.V_old HO_0.out hb) (Kd.R_base ho0)) (Kd.R_base ho1)) (fun _ h_ => h_.1)); have n1_ := Aside0.mk (Kd.R_lower (Kd.R_newM (M := fun k_ => (w.heap.size ≤ k_)) ho0 (below_size (bw HB)) (fun k_ h_ => h_)) (below_size (bw HB))); have n2_ := Aside0.mk (Kd.R_lower (Kd.R_newM (M := fun k_ => (w.heap.size ≤ k_)) ho1 (below_size (bw HB)) (fun k_ h_ => h_)) (below_size (bw HB))); have n3_ := bs HB hb; clear HO_0; clear HB; have HO_0 := n0_; have HO809 := n1_; have HO811 := n2_; have HB := n3_; clear n0_ n1_ n2_ n3_; (try clear hb); (try clear hb2); (try clear hk); (try clear hi); (try clear ho0); (try clear ho1); obtain ⟨Ao14, co14, eo14⟩ := Kd.R_slice HO809.out; subst eo14)); try go_wp2_with (first | (go_at_call 53; (with_reducible refine (spec_weTick.calls k2 _ _ x0_2 a1 t805 t806 t807 _ ?side1 ?side2 A11.out).mono ?_); (case side1 => repeat (first | exact (Kd.V_reads' HO_0.out).2.2 | (with_reducible refine Kd.C_alloc ?_ _) | (with_reducible refine Kd.C_drewN ?_ _) | (with_reducible refine Kd.C_drew ?_))); (case side2 => exact (Kd.V_reads' HO_0.out).2.1); rintro e w13 ⟨v808, v810, rfl, ho0, ho1, hb⟩; have n0_ := Aside0.mk (Kd.V_mono (Kd.V_told (Kd.V_told (Kd.V_old HO_0.out hb) (Kd.R_base ho0)) (Kd.R_base ho1)) (fun _ h_ => h_.1)); have n1_ := Aside0.mk (Kd.R_lower (Kd.R_newM (M := fun k_ => (w.heap.size ≤ k_)) ho0 (below_size (bw HB)) (fun k_ h_ => h_)) (below_size (bw HB))); have n2_ := Aside0.mk (Kd.R_lower (Kd.R_newM (M := fun k_ => (w.heap.size ≤ k_)) ho1 (below_size (bw HB)) (fun k_ h_ => h_)) (below_size (bw HB))); have n3_ := bs HB hb; clear HO_0; clear HB; have HO_0 := n0_; have HO809 := n1_; have HO811 := n2_; have HB := n3_; clear n0_ n1_ n2_ n3_; (try clear hb); (try clear hb2); (try clear hk); (try clear hi); (try clear ho0); (try clear ho1); obtain ⟨Ao14, co14, eo14⟩ := Kd.R_slice HO809.out; subst eo14)))
      try simp only [Act.put, List.setIfInBounds_toArray, List.set_cons_zero, List.set_cons_succ]
      go_loopg [6, 33] k2 (fun kq v6 v33 w' => ∃ (x6_3 : Bool) (x33_3 : Int), v6 = .bool x6_3 ∧ v33 = .int .i64 x33_3 ∧ Aside0 (spec_SteadyHeld.l1 kq x0_2 a1 x6_3 t805 t805 (t805.length : Int) x33_3 = some (r1, r2)) ∧ Aside0 (kq ≤ k2) ∧ Aside0 (Kd.V k30 30 w' w.heap.size (fun k_ => (P0_ k_ ∨ w.heap.size ≤ k_) ∧ some k_ ≠ ((.slice Ao14 t805.length co14) : Value).ownBlock ∧ some k_ ≠ ((.slice Ao14 t805.length co14) : Value).ownBlock) (.slice Ao12 x0_2.length co12) x0_2) ∧ Aside0 (Kd.R k30 30 w' w.heap.size (fun k_ => (w.heap.size ≤ k_)) (.slice Ao14 t805.length co14) t805) ∧ Aside0 (Kd.R k30 30 w' w.heap.size (fun k_ => (w.heap.size ≤ k_)) (.slice Ao14 t805.length co14) t805) ∧ Aside0 (Below w.heap.size w w'))
      case atStart => exact ⟨(false), (0), (by first | rfl | (simp; done) | (simp [*]; done)), (by first | rfl | (simp; done) | (simp [*]; done)), H', ⟨Nat.le_refl _⟩, ⟨by exact Kd.V_mono HO_0.out (fun _ hk => ⟨hk.1.1, ⟨hk.1.2, hk.1.2⟩⟩)⟩, ⟨by exact Kd.R_mono HO809.out (fun _ hk => hk.1)⟩, ⟨by exact Kd.R_mono HO809.out (fun _ hk => hk.1)⟩, ⟨bw HB⟩⟩
      case round =>
       clear H'
       (try clear c1); (try clear p2); (try clear c5); (try clear c9); (try clear c10); (try clear p2)
       obtain ⟨x6_3, x33_3, rfl, rfl, HA, HK3, HO_0, HO_7, HO_31, HB⟩ := hrel
       cases gk with
       | zero => exact absurd HA.out (by simp [spec_SteadyHeld.l1])
       | succ k3 =>
        have H := HA.out
        clear HA
        simp only [spec_SteadyHeld.l1] at H
        by_cases c15 : x33_3 < (t805.length : Int)
        rotate_left
        ·rw [if_neg c15] at H
         have c15b0 : decide (x33_3 < (t805.length : Int)) = false := decide_eq_false c15
         clear c15
         have H' := Aside0.mk H
         clear H
         go_wp2
         repeat (go_quiet (fail); try go_wp2)
         go_roundg k3
         case measure => have := HJ2.out; have := HK2.out; have := HK3.out; omega
         case rel => exact ⟨(t805), (x6_3), (by first | rfl | (simp; done) | (simp [*]; done)), H', ⟨by have := HJ2.out; have := HK2.out; have := HK3.out; omega⟩, ⟨Kd.V_mono (Kd.R_V (rk HO_7)) (fun k_ hk => by first | exact ⟨(.inr (hk.1)), hk.2⟩ | exact (.inr (hk)))⟩, ⟨bw HB⟩⟩
        rw [if_pos c15] at H
        have c15b0 : decide (x33_3 < (t805.length : Int)) = true := decide_eq_true c15
        clear c15
        by_cases c16 : 0 ≤ x33_3
        rotate_left
        ·rw [if_neg c16] at H
         exact absurd H (by simp)
        rw [if_pos c16] at H
        have c16b0 : decide (0 ≤ x33_3) = true := decide_eq_true c16
        clear c16
        by_cases c17 : x33_3 < (t805.length : Int)
        rotate_left
        ·rw [if_neg c17] at H
         exact absurd H (by simp)
        rw [if_pos c17] at H
        have c17b0 : decide (x33_3 < (t805.length : Int)) = true := decide_eq_true c17
        clear c17
        by_cases c18 : x6_3 = true
        ·subst c18
         have H1 : (spec_SteadyHeld.l1 k3 x0_2 a1 true t805 t805 (t805.length : Int) (wrap64 (x33_3 + 1))) = some (r1, r2) := by rw [if_pos rfl] at H; exact H
         clear H
         have H := H1
         clear H1
         have H' := Aside0.mk H
         clear H
         have p812 : 0 ≤ (x33_3 : Int) := of_decide_eq_true ‹_›
         have q812 : x33_3 < (t805.length : Int) := of_decide_eq_true ‹_›
         obtain ⟨ad812, e812, hx812_0, hx812_1, hx812_2⟩ := at_T30 (Kd.R_reads' HO_31.out).2.2 x33_3 p812 q812
         cases e812
         replace p812 := eq_true p812
         replace q812 := eq_true q812
         go_wp2_with (first | ((with_reducible refine gate_dst (N := 11) rfl ?_); refine bx 11 #[.int .i64 0, .int .i64 0, .int .i64 0] 30 ?_; intro gb813 hg w19 hbox hb; replace HO_0 := Aside0.mk (Kd.V_below (Kd.V_elderB HO_0.out gb813 (Nat.le_of_eq hg.symm)) hb); replace HO_7 := Aside0.mk (Kd.R_below (Kd.R_elderB (rk HO_7) gb813 (Nat.le_of_eq hg.symm)) hb); replace HO_31 := Aside0.mk (Kd.R_below (Kd.R_elderB (rk HO_31) gb813 (Nat.le_of_eq hg.symm)) hb); have BK813 := Aside0.mk (hbox); have GW813 := ge HB hg; have GE813 := ge HB hg; replace HB := bs HB hb; clear hb hbox hg; have hcz20_0 := bc0 BK813; have hcz20_1 := bc1 BK813; have hcz20_2 := bc2 BK813; have hfz20_0 := blk_frozen BK813.out 0; have hfz20_1 := blk_frozen BK813.out 1; have hfz20_2 := blk_frozen BK813.out 2))
         repeat (go_quiet (first | ((with_reducible refine gate_dst (N := 11) rfl ?_); refine bx 11 #[.int .i64 0, .int .i64 0, .int .i64 0] 30 ?_; intro gb813 hg w19 hbox hb; have n0_ := Aside0.mk (Kd.V_below (Kd.V_elderB HO_0.out gb813 (Nat.le_of_eq hg.symm)) hb); have n1_ := Aside0.mk (Kd.R_below (Kd.R_elderB (rk HO_7) gb813 (Nat.le_of_eq hg.symm)) hb); have n2_ := Aside0.mk (Kd.R_below (Kd.R_elderB (rk HO_31) gb813 (Nat.le_of_eq hg.symm)) hb); have n3_ := bs HB hb; have n4_ := Aside0.mk (hbox); have n5_ := ge HB hg; have n6_ := ge HB hg; clear HO_0; clear HO_7; clear HO_31; clear HB; have HO_0 := n0_; have HO_7 := n1_; have HO_31 := n2_; have HB := n3_; have BK813 := n4_; have GW813 := n5_; have GE813 := n6_; clear n0_ n1_ n2_ n3_ n4_ n5_ n6_; clear hb hbox hg; have hcz20_0 := bc0 BK813; have hcz20_1 := bc1 BK813; have hcz20_2 := bc2 BK813; have hfz20_0 := blk_frozen BK813.out 0; have hfz20_1 := blk_frozen BK813.out 1; have hfz20_2 := blk_frozen BK813.out 2)); try go_wp2_with (first | ((with_reducible refine gate_dst (N := 11) rfl ?_); refine bx 11 #[.int .i64 0, .int .i64 0, .int .i64 0] 30 ?_; intro gb813 hg w19 hbox hb; have n0_ := Aside0.mk (Kd.V_below (Kd.V_elderB HO_0.out gb813 (Nat.le_of_eq hg.symm)) hb); have n1_ := Aside0.mk (Kd.R_below (Kd.R_elderB (rk HO_7) gb813 (Nat.le_of_eq hg.symm)) hb); have n2_ := Aside0.mk (Kd.R_below (Kd.R_elderB (rk HO_31) gb813 (Nat.le_of_eq hg.symm)) hb); have n3_ := bs HB hb; have n4_ := Aside0.mk (hbox); have n5_ := ge HB hg; have n6_ := ge HB hg; clear HO_0; clear HO_7; clear HO_31; clear HB; have HO_0 := n0_; have HO_7 := n1_; have HO_31 := n2_; have HB := n3_; have BK813 := n4_; have GW813 := n5_; have GE813 := n6_; clear n0_ n1_ n2_ n3_ n4_ n5_ n6_; clear hb hbox hg; have hcz20_0 := bc0 BK813; have hcz20_1 := bc1 BK813; have hcz20_2 := bc2 BK813; have hfz20_0 := blk_frozen BK813.out 0; have hfz20_1 := blk_frozen BK813.out 1; have hfz20_2 := blk_frozen BK813.out 2)))
         go_roundg k3
         case measure => have := HJ2.out; have := HK2.out; have := HK3.out; omega
         case rel => exact ⟨(true), (wrap64 (x33_3 + 1)), (by first | rfl | (simp; done) | (simp [*]; done)), (by first | rfl | (simp; done) | (simp [*]; done)), H', ⟨by have := HJ2.out; have := HK2.out; have := HK3.out; omega⟩, ⟨by exact Kd.V_mono (Kd.V_far (p := ⟨gb813, 2, none⟩) (Kd.V_far (p := ⟨gb813, 1, none⟩) (Kd.V_far (p := ⟨gb813, 0, none⟩) (Kd.V_mono HO_0.out (fun k_ hk => (⟨hk, hk.2⟩ : _ ∧ k_ ≠ gb813))) (fun _ hk => hk.2) (.int .i64 ((rd_T30 t805 x33_3).f0))) (fun _ hk => hk.2) (.int .i64 ((rd_T30 t805 x33_3).f1))) (fun _ hk => hk.2) (.int .i64 ((rd_T30 t805 x33_3).f2))) (fun _ hk => ⟨hk.1.1.1, ⟨hk.1.1.2.1, hk.1.1.2.2⟩⟩)⟩, ⟨by exact Kd.R_mono (Kd.R_far (p := ⟨gb813, 2, none⟩) (Kd.R_far (p := ⟨gb813, 1, none⟩) (Kd.R_far (p := ⟨gb813, 0, none⟩) (Kd.R_mono HO_7.out (fun k_ hk => (⟨hk, hk.2⟩ : _ ∧ k_ ≠ gb813))) (fun _ hk => hk.2) (.int .i64 ((rd_T30 t805 x33_3).f0))) (fun _ hk => hk.2) (.int .i64 ((rd_T30 t805 x33_3).f1))) (fun _ hk => hk.2) (.int .i64 ((rd_T30 t805 x33_3).f2))) (fun _ hk => hk.1.1)⟩, ⟨by exact Kd.R_mono (Kd.R_far (p := ⟨gb813, 2, none⟩) (Kd.R_far (p := ⟨gb813, 1, none⟩) (Kd.R_far (p := ⟨gb813, 0, none⟩) (Kd.R_mono HO_31.out (fun k_ hk => (⟨hk, hk.2⟩ : _ ∧ k_ ≠ gb813))) (fun _ hk => hk.2) (.int .i64 ((rd_T30 t805 x33_3).f0))) (fun _ hk => hk.2) (.int .i64 ((rd_T30 t805 x33_3).f1))) (fun _ hk => hk.2) (.int .i64 ((rd_T30 t805 x33_3).f2))) (fun _ hk => hk.1.1)⟩, ⟨bw HB⟩⟩
        replace c18 := Bool.eq_false_iff.mpr c18
        subst c18
        have H1 : (if x33_3 < (x0_2.length : Int) then (spec_SteadyHeld.l1 k3 x0_2 a1 (!(((rd_T30 t805 x33_3).f0) == ((rd_T30 x0_2 x33_3).f0)) || (!(((rd_T30 t805 x33_3).f1) == ((rd_T30 x0_2 x33_3).f1)) || (!(((rd_T30 t805 x33_3).f2) == ((rd_T30 x0_2 x33_3).f2))))) t805 t805 (t805.length : Int) (wrap64 (x33_3 + 1))) else (none)) = some (r1, r2) := by rw [if_neg (show ¬ (false = true) by decide)] at H; exact H
        clear H
        have H := H1
        clear H1
        by_cases c21 : x33_3 < (x0_2.length : Int)
        rotate_left
        ·rw [if_neg c21] at H
         exact absurd H (by simp)
        rw [if_pos c21] at H
        have c21b0 : decide (x33_3 < (x0_2.length : Int)) = true := decide_eq_true c21
        clear c21
        have H' := Aside0.mk H
        clear H
        have p812 : 0 ≤ (x33_3 : Int) := of_decide_eq_true ‹_›
        have q812 : x33_3 < (t805.length : Int) := of_decide_eq_true ‹_›
        obtain ⟨ad812, e812, hx812_0, hx812_1, hx812_2⟩ := at_T30 (Kd.R_reads' HO_31.out).2.2 x33_3 p812 q812
        cases e812
        replace p812 := eq_true p812
        replace q812 := eq_true q812
        go_wp2_with (first | ((with_reducible refine gate_dst (N := 11) rfl ?_); refine bx 11 #[.int .i64 0, .int .i64 0, .int .i64 0] 30 ?_; intro gb813 hg w22 hbox hb; replace HO_0 := Aside0.mk (Kd.V_below (Kd.V_elderB HO_0.out gb813 (Nat.le_of_eq hg.symm)) hb); replace HO_7 := Aside0.mk (Kd.R_below (Kd.R_elderB (rk HO_7) gb813 (Nat.le_of_eq hg.symm)) hb); replace HO_31 := Aside0.mk (Kd.R_below (Kd.R_elderB (rk HO_31) gb813 (Nat.le_of_eq hg.symm)) hb); have BK813 := Aside0.mk (hbox); have GW813 := ge HB hg; have GE813 := ge HB hg; replace HB := bs HB hb; clear hb hbox hg; have hcz23_0 := bc0 BK813; have hcz23_1 := bc1 BK813; have hcz23_2 := bc2 BK813; have hfz23_0 := blk_frozen BK813.out 0; have hfz23_1 := blk_frozen BK813.out 1; have hfz23_2 := blk_frozen BK813.out 2; have p814 : 0 ≤ (x33_3 : Int) := of_decide_eq_true ‹_›; have q814 : x33_3 < (x0_2.length : Int) := of_decide_eq_true ‹_›; obtain ⟨ad814, e814, hx814_0, hx814_1, hx814_2⟩ := at_T30 (Kd.V_reads' (Kd.V_far (p := ⟨gb813, 2, none⟩) (Kd.V_far (p := ⟨gb813, 1, none⟩) (Kd.V_far (p := ⟨gb813, 0, none⟩) HO_0.out (fun _ hk => hk.2) (.int .i64 ((rd_T30 t805 x33_3).f0))) (fun _ hk => hk.2) (.int .i64 ((rd_T30 t805 x33_3).f1))) (fun _ hk => hk.2) (.int .i64 ((rd_T30 t805 x33_3).f2)))).2.2 x33_3 p814 q814; cases e814; (try have hy814_0 := fun (n_ : Nat) => (show (((((w22.drewN n_).setCell ⟨gb813, 0, none⟩ (.int .i64 ((rd_T30 t805 x33_3).f0))).setCell ⟨gb813, 1, none⟩ (.int .i64 ((rd_T30 t805 x33_3).f1))).setCell ⟨gb813, 2, none⟩ (.int .i64 ((rd_T30 t805 x33_3).f2)))).cell? _ = some _ from hx814_0)); (try have hy814_1 := fun (n_ : Nat) => (show (((((w22.drewN n_).setCell ⟨gb813, 0, none⟩ (.int .i64 ((rd_T30 t805 x33_3).f0))).setCell ⟨gb813, 1, none⟩ (.int .i64 ((rd_T30 t805 x33_3).f1))).setCell ⟨gb813, 2, none⟩ (.int .i64 ((rd_T30 t805 x33_3).f2)))).cell? _ = some _ from hx814_1)); (try have hy814_2 := fun (n_ : Nat) => (show (((((w22.drewN n_).setCell ⟨gb813, 0, none⟩ (.int .i64 ((rd_T30 t805 x33_3).f0))).setCell ⟨gb813, 1, none⟩ (.int .i64 ((rd_T30 t805 x33_3).f1))).setCell ⟨gb813, 2, none⟩ (.int .i64 ((rd_T30 t805 x33_3).f2)))).cell? _ = some _ from hx814_2)); replace p814 := eq_true p814; replace q814 := eq_true q814))
        repeat (go_quiet (first | ((with_reducible refine gate_dst (N := 11) rfl ?_); refine bx 11 #[.int .i64 0, .int .i64 0, .int .i64 0] 30 ?_; intro gb813 hg w22 hbox hb; have n0_ := Aside0.mk (Kd.V_below (Kd.V_elderB HO_0.out gb813 (Nat.le_of_eq hg.symm)) hb); have n1_ := Aside0.mk (Kd.R_below (Kd.R_elderB (rk HO_7) gb813 (Nat.le_of_eq hg.symm)) hb); have n2_ := Aside0.mk (Kd.R_below (Kd.R_elderB (rk HO_31) gb813 (Nat.le_of_eq hg.symm)) hb); have n3_ := bs HB hb; have n4_ := Aside0.mk (hbox); have n5_ := ge HB hg; have n6_ := ge HB hg; clear HO_0; clear HO_7; clear HO_31; clear HB; have HO_0 := n0_; have HO_7 := n1_; have HO_31 := n2_; have HB := n3_; have BK813 := n4_; have GW813 := n5_; have GE813 := n6_; clear n0_ n1_ n2_ n3_ n4_ n5_ n6_; clear hb hbox hg; have hcz23_0 := bc0 BK813; have hcz23_1 := bc1 BK813; have hcz23_2 := bc2 BK813; have hfz23_0 := blk_frozen BK813.out 0; have hfz23_1 := blk_frozen BK813.out 1; have hfz23_2 := blk_frozen BK813.out 2; have p814 : 0 ≤ (x33_3 : Int) := of_decide_eq_true ‹_›; have q814 : x33_3 < (x0_2.length : Int) := of_decide_eq_true ‹_›; obtain ⟨ad814, e814, hx814_0, hx814_1, hx814_2⟩ := at_T30 (Kd.V_reads' (Kd.V_far (p := ⟨gb813, 2, none⟩) (Kd.V_far (p := ⟨gb813, 1, none⟩) (Kd.V_far (p := ⟨gb813, 0, none⟩) HO_0.out (fun _ hk => hk.2) (.int .i64 ((rd_T30 t805 x33_3).f0))) (fun _ hk => hk.2) (.int .i64 ((rd_T30 t805 x33_3).f1))) (fun _ hk => hk.2) (.int .i64 ((rd_T30 t805 x33_3).f2)))).2.2 x33_3 p814 q814; cases e814; (try have hy814_0 := fun (n_ : Nat) => (show (((((w22.drewN n_).setCell ⟨gb813, 0, none⟩ (.int .i64 ((rd_T30 t805 x33_3).f0))).setCell ⟨gb813, 1, none⟩ (.int .i64 ((rd_T30 t805 x33_3).f1))).setCell ⟨gb813, 2, none⟩ (.int .i64 ((rd_T30 t805 x33_3).f2)))).cell? _ = some _ from hx814_0)); (try have hy814_1 := fun (n_ : Nat) => (show (((((w22.drewN n_).setCell ⟨gb813, 0, none⟩ (.int .i64 ((rd_T30 t805 x33_3).f0))).setCell ⟨gb813, 1, none⟩ (.int .i64 ((rd_T30 t805 x33_3).f1))).setCell ⟨gb813, 2, none⟩ (.int .i64 ((rd_T30 t805 x33_3).f2)))).cell? _ = some _ from hx814_1)); (try have hy814_2 := fun (n_ : Nat) => (show (((((w22.drewN n_).setCell ⟨gb813, 0, none⟩ (.int .i64 ((rd_T30 t805 x33_3).f0))).setCell ⟨gb813, 1, none⟩ (.int .i64 ((rd_T30 t805 x33_3).f1))).setCell ⟨gb813, 2, none⟩ (.int .i64 ((rd_T30 t805 x33_3).f2)))).cell? _ = some _ from hx814_2)); replace p814 := eq_true p814; replace q814 := eq_true q814)); try go_wp2_with (first | ((with_reducible refine gate_dst (N := 11) rfl ?_); refine bx 11 #[.int .i64 0, .int .i64 0, .int .i64 0] 30 ?_; intro gb813 hg w22 hbox hb; have n0_ := Aside0.mk (Kd.V_below (Kd.V_elderB HO_0.out gb813 (Nat.le_of_eq hg.symm)) hb); have n1_ := Aside0.mk (Kd.R_below (Kd.R_elderB (rk HO_7) gb813 (Nat.le_of_eq hg.symm)) hb); have n2_ := Aside0.mk (Kd.R_below (Kd.R_elderB (rk HO_31) gb813 (Nat.le_of_eq hg.symm)) hb); have n3_ := bs HB hb; have n4_ := Aside0.mk (hbox); have n5_ := ge HB hg; have n6_ := ge HB hg; clear HO_0; clear HO_7; clear HO_31; clear HB; have HO_0 := n0_; have HO_7 := n1_; have HO_31 := n2_; have HB := n3_; have BK813 := n4_; have GW813 := n5_; have GE813 := n6_; clear n0_ n1_ n2_ n3_ n4_ n5_ n6_; clear hb hbox hg; have hcz23_0 := bc0 BK813; have hcz23_1 := bc1 BK813; have hcz23_2 := bc2 BK813; have hfz23_0 := blk_frozen BK813.out 0; have hfz23_1 := blk_frozen BK813.out 1; have hfz23_2 := blk_frozen BK813.out 2; have p814 : 0 ≤ (x33_3 : Int) := of_decide_eq_true ‹_›; have q814 : x33_3 < (x0_2.length : Int) := of_decide_eq_true ‹_›; obtain ⟨ad814, e814, hx814_0, hx814_1, hx814_2⟩ := at_T30 (Kd.V_reads' (Kd.V_far (p := ⟨gb813, 2, none⟩) (Kd.V_far (p := ⟨gb813, 1, none⟩) (Kd.V_far (p := ⟨gb813, 0, none⟩) HO_0.out (fun _ hk => hk.2) (.int .i64 ((rd_T30 t805 x33_3).f0))) (fun _ hk => hk.2) (.int .i64 ((rd_T30 t805 x33_3).f1))) (fun _ hk => hk.2) (.int .i64 ((rd_T30 t805 x33_3).f2)))).2.2 x33_3 p814 q814; cases e814; (try have hy814_0 := fun (n_ : Nat) => (show (((((w22.drewN n_).setCell ⟨gb813, 0, none⟩ (.int .i64 ((rd_T30 t805 x33_3).f0))).setCell ⟨gb813, 1, none⟩ (.int .i64 ((rd_T30 t805 x33_3).f1))).setCell ⟨gb813, 2, none⟩ (.int .i64 ((rd_T30 t805 x33_3).f2)))).cell? _ = some _ from hx814_0)); (try have hy814_1 := fun (n_ : Nat) => (show (((((w22.drewN n_).setCell ⟨gb813, 0, none⟩ (.int .i64 ((rd_T30 t805 x33_3).f0))).setCell ⟨gb813, 1, none⟩ (.int .i64 ((rd_T30 t805 x33_3).f1))).setCell ⟨gb813, 2, none⟩ (.int .i64 ((rd_T30 t805 x33_3).f2)))).cell? _ = some _ from hx814_1)); (try have hy814_2 := fun (n_ : Nat) => (show (((((w22.drewN n_).setCell ⟨gb813, 0, none⟩ (.int .i64 ((rd_T30 t805 x33_3).f0))).setCell ⟨gb813, 1, none⟩ (.int .i64 ((rd_T30 t805 x33_3).f1))).setCell ⟨gb813, 2, none⟩ (.int .i64 ((rd_T30 t805 x33_3).f2)))).cell? _ = some _ from hx814_2)); replace p814 := eq_true p814; replace q814 := eq_true q814)))
        go_roundg k3
        case measure => have := HJ2.out; have := HK2.out; have := HK3.out; omega
        case rel => exact ⟨((!(((rd_T30 t805 x33_3).f0) == ((rd_T30 x0_2 x33_3).f0)) || (!(((rd_T30 t805 x33_3).f1) == ((rd_T30 x0_2 x33_3).f1)) || (!(((rd_T30 t805 x33_3).f2) == ((rd_T30 x0_2 x33_3).f2)))))), (wrap64 (x33_3 + 1)), (by first | rfl | (simp; done) | (simp [*]; done)), (by first | rfl | (simp; done) | (simp [*]; done)), H', ⟨by have := HJ2.out; have := HK2.out; have := HK3.out; omega⟩, ⟨by exact Kd.V_mono (Kd.V_far (p := ⟨gb813, 2, none⟩) (Kd.V_far (p := ⟨gb813, 1, none⟩) (Kd.V_far (p := ⟨gb813, 0, none⟩) (Kd.V_mono HO_0.out (fun k_ hk => (⟨hk, hk.2⟩ : _ ∧ k_ ≠ gb813))) (fun _ hk => hk.2) (.int .i64 ((rd_T30 t805 x33_3).f0))) (fun _ hk => hk.2) (.int .i64 ((rd_T30 t805 x33_3).f1))) (fun _ hk => hk.2) (.int .i64 ((rd_T30 t805 x33_3).f2))) (fun _ hk => ⟨hk.1.1.1, ⟨hk.1.1.2.1, hk.1.1.2.2⟩⟩)⟩, ⟨by exact Kd.R_mono (Kd.R_far (p := ⟨gb813, 2, none⟩) (Kd.R_far (p := ⟨gb813, 1, none⟩) (Kd.R_far (p := ⟨gb813, 0, none⟩) (Kd.R_mono HO_7.out (fun k_ hk => (⟨hk, hk.2⟩ : _ ∧ k_ ≠ gb813))) (fun _ hk => hk.2) (.int .i64 ((rd_T30 t805 x33_3).f0))) (fun _ hk => hk.2) (.int .i64 ((rd_T30 t805 x33_3).f1))) (fun _ hk => hk.2) (.int .i64 ((rd_T30 t805 x33_3).f2))) (fun _ hk => hk.1.1)⟩, ⟨by exact Kd.R_mono (Kd.R_far (p := ⟨gb813, 2, none⟩) (Kd.R_far (p := ⟨gb813, 1, none⟩) (Kd.R_far (p := ⟨gb813, 0, none⟩) (Kd.R_mono HO_31.out (fun k_ hk => (⟨hk, hk.2⟩ : _ ∧ k_ ≠ gb813))) (fun _ hk => hk.2) (.int .i64 ((rd_T30 t805 x33_3).f0))) (fun _ hk => hk.2) (.int .i64 ((rd_T30 t805 x33_3).f1))) (fun _ hk => hk.2) (.int .i64 ((rd_T30 t805 x33_3).f2))) (fun _ hk => hk.1.1)⟩, ⟨bw HB⟩⟩
     replace c10 := Bool.eq_false_iff.mpr c10
     subst c10
     have H1 : (spec_SteadyHeld.l2 k2 ([] : List Int) x0_2 (x0_2.length : Int) 0) = some (r1, r2) := by rw [if_neg (show ¬ (false = true) by decide)] at H; exact H
     clear H
     have H := H1
     clear H1
     have H' := Aside0.mk H
     clear H
     obtain ⟨Ao24, co24, eo24⟩ := Kd.V_slice HO_0.out
     subst eo24
     go_wp2
     repeat (go_quiet (fail); try go_wp2)
     try simp only [Act.put, List.setIfInBounds_toArray, List.set_cons_zero, List.set_cons_succ]
     go_loopg [12, 51] k2 (fun kq v12 v51 w' => ∃ (x12_3 : List Int) (x51_3 : Int), v51 = .int .i64 x51_3 ∧ Aside0 (spec_SteadyHeld.l2 kq x12_3 x0_2 (x0_2.length : Int) x51_3 = some (r1, r2)) ∧ Aside0 (kq ≤ k2) ∧ Aside0 (Kd.R (Kd.int .i64) 3 w' w.heap.size (fun k_ => (w.heap.size ≤ k_)) v12 x12_3) ∧ Aside0 (Kd.V k30 30 w' w.heap.size (fun k_ => (P0_ k_ ∨ w.heap.size ≤ k_) ∧ some k_ ≠ (v12 : Value).ownBlock) (.slice Ao24 x0_2.length co24) x0_2) ∧ Aside0 (Below w.heap.size w w'))
     case atStart => exact ⟨(([] : List Int)), (0), (by first | rfl | (simp; done) | (simp [*]; done)), H', ⟨Nat.le_refl _⟩, ⟨by first | exact Kd.R_nil _ _ _ _ _ | exact Kd.N_nil _ _ _ _ _ | exact Kd.V_nil _ _ _ _ _ | exact Kd.Q_nil _ _ _ _ _ | exact Kd.S_nil _ _ _ _ _⟩, ⟨by exact Kd.V_mono HO_0.out (fun _ hk => ⟨hk, (by simp [Value.ownBlock])⟩)⟩, ⟨bw HB⟩⟩
     case round =>
      clear H'
      (try clear c1); (try clear c2); (try clear p2); (try clear c5); (try clear p6); (try clear p8); (try clear q8); (try clear hx8); (try clear c9); (try clear c10); (try clear c15); (try clear c15b0); (try clear c16); (try clear c16b0); (try clear c17); (try clear c17b0); (try clear c18); (try clear c21); (try clear c21b0); (try clear hcz20_0); (try clear hcz20_1); (try clear hcz20_2); (try clear hcz23_0); (try clear hcz23_1); (try clear hcz23_2); (try clear hfz20_0); (try clear hfz20_1); (try clear hfz20_2); (try clear hfz23_0); (try clear hfz23_1); (try clear hfz23_2); (try clear hx812_0); (try clear hx812_1); (try clear hx812_2); (try clear hx814_0); (try clear hx814_1); (try clear hx814_2); (try clear p2); (try clear p812); (try clear p814); (try clear q812); (try clear q814)
      obtain ⟨x12_3, x51_3, rfl, HA, HK3, HO_12, HO_49, HB⟩ := hrel
      cases gk with
      | zero => exact absurd HA.out (by simp [spec_SteadyHeld.l2])
      | succ k3 =>
       have H := HA.out
       clear HA
       simp only [spec_SteadyHeld.l2] at H
       by_cases c25 : x51_3 < (x0_2.length : Int)
       rotate_left
       ·rw [if_neg c25] at H
        have c25b0 : decide (x51_3 < (x0_2.length : Int)) = false := decide_eq_false c25
        clear c25
        simp only [Option.some.injEq, Prod.mk.injEq] at H
        obtain ⟨rfl, rfl⟩ := H
        go_wp2
        repeat (go_quiet (fail); try go_wp2)
        go_ret2
        exact ⟨_, by first | rfl | (simp [errW_none, errW_some] <;> rfl) | (simp [*, errW_none, errW_some] <;> rfl), rk HO_12, bw HB⟩
       rw [if_pos c25] at H
       have c25b0 : decide (x51_3 < (x0_2.length : Int)) = true := decide_eq_true c25
       clear c25
       by_cases c26 : 0 ≤ x51_3
       rotate_left
       ·rw [if_neg c26] at H
        exact absurd H (by simp)
       rw [if_pos c26] at H
       have c26b0 : decide (0 ≤ x51_3) = true := decide_eq_true c26
       clear c26
       by_cases c27 : x51_3 < (x0_2.length : Int)
       rotate_left
       ·rw [if_neg c27] at H
        exact absurd H (by simp)
       rw [if_pos c27] at H
       have c27b0 : decide (x51_3 < (x0_2.length : Int)) = true := decide_eq_true c27
       clear c27
       by_cases c28 : x12_3.length < 17592186044416
       rotate_left
       ·rw [if_neg c28] at H
        exact absurd H (by simp)
       rw [if_pos c28] at H
       have LMc28 := Aside0.mk c28
       clear c28
       obtain ⟨y817, hy817⟩ : ∃ y_ : List Int, y_ = (x12_3 ++ [(rd_T30 x0_2 x51_3).f2]) := ⟨_, rfl⟩
       replace H : (spec_SteadyHeld.l2 k3 y817 x0_2 (x0_2.length : Int) (wrap64 (x51_3 + 1))) = some (r1, r2) := by first | (rw [hy817]; with_reducible exact H) | (have H2_ := (Option.bind_some _ _).symm.trans H; rw [hy817]; with_reducible exact H2_) | (have H2_ := (Option.bind_some _ _).symm.trans H; with_reducible exact H2_) | with_reducible exact H | (rw [hy817]; exact H) | exact H
       have Ny817 := Aside0.mk hy817
       clear hy817
       have H' := Aside0.mk H
       clear H
       have p815 : 0 ≤ (x51_3 : Int) := of_decide_eq_true ‹_›
       have q815 : x51_3 < (x0_2.length : Int) := of_decide_eq_true ‹_›
       obtain ⟨ad815, e815, hx815_0, hx815_1, hx815_2⟩ := at_T30 (Kd.V_reads' HO_49.out).2.2 x51_3 p815 q815
       cases e815
       replace p815 := eq_true p815
       replace q815 := eq_true q815
       go_wp2_with (first | ((with_reducible refine gate_dst (N := 14) rfl ?_); refine bx 14 #[.int .i64 0, .int .i64 0, .int .i64 0] 30 ?_; intro gb816 hg w29 hbox hb; replace HO_12 := rb HO_12 hb; replace HO_49 := Aside0.mk (Kd.V_below (Kd.V_elderB HO_49.out gb816 (Nat.le_of_eq hg.symm)) hb); have BK816 := Aside0.mk (hbox); have GW816 := ge HB hg; have GE816 := ge HB hg; replace HB := bs HB hb; clear hb hbox hg; have hcz30_0 := bc0 BK816; have hcz30_1 := bc1 BK816; have hcz30_2 := bc2 BK816; have hfz30_0 := blk_frozen BK816.out 0; have hfz30_1 := blk_frozen BK816.out 1; have hfz30_2 := blk_frozen BK816.out 2) | ((with_reducible refine gate_builtin (b := .append) (xs := #[.tmp 55, .tmp 58]) rfl ?_); at_builtin; refine Kd.R_append (Kd.int .i64) (w0 := w) w.heap.size rfl (.tmp 55) (.tmp 58) 33 3 (.int .i64 0) 8 rfl Try.underlying33 info3 rfl (by decide) (by omega) u12 x12_3 ((rd_T30 x0_2 x51_3).f2) [.int .i64 ((rd_T30 x0_2 x51_3).f2)] (fun k_ => (w.heap.size ≤ k_)) (fun _ => False) rfl (by first | (go_simp; done) | (go_simp; rfl)) ?aP (fun _ hk => hk.elim) ?aF ?aO ?aB ?aS ?aL ?_; (case aP => exact rfl); (case aB => exact (bw HB)); (case aF => exact (fun k_ hk => (Nat.le_trans (below_size (bw HB)) hk))); (case aO => exact (by exact Kd.R_mono (Kd.R_far (p := ⟨gb816, 2, none⟩) (Kd.R_far (p := ⟨gb816, 1, none⟩) (Kd.R_far (p := ⟨gb816, 0, none⟩) (Kd.R_types HO_12.out BK816.out (by decide)) (fun _ hk => hk.2) (.int .i64 ((rd_T30 x0_2 x51_3).f0))) (fun _ hk => hk.2) (.int .i64 ((rd_T30 x0_2 x51_3).f1))) (fun _ hk => hk.2) (.int .i64 ((rd_T30 x0_2 x51_3).f2))) (fun _ hk => hk.1))); (case aS => exact (below_size (bw HB))); (case aL => have := LMc28.out; omega); intro v818 w31 ho hb hg hat; rw [← Ny817.out] at ho; have n0_ := Aside0.mk (Kd.V_afterv (ok := (fun k_ => (P0_ k_ ∨ w.heap.size ≤ k_) ∧ k_ ≠ gb816)) (by exact Kd.V_mono (Kd.V_far (p := ⟨gb816, 2, none⟩) (Kd.V_far (p := ⟨gb816, 1, none⟩) (Kd.V_far (p := ⟨gb816, 0, none⟩) (Kd.V_mono HO_49.out (fun k_ hk => (⟨hk, hk.2⟩ : _ ∧ k_ ≠ gb816))) (fun _ hk => hk.2) (.int .i64 ((rd_T30 x0_2 x51_3).f0))) (fun _ hk => hk.2) (.int .i64 ((rd_T30 x0_2 x51_3).f1))) (fun _ hk => hk.2) (.int .i64 ((rd_T30 x0_2 x51_3).f2))) (fun _ hk => ⟨⟨hk.1.1.1, hk.1.2⟩, hk.1.1.2⟩)) hg hat); have n1_ := Aside0.mk (blk_grown (g := gb816) (o := .cells #[.int .i64 ((rd_T30 x0_2 x51_3).f0), .int .i64 ((rd_T30 x0_2 x51_3).f1), .int .i64 ((rd_T30 x0_2 x51_3).f2)] 30 (0, 0)) (by refine blk_put (cs := #[.int .i64 ((rd_T30 x0_2 x51_3).f0), .int .i64 ((rd_T30 x0_2 x51_3).f1), .int .i64 0]) ?_ 2 _ rfl; refine blk_put (cs := #[.int .i64 ((rd_T30 x0_2 x51_3).f0), .int .i64 0, .int .i64 0]) ?_ 1 _ rfl; refine blk_put (cs := #[.int .i64 0, .int .i64 0, .int .i64 0]) ?_ 0 _ rfl; exact bk BK816) hg (Kd.R_ne HO_12.out BK816.out (by decide))); have n2_ := Aside0.mk (hb); have n3_ := Aside0.mk (ho); clear HO_49; clear BK816; clear HB; clear HO_12; have HO_49 := n0_; have BK816 := n1_; have HB := n2_; have HO819 := n3_; clear n0_ n1_ n2_ n3_; clear ho hb hg hat))
       repeat (go_quiet (first | ((with_reducible refine gate_dst (N := 14) rfl ?_); refine bx 14 #[.int .i64 0, .int .i64 0, .int .i64 0] 30 ?_; intro gb816 hg w29 hbox hb; have n0_ := rb HO_12 hb; have n1_ := Aside0.mk (Kd.V_below (Kd.V_elderB HO_49.out gb816 (Nat.le_of_eq hg.symm)) hb); have n2_ := bs HB hb; have n3_ := Aside0.mk (hbox); have n4_ := ge HB hg; have n5_ := ge HB hg; clear HO_12; clear HO_49; clear HB; have HO_12 := n0_; have HO_49 := n1_; have HB := n2_; have BK816 := n3_; have GW816 := n4_; have GE816 := n5_; clear n0_ n1_ n2_ n3_ n4_ n5_; clear hb hbox hg; have hcz30_0 := bc0 BK816; have hcz30_1 := bc1 BK816; have hcz30_2 := bc2 BK816; have hfz30_0 := blk_frozen BK816.out 0; have hfz30_1 := blk_frozen BK816.out 1; have hfz30_2 := blk_frozen BK816.out 2) | ((with_reducible refine gate_builtin (b := .append) (xs := #[.tmp 55, .tmp 58]) rfl ?_); at_builtin; refine Kd.R_append (Kd.int .i64) (w0 := w) w.heap.size rfl (.tmp 55) (.tmp 58) 33 3 (.int .i64 0) 8 rfl Try.underlying33 info3 rfl (by decide) (by omega) u12 x12_3 ((rd_T30 x0_2 x51_3).f2) [.int .i64 ((rd_T30 x0_2 x51_3).f2)] (fun k_ => (w.heap.size ≤ k_)) (fun _ => False) rfl (by first | (go_simp; done) | (go_simp; rfl)) ?aP (fun _ hk => hk.elim) ?aF ?aO ?aB ?aS ?aL ?_; (case aP => exact rfl); (case aB => exact (bw HB)); (case aF => exact (fun k_ hk => (Nat.le_trans (below_size (bw HB)) hk))); (case aO => exact (by exact Kd.R_mono (Kd.R_far (p := ⟨gb816, 2, none⟩) (Kd.R_far (p := ⟨gb816, 1, none⟩) (Kd.R_far (p := ⟨gb816, 0, none⟩) (Kd.R_types HO_12.out BK816.out (by decide)) (fun _ hk => hk.2) (.int .i64 ((rd_T30 x0_2 x51_3).f0))) (fun _ hk => hk.2) (.int .i64 ((rd_T30 x0_2 x51_3).f1))) (fun _ hk => hk.2) (.int .i64 ((rd_T30 x0_2 x51_3).f2))) (fun _ hk => hk.1))); (case aS => exact (below_size (bw HB))); (case aL => have := LMc28.out; omega); intro v818 w31 ho hb hg hat; rw [← Ny817.out] at ho; have n0_ := Aside0.mk (Kd.V_afterv (ok := (fun k_ => (P0_ k_ ∨ w.heap.size ≤ k_) ∧ k_ ≠ gb816)) (by exact Kd.V_mono (Kd.V_far (p := ⟨gb816, 2, none⟩) (Kd.V_far (p := ⟨gb816, 1, none⟩) (Kd.V_far (p := ⟨gb816, 0, none⟩) (Kd.V_mono HO_49.out (fun k_ hk => (⟨hk, hk.2⟩ : _ ∧ k_ ≠ gb816))) (fun _ hk => hk.2) (.int .i64 ((rd_T30 x0_2 x51_3).f0))) (fun _ hk => hk.2) (.int .i64 ((rd_T30 x0_2 x51_3).f1))) (fun _ hk => hk.2) (.int .i64 ((rd_T30 x0_2 x51_3).f2))) (fun _ hk => ⟨⟨hk.1.1.1, hk.1.2⟩, hk.1.1.2⟩)) hg hat); have n1_ := Aside0.mk (blk_grown (g := gb816) (o := .cells #[.int .i64 ((rd_T30 x0_2 x51_3).f0), .int .i64 ((rd_T30 x0_2 x51_3).f1), .int .i64 ((rd_T30 x0_2 x51_3).f2)] 30 (0, 0)) (by refine blk_put (cs := #[.int .i64 ((rd_T30 x0_2 x51_3).f0), .int .i64 ((rd_T30 x0_2 x51_3).f1), .int .i64 0]) ?_ 2 _ rfl; refine blk_put (cs := #[.int .i64 ((rd_T30 x0_2 x51_3).f0), .int .i64 0, .int .i64 0]) ?_ 1 _ rfl; refine blk_put (cs := #[.int .i64 0, .int .i64 0, .int .i64 0]) ?_ 0 _ rfl; exact bk BK816) hg (Kd.R_ne HO_12.out BK816.out (by decide))); have n2_ := Aside0.mk (hb); have n3_ := Aside0.mk (ho); clear HO_49; clear BK816; clear HB; clear HO_12; have HO_49 := n0_; have BK816 := n1_; have HB := n2_; have HO819 := n3_; clear n0_ n1_ n2_ n3_; clear ho hb hg hat)); try go_wp2_with (first | ((with_reducible refine gate_dst (N := 14) rfl ?_); refine bx 14 #[.int .i64 0, .int .i64 0, .int .i64 0] 30 ?_; intro gb816 hg w29 hbox hb; have n0_ := rb HO_12 hb; have n1_ := Aside0.mk (Kd.V_below (Kd.V_elderB HO_49.out gb816 (Nat.le_of_eq hg.symm)) hb); have n2_ := bs HB hb; have n3_ := Aside0.mk (hbox); have n4_ := ge HB hg; have n5_ := ge HB hg; clear HO_12; clear HO_49; clear HB; have HO_12 := n0_; have HO_49 := n1_; have HB := n2_; have BK816 := n3_; have GW816 := n4_; have GE816 := n5_; clear n0_ n1_ n2_ n3_ n4_ n5_; clear hb hbox hg; have hcz30_0 := bc0 BK816; have hcz30_1 := bc1 BK816; have hcz30_2 := bc2 BK816; have hfz30_0 := blk_frozen BK816.out 0; have hfz30_1 := blk_frozen BK816.out 1; have hfz30_2 := blk_frozen BK816.out 2) | ((with_reducible refine gate_builtin (b := .append) (xs := #[.tmp 55, .tmp 58]) rfl ?_); at_builtin; refine Kd.R_append (Kd.int .i64) (w0 := w) w.heap.size rfl (.tmp 55) (.tmp 58) 33 3 (.int .i64 0) 8 rfl Try.underlying33 info3 rfl (by decide) (by omega) u12 x12_3 ((rd_T30 x0_2 x51_3).f2) [.int .i64 ((rd_T30 x0_2 x51_3).f2)] (fun k_ => (w.heap.size ≤ k_)) (fun _ => False) rfl (by first | (go_simp; done) | (go_simp; rfl)) ?aP (fun _ hk => hk.elim) ?aF ?aO ?aB ?aS ?aL ?_; (case aP => exact rfl); (case aB => exact (bw HB)); (case aF => exact (fun k_ hk => (Nat.le_trans (below_size (bw HB)) hk))); (case aO => exact (by exact Kd.R_mono (Kd.R_far (p := ⟨gb816, 2, none⟩) (Kd.R_far (p := ⟨gb816, 1, none⟩) (Kd.R_far (p := ⟨gb816, 0, none⟩) (Kd.R_types HO_12.out BK816.out (by decide)) (fun _ hk => hk.2) (.int .i64 ((rd_T30 x0_2 x51_3).f0))) (fun _ hk => hk.2) (.int .i64 ((rd_T30 x0_2 x51_3).f1))) (fun _ hk => hk.2) (.int .i64 ((rd_T30 x0_2 x51_3).f2))) (fun _ hk => hk.1))); (case aS => exact (below_size (bw HB))); (case aL => have := LMc28.out; omega); intro v818 w31 ho hb hg hat; rw [← Ny817.out] at ho; have n0_ := Aside0.mk (Kd.V_afterv (ok := (fun k_ => (P0_ k_ ∨ w.heap.size ≤ k_) ∧ k_ ≠ gb816)) (by exact Kd.V_mono (Kd.V_far (p := ⟨gb816, 2, none⟩) (Kd.V_far (p := ⟨gb816, 1, none⟩) (Kd.V_far (p := ⟨gb816, 0, none⟩) (Kd.V_mono HO_49.out (fun k_ hk => (⟨hk, hk.2⟩ : _ ∧ k_ ≠ gb816))) (fun _ hk => hk.2) (.int .i64 ((rd_T30 x0_2 x51_3).f0))) (fun _ hk => hk.2) (.int .i64 ((rd_T30 x0_2 x51_3).f1))) (fun _ hk => hk.2) (.int .i64 ((rd_T30 x0_2 x51_3).f2))) (fun _ hk => ⟨⟨hk.1.1.1, hk.1.2⟩, hk.1.1.2⟩)) hg hat); have n1_ := Aside0.mk (blk_grown (g := gb816) (o := .cells #[.int .i64 ((rd_T30 x0_2 x51_3).f0), .int .i64 ((rd_T30 x0_2 x51_3).f1), .int .i64 ((rd_T30 x0_2 x51_3).f2)] 30 (0, 0)) (by refine blk_put (cs := #[.int .i64 ((rd_T30 x0_2 x51_3).f0), .int .i64 ((rd_T30 x0_2 x51_3).f1), .int .i64 0]) ?_ 2 _ rfl; refine blk_put (cs := #[.int .i64 ((rd_T30 x0_2 x51_3).f0), .int .i64 0, .int .i64 0]) ?_ 1 _ rfl; refine blk_put (cs := #[.int .i64 0, .int .i64 0, .int .i64 0]) ?_ 0 _ rfl; exact bk BK816) hg (Kd.R_ne HO_12.out BK816.out (by decide))); have n2_ := Aside0.mk (hb); have n3_ := Aside0.mk (ho); clear HO_49; clear BK816; clear HB; clear HO_12; have HO_49 := n0_; have BK816 := n1_; have HB := n2_; have HO819 := n3_; clear n0_ n1_ n2_ n3_; clear ho hb hg hat)))
       go_roundg k3
       case measure => have := HJ2.out; have := HK2.out; have := HK3.out; omega
       case rel => exact ⟨(y817), (wrap64 (x51_3 + 1)), (by first | rfl | (simp; done) | (simp [*]; done)), H', ⟨by have := HJ2.out; have := HK2.out; have := HK3.out; omega⟩, ⟨rk HO819⟩, ⟨by exact Kd.V_mono HO_49.out (fun _ hk => ⟨hk.1.1, hk.2⟩)⟩, ⟨bw HB⟩⟩
def spec_DrawHeldAlong.f (k : Nat) (l0 : List Int) : Option ((List (S30)) × Int × List Int) := (spec_l1Cur_row.f k l0 0 0 4).bind fun bt821 => ((spec_l1Cur_pick.f l0 bt821.2.1 bt821.2.2 4).bind fun bt826 => ((spec_l1Cur_pick.f l0 bt826.2.1 bt826.2.2 9).bind fun bt829 => ((spec_l1Cur_flows.f k l0 bt829.2.1 bt829.2.2).bind fun bt832 => (some (bt821.1, wrap64 (bt826.1 - (wrap64 (Int.tdiv bt829.1 8))), bt832.1)))))
set_option maxHeartbeats 8000000 in
set_option maxRecDepth 100000 in
theorem spec_DrawHeldAlong.calls (k : Nat) (A0 : Option Addr) (c0 : Nat) (l0 : List Int) (r1 : List (S30)) (r2 : Int) (r3 : List Int) (w : World) (hr0 : Kd.C (Kd.int .u8) w A0 l0.length l0) (hc0 : l0.length ≤ c0) (h : spec_DrawHeldAlong.f k l0 = some (r1, r2, r3)) :
  Calls Try.prog 61 #[.slice A0 l0.length c0] w fun e w' => ∃ v0_ v2_ : Value, e = .returned (.tuple #[v0_, .int .i64 r2, v2_]) ∧ Kd.R k30 30 w' w.heap.size (fun _ => True) v0_ r1 ∧ Kd.R (Kd.int .i64) 3 w' w.heap.size (fun _ => True) v2_ r3 ∧ Below w.heap.size w w' := by
 have hu83 := Try.underlying83
 have HR0 := Aside0.mk hr0
 have HC0 := Aside0.mk hc0
 clear hr0 hc0
 have HB := Aside0.mk (Below.refl w.heap.size w)
 have H : ((spec_l1Cur_row.f k l0 0 0 4).bind fun bt821 => ((spec_l1Cur_pick.f l0 bt821.2.1 bt821.2.2 4).bind fun bt826 => ((spec_l1Cur_pick.f l0 bt826.2.1 bt826.2.2 9).bind fun bt829 => ((spec_l1Cur_flows.f k l0 bt829.2.1 bt829.2.2).bind fun bt832 => (some (bt821.1, wrap64 (bt826.1 - (wrap64 (Int.tdiv bt829.1 8))), bt832.1)))))) = some (r1, r2, r3) := h
 clear h
 replace H := Option.bind_eq_some_iff.mp H
 obtain ⟨⟨t821, t824, t825⟩, A20, H⟩ := H
 (try dsimp only at H)
 have A2 := Aside0.mk A20
 clear A20
 replace H := Option.bind_eq_some_iff.mp H
 obtain ⟨⟨t826, t827, t828⟩, A30, H⟩ := H
 (try dsimp only at H)
 have A3 := Aside0.mk A30
 clear A30
 replace H := Option.bind_eq_some_iff.mp H
 obtain ⟨⟨t829, t830, t831⟩, A40, H⟩ := H
 (try dsimp only at H)
 have A4 := Aside0.mk A40
 clear A40
 replace H := Option.bind_eq_some_iff.mp H
 obtain ⟨⟨t832, t835, t836⟩, A50, H⟩ := H
 (try dsimp only at H)
 have A5 := Aside0.mk A50
 clear A50
 simp only [Option.some.injEq, Prod.mk.injEq] at H
 obtain ⟨rfl, rfl, rfl⟩ := H
 go_enter Try.func61, Try.ntmps61
 go_wp2_with (first | ((with_reducible refine gate_dst (N := 8) rfl ?_); refine bx 8 #[.slice A0 l0.length c0, .int .i64 0, .int .u64 0] 83 ?_; intro gb820 hg w6 hbox hb; have HI820 := Aside0.mk ((⟨_, _, hbox, (by rw [hg]; exact (below_size (bw HB)) : w.heap.size ≤ gb820), HR0.out⟩ : IsS83 w _ gb820 l0 0 0)); replace HB := bs HB hb; clear hb hbox hg) | ((with_reducible refine gate_callee (f := 67) rfl ?_); refine gl 10 Try.func67 #[.pointer (some ⟨gb820, 0, none⟩), .int .i64 4] ?_; (with_reducible refine (spec_l1Cur_row.calls k gb820 l0 0 0 4 t821 t824 t825 w _ ?side1 ?side2 A2.out).mono ?_); (case side1 => repeat (first | (with_reducible first | exact HI820.out | apply IsS83.alloc | apply IsS83.drewN | apply IsS83.drew | apply IsS83.set_1 | apply IsS83.set_2) | exact HI820.out)); (case side2 => repeat (first | (with_reducible first | exact HB.out | apply below_alloc | apply pw_below_drewN | apply below_drew1 | refine below_set ?_ (IsS83.ge HI820.out)) | exact HB.out)); rintro e w7 ⟨v822, rfl, ho0, hi, hb, hk⟩; refine ⟨_, rfl, ?_⟩; have HO823 := Aside0.mk (Kd.R_lower ho0 (below_size (by repeat (first | (with_reducible first | exact HB.out | apply below_alloc | apply pw_below_drewN | apply below_drew1 | refine below_set ?_ (IsS83.ge HI820.out)) | exact HB.out)))); replace HB := Aside0.mk (hb); replace HI820 := Aside0.mk (hi); (try clear hb); (try clear hk); (try clear hi); (try clear ho0)) | ((with_reducible refine gate_callee (f := 80) rfl ?_); refine gl 12 Try.func80 #[.pointer (some ⟨gb820, 0, none⟩), .int .i64 4] ?_; (with_reducible refine (spec_l1Cur_pick.calls gb820 l0 t824 t825 4 t826 t827 t828 w _ ?side1 ?side2 A3.out).mono ?_); (case side1 => repeat (first | (with_reducible first | exact HI820.out | apply IsS83.alloc | apply IsS83.drewN | apply IsS83.drew | apply IsS83.set_1 | apply IsS83.set_2) | exact HI820.out)); (case side2 => repeat (first | (with_reducible first | exact HB.out | apply below_alloc | apply pw_below_drewN | apply below_drew1 | refine below_set ?_ (IsS83.ge HI820.out)) | exact HB.out)); rintro e w8 ⟨rfl, hi, hb, hk⟩; refine ⟨_, rfl, ?_⟩; replace HO823 := Aside0.mk (Kd.R_mono (Kd.R_keep (IsS83.apart (show IsS83 w _ gb820 l0 t824 t825 from by repeat (first | (with_reducible first | exact HI820.out | apply IsS83.alloc | apply IsS83.drewN | apply IsS83.drew | apply IsS83.set_1 | apply IsS83.set_2) | exact HI820.out)) (rk HO823) (by decide)) hk (fun _ h => h.2)) (fun _ h => h.1)); replace HB := Aside0.mk (hb); replace HI820 := Aside0.mk (hi); (try clear hb); (try clear hk); (try clear hi)) | ((with_reducible refine gate_callee (f := 80) rfl ?_); refine gl 14 Try.func80 #[.pointer (some ⟨gb820, 0, none⟩), .int .i64 9] ?_; (with_reducible refine (spec_l1Cur_pick.calls gb820 l0 t827 t828 9 t829 t830 t831 w _ ?side1 ?side2 A4.out).mono ?_); (case side1 => repeat (first | (with_reducible first | exact HI820.out | apply IsS83.alloc | apply IsS83.drewN | apply IsS83.drew | apply IsS83.set_1 | apply IsS83.set_2) | exact HI820.out)); (case side2 => repeat (first | (with_reducible first | exact HB.out | apply below_alloc | apply pw_below_drewN | apply below_drew1 | refine below_set ?_ (IsS83.ge HI820.out)) | exact HB.out)); rintro e w9 ⟨rfl, hi, hb, hk⟩; refine ⟨_, rfl, ?_⟩; replace HO823 := Aside0.mk (Kd.R_mono (Kd.R_keep (IsS83.apart (show IsS83 w _ gb820 l0 t827 t828 from by repeat (first | (with_reducible first | exact HI820.out | apply IsS83.alloc | apply IsS83.drewN | apply IsS83.drew | apply IsS83.set_1 | apply IsS83.set_2) | exact HI820.out)) (rk HO823) (by decide)) hk (fun _ h => h.2)) (fun _ h => h.1)); replace HB := Aside0.mk (hb); replace HI820 := Aside0.mk (hi); (try clear hb); (try clear hk); (try clear hi)) | ((with_reducible refine gate_callee (f := 69) rfl ?_); refine gl 18 Try.func69 #[.pointer (some ⟨gb820, 0, none⟩)] ?_; (with_reducible refine (spec_l1Cur_flows.calls k gb820 l0 t830 t831 t832 t835 t836 w _ ?side1 ?side2 A5.out).mono ?_); (case side1 => repeat (first | (with_reducible first | exact HI820.out | apply IsS83.alloc | apply IsS83.drewN | apply IsS83.drew | apply IsS83.set_1 | apply IsS83.set_2) | exact HI820.out)); (case side2 => repeat (first | (with_reducible first | exact HB.out | apply below_alloc | apply pw_below_drewN | apply below_drew1 | refine below_set ?_ (IsS83.ge HI820.out)) | exact HB.out)); rintro e w10 ⟨v833, rfl, ho0, hi, hb, hk⟩; refine ⟨_, rfl, ?_⟩; replace HO823 := Aside0.mk (Kd.R_mono (Kd.R_keep (IsS83.apart (show IsS83 w _ gb820 l0 t830 t831 from by repeat (first | (with_reducible first | exact HI820.out | apply IsS83.alloc | apply IsS83.drewN | apply IsS83.drew | apply IsS83.set_1 | apply IsS83.set_2) | exact HI820.out)) (rk HO823) (by decide)) hk (fun _ h => h.2)) (fun _ h => h.1)); have HO834 := Aside0.mk (Kd.R_lower ho0 (below_size (by repeat (first | (with_reducible first | exact HB.out | apply below_alloc | apply pw_below_drewN | apply below_drew1 | refine below_set ?_ (IsS83.ge HI820.out)) | exact HB.out)))); replace HB := Aside0.mk (hb); replace HI820 := Aside0.mk (hi); (try clear hb); (try clear hk); (try clear hi); (try clear ho0)))
 go_ret3
 exact ⟨_, _, by first | rfl | (simp [errW_none, errW_some] <;> rfl) | (simp [*, errW_none, errW_some] <;> rfl), rk HO823, rk HO834, by repeat (first | (with_reducible first | exact HB.out | apply below_alloc | apply pw_below_drewN | apply below_drew1 | refine below_set ?_ (IsS83.ge HI820.out)) | exact HB.out)⟩
def spec_DrawLeastSize.f (k : Nat) (l0 : List Int) : Option ((List (S30)) × Int × List Int) := (spec_DrawHeldAlong.f k l0).bind fun bt837 => (some (bt837.1, bt837.2.1, bt837.2.2))
set_option maxHeartbeats 8000000 in
set_option maxRecDepth 100000 in
theorem spec_DrawLeastSize.calls (k : Nat) (A0 : Option Addr) (c0 : Nat) (l0 : List Int) (r1 : List (S30)) (r2 : Int) (r3 : List Int) (w : World) (hr0 : Kd.C (Kd.int .u8) w A0 l0.length l0) (hc0 : l0.length ≤ c0) (h : spec_DrawLeastSize.f k l0 = some (r1, r2, r3)) :
  Calls Try.prog 20 #[.slice A0 l0.length c0] w fun e w' => ∃ v0_ v2_ : Value, e = .returned (.tuple #[v0_, .int .i64 r2, v2_]) ∧ Kd.R k30 30 w' w.heap.size (fun _ => True) v0_ r1 ∧ Kd.R (Kd.int .i64) 3 w' w.heap.size (fun _ => True) v2_ r3 ∧ Below w.heap.size w w' := by
 have HR0 := Aside0.mk hr0
 have HC0 := Aside0.mk hc0
 clear hr0 hc0
 have HB := Aside0.mk (Below.refl w.heap.size w)
 have H : ((spec_DrawHeldAlong.f k l0).bind fun bt837 => (some (bt837.1, bt837.2.1, bt837.2.2))) = some (r1, r2, r3) := h
 clear h
 replace H := Option.bind_eq_some_iff.mp H
 obtain ⟨⟨t837, t838, t839⟩, A20, H⟩ := H
 (try dsimp only at H)
 have A2 := Aside0.mk A20
 clear A20
 simp only [Option.some.injEq, Prod.mk.injEq] at H
 obtain ⟨rfl, rfl, rfl⟩ := H
 go_enter Try.func20, Try.ntmps20
 go_wp2_with (first | ((with_reducible refine gate_callee (f := 61) rfl ?_); refine gl 6 Try.func61 #[.slice A0 l0.length c0] ?_; (with_reducible refine (spec_DrawHeldAlong.calls k _ _ l0 t837 t838 t839 _ ?side1 ?side2 A2.out).mono ?_); (case side1 => repeat (first | exact HR0.out | (with_reducible refine Kd.C_alloc ?_ _) | (with_reducible refine Kd.C_drewN ?_ _) | (with_reducible refine Kd.C_drew ?_))); (case side2 => exact HC0.out); rintro e w3 ⟨v840, v842, rfl, ho0, ho1, hb⟩; refine ⟨_, rfl, ?_⟩; have HO841 := lo ho0 HB; have HO843 := lo ho1 HB; replace HB := bs HB hb; (try clear hb); (try clear ho0); (try clear ho1)))
 go_ret3
 exact ⟨_, _, by first | rfl | (simp [errW_none, errW_some] <;> rfl) | (simp [*, errW_none, errW_some] <;> rfl), rk HO841, rk HO843, bw HB⟩
def impl_LeastSize.l0 : Nat → List (S30) → Int → Int → Int → List (S30) → List Int → Int → Int → Option (Int × Bool)
 | 0, _, _, _, _, _, _, _, _ => none
 | k + 1, x0, x1, x8, x9, x10, x33, x34, x35 => if x35 < x34 then (if 0 ≤ x35 then (if x35 < (x33.length : Int) then ((impl_tickRow.f k x10 (rd x33 x35)).bind fun bt855 => (if 0 ≤ x1 then (if x1 < (x0.length : Int) then (impl_LeastSize.l0 k x0 x1 (mx x8 (wrap64 (x9 + bt855.2.2))) (mx 0 (wrap64 ((wrap64 (x9 + bt855.2.2)) - ((rd_T30 x0 x1).f1)))) bt855.1 x33 x34 (wrap64 (x35 + 1))) else (none)) else (none))) else (none)) else (none)) else (if x8 > 1000 then (some (0, false)) else (some (x8, true)))
def impl_LeastSize.f (k : Nat) (l0 : List (S30)) (a1 : Int) (l2 : List Int) : Option (Int × Bool) := (impl_isBasinOf.f l0 a1 l2).bind fun t844 => (if t844 = true then (if 0 ≤ a1 then (if a1 < (l0.length : Int) then (if a1 ≤ (l0.length : Int) then ((impl_Basin_63.f (l0.take (a1 : Int).toNat)).bind fun t851 => (impl_LeastSize.l0 k l0 a1 (mx 1 ((rd_T30 l0 a1).f2)) ((rd_T30 l0 a1).f2) t851 l2 (l2.length : Int) 0)) else (none)) else (none)) else (none)) else (some (0, false)))
set_option maxHeartbeats 8000000 in
set_option maxRecDepth 100000 in
theorem impl_LeastSize.calls (k : Nat) (A0 : Option Addr) (c0 : Nat) (l0 : List (S30)) (a1 : Int) (A2 : Option Addr) (c2 : Nat) (l2 : List Int) (r1 : Int) (r2 : Bool) (w : World) (hr0 : Kd.C k30 w A0 l0.length l0) (hc0 : l0.length ≤ c0) (hr2 : Kd.C (Kd.int .i64) w A2 l2.length l2) (hc2 : l2.length ≤ c2) (h : impl_LeastSize.f k l0 a1 l2 = some (r1, r2)) :
  Calls Try.prog 21 #[.slice A0 l0.length c0, .int .i64 a1, .slice A2 l2.length c2] w fun e w' => e = .returned (.tuple #[.int .i64 r1, .bool r2]) ∧ Below w.heap.size w w' := by
 have HR0 := Aside0.mk hr0
 have HC0 := Aside0.mk hc0
 clear hr0 hc0
 have HR2 := Aside0.mk hr2
 have HC2 := Aside0.mk hc2
 clear hr2 hc2
 have HB := Aside0.mk (Below.refl w.heap.size w)
 have H : ((impl_isBasinOf.f l0 a1 l2).bind fun t844 => (if t844 = true then (if 0 ≤ a1 then (if a1 < (l0.length : Int) then (if a1 ≤ (l0.length : Int) then ((impl_Basin_63.f (l0.take (a1 : Int).toNat)).bind fun t851 => (impl_LeastSize.l0 k l0 a1 (mx 1 ((rd_T30 l0 a1).f2)) ((rd_T30 l0 a1).f2) t851 l2 (l2.length : Int) 0)) else (none)) else (none)) else (none)) else (some (0, false)))) = some (r1, r2) := h
 clear h
 replace H := Option.bind_eq_some_iff.mp H
 obtain ⟨t844, A40, H⟩ := H
 (try dsimp only at H)
 have A4 := Aside0.mk A40
 clear A40
 by_cases c5 : t844 = true
 rotate_left
 ·replace c5 := Bool.eq_false_iff.mpr c5
  subst c5
  have H1 : (some (0, false)) = some (r1, r2) := by rw [if_neg (show ¬ (false = true) by decide)] at H; exact H
  clear H
  have H := H1
  clear H1
  simp only [Option.some.injEq, Prod.mk.injEq] at H
  obtain ⟨rfl, rfl⟩ := H
  go_enter Try.func21, Try.ntmps21
  go_wp2_with (first | ((with_reducible refine gate_callee (f := 62) rfl ?_); refine gl 16 Try.func62 #[.slice A0 l0.length c0, .int .i64 a1, .slice A2 l2.length c2] ?_; (with_reducible refine (impl_isBasinOf.calls _ _ l0 a1 _ _ l2 false _ ?side1 ?side2 ?side3 ?side4 A4.out).mono ?_); (case side1 => repeat (first | exact HR0.out | (with_reducible refine Kd.C_alloc ?_ _) | (with_reducible refine Kd.C_drewN ?_ _) | (with_reducible refine Kd.C_drew ?_))); (case side2 => exact HC0.out); (case side3 => repeat (first | exact HR2.out | (with_reducible refine Kd.C_alloc ?_ _) | (with_reducible refine Kd.C_drewN ?_ _) | (with_reducible refine Kd.C_drew ?_))); (case side4 => exact HC2.out); rintro e w26 ⟨rfl, hb⟩; refine ⟨_, rfl, ?_⟩; replace HB := bs HB hb; (try clear hb)))
  go_ret2
  exact ⟨by first | rfl | (simp [errW_none, errW_some] <;> rfl) | (simp [*, errW_none, errW_some] <;> rfl), bw HB⟩
 subst c5
 have H1 : (if 0 ≤ a1 then (if a1 < (l0.length : Int) then (if a1 ≤ (l0.length : Int) then ((impl_Basin_63.f (l0.take (a1 : Int).toNat)).bind fun t851 => (impl_LeastSize.l0 k l0 a1 (mx 1 ((rd_T30 l0 a1).f2)) ((rd_T30 l0 a1).f2) t851 l2 (l2.length : Int) 0)) else (none)) else (none)) else (none)) = some (r1, r2) := by rw [if_pos rfl] at H; exact H
 clear H
 have H := H1
 clear H1
 by_cases c6 : 0 ≤ a1
 rotate_left
 ·rw [if_neg c6] at H
  exact absurd H (by simp)
 rw [if_pos c6] at H
 have c6b0 : decide (0 ≤ a1) = true := decide_eq_true c6
 clear c6
 by_cases c7 : a1 < (l0.length : Int)
 rotate_left
 ·rw [if_neg c7] at H
  exact absurd H (by simp)
 rw [if_pos c7] at H
 have c7b0 : decide (a1 < (l0.length : Int)) = true := decide_eq_true c7
 clear c7
 obtain ⟨ji8, hji8⟩ : ∃ j_ : Int, (mx 1 ((rd_T30 l0 a1).f2)) = j_ := ⟨_, rfl⟩
 replace H : (if a1 ≤ (l0.length : Int) then ((impl_Basin_63.f (l0.take (a1 : Int).toNat)).bind fun t851 => (impl_LeastSize.l0 k l0 a1 ji8 ((rd_T30 l0 a1).f2) t851 l2 (l2.length : Int) 0)) else (none)) = some (r1, r2) := by first | (rw [hji8] at H; exact H) | (simp only [hji8] at H ⊢; exact H)
 (try rw [hji8] at A4)
 (try (have hji8l : 1 ≤ ji8 := by (rw [← hji8]; unfold mx; (repeat' split) <;> omega)))
 (try (have hji8m : 0 ≤ ji8 := by omega))
 have hji8_ : (if 1 < ((rd_T30 l0 a1).f2) then ((rd_T30 l0 a1).f2) else 1) = ji8 := hji8
 have c9b0 := eq_true (of_decide_eq_true ‹_› : 0 ≤ a1)
 by_cases c10 : a1 ≤ (l0.length : Int)
 rotate_left
 ·rw [if_neg c10] at H
  exact absurd H (by simp)
 rw [if_pos c10] at H
 have c10b0 := eq_true c10
 have c10b1 : decide (a1 ≤ (l0.length : Int)) = true := decide_eq_true c10
 clear c10
 obtain ⟨y847, hy847⟩ : ∃ y_ : List (S30), y_ = (l0.take (a1 : Int).toNat) := ⟨_, rfl⟩
 replace H : ((impl_Basin_63.f y847).bind fun t851 => (impl_LeastSize.l0 k l0 a1 ji8 ((rd_T30 l0 a1).f2) t851 l2 (l2.length : Int) 0)) = some (r1, r2) := by first | (rw [hy847]; with_reducible exact H) | (have H2_ := (Option.bind_some _ _).symm.trans H; rw [hy847]; with_reducible exact H2_) | (have H2_ := (Option.bind_some _ _).symm.trans H; with_reducible exact H2_) | with_reducible exact H | (rw [hy847]; exact H) | exact H
 have Ny847 := Aside0.mk hy847
 clear hy847
 replace H := Option.bind_eq_some_iff.mp H
 obtain ⟨t851, A110, H⟩ := H
 (try dsimp only at H)
 have A11 := Aside0.mk A110
 clear A110
 have H' := Aside0.mk H
 clear H
 go_enter Try.func21, Try.ntmps21
 go_wp2_with (first | ((with_reducible refine gate_callee (f := 62) rfl ?_); refine gl 16 Try.func62 #[.slice A0 l0.length c0, .int .i64 a1, .slice A2 l2.length c2] ?_; (with_reducible refine (impl_isBasinOf.calls _ _ l0 a1 _ _ l2 true _ ?side1 ?side2 ?side3 ?side4 A4.out).mono ?_); (case side1 => repeat (first | exact HR0.out | (with_reducible refine Kd.C_alloc ?_ _) | (with_reducible refine Kd.C_drewN ?_ _) | (with_reducible refine Kd.C_drew ?_))); (case side2 => exact HC0.out); (case side3 => repeat (first | exact HR2.out | (with_reducible refine Kd.C_alloc ?_ _) | (with_reducible refine Kd.C_drewN ?_ _) | (with_reducible refine Kd.C_drew ?_))); (case side4 => exact HC2.out); rintro e w12 ⟨rfl, hb⟩; refine ⟨_, rfl, ?_⟩; replace HB := bs HB hb; (try clear hb); have p845 : 0 ≤ (a1 : Int) := of_decide_eq_true ‹_›; have q845 : a1 < (l0.length : Int) := of_decide_eq_true ‹_›; obtain ⟨ad845, e845, hx845_0, hx845_1, hx845_2⟩ := at_T30 HR0.out a1 p845 q845; cases e845; replace hx845_0 := (HB.out.cell (World.block_lt_of_cell? w _ hx845_0)).trans hx845_0; replace hx845_1 := (HB.out.cell (World.block_lt_of_cell? w _ hx845_1)).trans hx845_1; replace hx845_2 := (HB.out.cell (World.block_lt_of_cell? w _ hx845_2)).trans hx845_2; replace p845 := eq_true p845; replace q845 := eq_true q845; have p846 : 0 ≤ (a1 : Int) := of_decide_eq_true ‹_›; have q846 : a1 < (l0.length : Int) := of_decide_eq_true ‹_›; obtain ⟨ad846, e846, hx846_0, hx846_1, hx846_2⟩ := at_T30 HR0.out a1 p846 q846; obtain rfl : ad845 = ad846 := (by injection e846); replace hx846_0 := (HB.out.cell (World.block_lt_of_cell? w _ hx846_0)).trans hx846_0; replace hx846_1 := (HB.out.cell (World.block_lt_of_cell? w _ hx846_1)).trans hx846_1; replace hx846_2 := (HB.out.cell (World.block_lt_of_cell? w _ hx846_2)).trans hx846_2; replace p846 := eq_true p846; replace q846 := eq_true q846; have q13 : (a1 : Int) ≤ ((l0.length : Int) : Int) := of_decide_eq_true ‹_›; obtain ⟨i013, hi013, _, hsz13, _⟩ := info_parts info30; have hroom13 : l0.length ≤ c0 := HC0.out; have hC13 : Kd.C k30 _ (some ad845) l0.length l0 := HR0.out; have hcut13 := cut_to (P := Try.prog) 24 30 .i64 Try.underlying24 hi013 (some ad845) l0.length c0 a1 (of_decide_eq_true ‹_›) q13 hroom13; have hr13 := Kd.C_take (m := (a1 : Int).toNat) hC13 (by omega); have hy13 : y847.length = (a1 : Int).toNat := (by rw [Ny847.out, List.length_take]; omega); rw [← Ny847.out] at hr13; rw [← hy13] at hcut13; have HR850 := Aside0.mk hr13; have HC850 := Aside0.mk (show y847.length ≤ c0 from by omega); clear hr13 hC13 hroom13 hi013 hsz13; have KY13 := Aside0.mk hy13; clear hy13; replace q13 := eq_true q13) | ((with_reducible refine gate_callee (f := 63) rfl ?_); refine gl 32 Try.func63 #[.slice (some ad845) y847.length c0] ?_; (with_reducible refine (impl_Basin_63.calls _ _ y847 t851 _ ?side1 ?side2 A11.out).mono ?_); (case side1 => exact ck HR850 HB); (case side2 => exact HC850.out); rintro e w14 ⟨v852, rfl, ho0, hb⟩; refine ⟨_, rfl, ?_⟩; have HO853 := lo ho0 HB; replace HB := bs HB hb; (try clear hb); (try clear ho0)))
 try simp only [Act.put, List.setIfInBounds_toArray, List.set_cons_zero, List.set_cons_succ]
 go_loopg [8, 9, 10, 35] k (fun kq v8 v9 v10 v35 w' => ∃ (x8_1 : Int) (x9_1 : Int) (x10_1 : List (S30)) (x35_1 : Int), v8 = .int .i64 x8_1 ∧ v9 = .int .i64 x9_1 ∧ v35 = .int .i64 x35_1 ∧ Aside0 (impl_LeastSize.l0 kq l0 a1 x8_1 x9_1 x10_1 l2 (l2.length : Int) x35_1 = some (r1, r2)) ∧ Aside0 (kq ≤ k) ∧ Aside0 (Kd.R k30 30 w' w.heap.size (fun _ => True) v10 x10_1) ∧ Aside0 (Below w.heap.size w w'))
 case atStart => exact ⟨(ji8), ((rd_T30 l0 a1).f2), (t851), (0), (by first | rfl | (simp; done) | (simp only [← hji8] <;> (first | rfl | simp)) | (simp [*]; done)), (by first | rfl | (simp; done) | (simp [*]; done)), (by first | rfl | (simp; done) | (simp [*]; done)), H', ⟨Nat.le_refl _⟩, ⟨rk HO853⟩, ⟨bw HB⟩⟩
 case round =>
  clear H'
  (try clear c1); (try clear q1); (try clear c2); (try clear p2); (try clear c5); (try clear c6); (try clear c6b0); (try clear c7); (try clear c7b0); (try clear p8); (try clear q8); (try clear hx8); (try clear c9); (try clear c9b0); (try clear c10); (try clear c10b0); (try clear c10b1); (try clear q13); (try clear hx845_0); (try clear hx845_1); (try clear hx845_2); (try clear hx846_0); (try clear hx846_1); (try clear hx846_2); (try clear p845); (try clear p846); (try clear q13); (try clear q845); (try clear q846)
  obtain ⟨x8_1, x9_1, x10_1, x35_1, rfl, rfl, rfl, HA, HK1, HO_10, HB⟩ := hrel
  cases gk with
  | zero => exact absurd HA.out (by simp [impl_LeastSize.l0])
  | succ k1 =>
   have H := HA.out
   clear HA
   simp only [impl_LeastSize.l0] at H
   by_cases c15 : x35_1 < (l2.length : Int)
   rotate_left
   ·rw [if_neg c15] at H
    have c15b0 : decide (x35_1 < (l2.length : Int)) = false := decide_eq_false c15
    clear c15
    by_cases c25 : x8_1 > 1000
    rotate_left
    ·rw [if_neg c25] at H
     have c25b0 : decide (1000 < x8_1) = false := decide_eq_false c25
     clear c25
     simp only [Option.some.injEq, Prod.mk.injEq] at H
     obtain ⟨rfl, rfl⟩ := H
     go_wp2
     go_ret2
     exact ⟨by first | rfl | (simp [errW_none, errW_some] <;> rfl) | (simp only [← hji8]; first | rfl | (simp [errW_none, errW_some] <;> rfl)) | (simp [*, errW_none, errW_some] <;> rfl), bw HB⟩
    rw [if_pos c25] at H
    have c25b0 : decide (1000 < x8_1) = true := decide_eq_true c25
    clear c25
    simp only [Option.some.injEq, Prod.mk.injEq] at H
    obtain ⟨rfl, rfl⟩ := H
    go_wp2
    go_ret2
    exact ⟨by first | rfl | (simp [errW_none, errW_some] <;> rfl) | (simp only [← hji8]; first | rfl | (simp [errW_none, errW_some] <;> rfl)) | (simp [*, errW_none, errW_some] <;> rfl), bw HB⟩
   rw [if_pos c15] at H
   have c15b0 : decide (x35_1 < (l2.length : Int)) = true := decide_eq_true c15
   clear c15
   by_cases c16 : 0 ≤ x35_1
   rotate_left
   ·rw [if_neg c16] at H
    exact absurd H (by simp)
   rw [if_pos c16] at H
   have c16b0 : decide (0 ≤ x35_1) = true := decide_eq_true c16
   clear c16
   by_cases c17 : x35_1 < (l2.length : Int)
   rotate_left
   ·rw [if_neg c17] at H
    exact absurd H (by simp)
   rw [if_pos c17] at H
   have c17b0 : decide (x35_1 < (l2.length : Int)) = true := decide_eq_true c17
   clear c17
   replace H := Option.bind_eq_some_iff.mp H
   obtain ⟨⟨t855, t856, t857⟩, A180, H⟩ := H
   (try dsimp only at H)
   have A18 := Aside0.mk A180
   clear A180
   obtain ⟨ji19, hji19⟩ : ∃ j_ : Int, (mx x8_1 (wrap64 (x9_1 + t857))) = j_ := ⟨_, rfl⟩
   replace H : (if 0 ≤ a1 then (if a1 < (l0.length : Int) then (impl_LeastSize.l0 k1 l0 a1 ji19 (mx 0 (wrap64 ((wrap64 (x9_1 + t857)) - ((rd_T30 l0 a1).f1)))) t855 l2 (l2.length : Int) (wrap64 (x35_1 + 1))) else (none)) else (none)) = some (r1, r2) := by first | (rw [hji19] at H; exact H) | (simp only [hji19] at H ⊢; exact H)
   (try rw [hji19] at A18)
   have hji19_ : (if x8_1 < (wrap64 (x9_1 + t857)) then (wrap64 (x9_1 + t857)) else x8_1) = ji19 := hji19
   by_cases c20 : 0 ≤ a1
   rotate_left
   ·rw [if_neg c20] at H
    exact absurd H (by simp)
   rw [if_pos c20] at H
   have c20b0 : decide (0 ≤ a1) = true := decide_eq_true c20
   clear c20
   by_cases c21 : a1 < (l0.length : Int)
   rotate_left
   ·rw [if_neg c21] at H
    exact absurd H (by simp)
   rw [if_pos c21] at H
   have c21b0 : decide (a1 < (l0.length : Int)) = true := decide_eq_true c21
   clear c21
   obtain ⟨ji22, hji22⟩ : ∃ j_ : Int, (mx 0 (wrap64 ((wrap64 (x9_1 + t857)) - ((rd_T30 l0 a1).f1)))) = j_ := ⟨_, rfl⟩
   replace H : (impl_LeastSize.l0 k1 l0 a1 ji19 ji22 t855 l2 (l2.length : Int) (wrap64 (x35_1 + 1))) = some (r1, r2) := by first | (rw [hji22] at H; exact H) | (simp only [hji22] at H ⊢; exact H)
   (try rw [hji22] at A18)
   have hji22_ : (if 0 < (wrap64 ((wrap64 (x9_1 + t857)) - ((rd_T30 l0 a1).f1))) then (wrap64 ((wrap64 (x9_1 + t857)) - ((rd_T30 l0 a1).f1))) else 0) = ji22 := hji22
   have H' := Aside0.mk H
   clear H
   have p854 : 0 ≤ (x35_1 : Int) := of_decide_eq_true ‹_›
   have q854 : x35_1 < (l2.length : Int) := of_decide_eq_true ‹_›
   obtain ⟨ad854, e854, hx854_0⟩ := Kd.at_int HR2.out x35_1 p854 q854
   cases e854
   (first | replace hx854_0 := (HB.out.cell (World.block_lt_of_cell? w _ hx854_0)).trans hx854_0 | skip)
   replace p854 := eq_true p854
   replace q854 := eq_true q854
   obtain ⟨Ao23, co23, eo23⟩ := Kd.R_slice HO_10.out
   subst eo23
   go_wp2_with (first | ((with_reducible refine gate_callee (f := 50) rfl ?_); refine gl 42 Try.func50 #[.slice Ao23 x10_1.length co23, .int .i64 (rd l2 x35_1)] ?_; (with_reducible refine (impl_tickRow.calls k1 _ _ x10_1 (rd l2 x35_1) t855 t856 t857 _ ?side1 ?side2 A18.out).mono ?_); (case side1 => exact cr HO_10); (case side2 => exact (Kd.R_reads' HO_10.out).2.1); rintro e w24 ⟨v858, v860, rfl, ho0, ho1, hb⟩; refine ⟨_, rfl, ?_⟩; have HO859 := Aside0.mk (Kd.R_lower (Kd.R_new' ho0 (Kd.R_lt (rk HO_10))) (below_size (bw HB))); replace HO_10 := Aside0.mk (Kd.R_elder' (rk HO_10) (Kd.R_base ho0) hb); have HO861 := lo ho1 HB; replace HB := bs HB hb; (try clear hb); (try clear ho0); (try clear ho1); have p862 : 0 ≤ (a1 : Int) := of_decide_eq_true ‹_›; have q862 : a1 < (l0.length : Int) := of_decide_eq_true ‹_›; obtain ⟨ad862, e862, hx862_0, hx862_1, hx862_2⟩ := at_T30 HR0.out a1 p862 q862; obtain rfl : ad845 = ad862 := (by injection e862); replace hx862_0 := (HB.out.cell (World.block_lt_of_cell? w _ hx862_0)).trans hx862_0; replace hx862_1 := (HB.out.cell (World.block_lt_of_cell? w _ hx862_1)).trans hx862_1; replace hx862_2 := (HB.out.cell (World.block_lt_of_cell? w _ hx862_2)).trans hx862_2; replace p862 := eq_true p862; replace q862 := eq_true q862))
   go_roundg k1
   case measure => have := HK1.out; omega
   case rel => exact ⟨(ji19), (ji22), (t855), (wrap64 (x35_1 + 1)), (by first | rfl | (simp; done) | (simp only [← hji19] <;> (first | rfl | simp)) | (simp [*]; done)), (by first | rfl | (simp; done) | (simp only [← hji22] <;> (first | rfl | simp)) | (simp [*]; done)), (by first | rfl | (simp; done) | (simp [*]; done)), H', ⟨by have := HK1.out; omega⟩, ⟨by exact Kd.R_mono HO859.out (fun _ hk => trivial)⟩, ⟨bw HB⟩⟩
end Go.Proofs.Ytflbcikfphfkdaa.R
