-- Functions of the program as plain functions, and that the calls come to them. Written by a program (ownprint.py); nothing here is trusted: Lean checks it.
import Derived.Test.YtigpkicbigpilaaUx0
import Derived.Test.YtigpkicbigpilaaUx2
namespace Go.Proofs.Ytigpkicbigpilaa.U
open Go.RowKit Go.Proofs.YtigpkicbigpilaaW.PrintWords Go.Proofs.YtigpkicbigpilaaW.PrintLast Go.Proofs.YtigpkicbigpilaaW.PrintMore Go.Proofs.Ytigpkicbigpilaa.Sq
attribute [local go_sem] max2_int min2_int max_two min_two max_three min_three max_four min_four   -- for this text's walks alone
set_option linter.unusedVariables false
set_option linter.unusedSimpArgs false

/-! ### spec_veOn: function 50 -/
mutual
def spec_veOn.l0 : Nat → Bool → List (S49) → Int → List Int → List Int → Option ((List (S49)))
 | 0, _, _, _, _, _ => none
 | k + 1, x1, x5, x6, x151000, x151001 => if x6 < (x151000.length : Int) then (spec_veOn.l1 k x1 x5 x6 (-1) x151000 x151001) else (some x5)
def spec_veOn.l1 : Nat → Bool → List (S49) → Int → Int → List Int → List Int → Option ((List (S49)))
 | 0, _, _, _, _, _, _ => none
 | k + 1, x1, x5, x6, x7, x151000, x151001 => if x7 < (x151000.length : Int) then ((spec_veMove.f (x151000.length : Int) x6 x7).bind fun t152 => (if t152 = true then (if x1 = true then (if x6 < 0 then (spec_veOn.l1 k x1 x5 x6 (wrap64 (x7 + 1)) x151000 x151001) else (if x7 < 0 then (spec_veOn.l1 k x1 x5 x6 (wrap64 (x7 + 1)) x151000 x151001) else ((spec_veAmount.f x151000 x151001 x6 x7).bind fun t153 => (if t153 = 0 then (spec_veOn.l1 k x1 x5 x6 (wrap64 (x7 + 1)) x151000 x151001) else (if x5.length < 8796093022208 then (spec_veOn.l1 k x1 (x5 ++ [(⟨x6, x7⟩ : S49)]) x6 (wrap64 (x7 + 1)) x151000 x151001) else (none)))))) else ((spec_veAmount.f x151000 x151001 x6 x7).bind fun t157 => (if t157 = 0 then (spec_veOn.l1 k x1 x5 x6 (wrap64 (x7 + 1)) x151000 x151001) else (if x5.length < 8796093022208 then (spec_veOn.l1 k x1 (x5 ++ [(⟨x6, x7⟩ : S49)]) x6 (wrap64 (x7 + 1)) x151000 x151001) else (none))))) else (spec_veOn.l1 k x1 x5 x6 (wrap64 (x7 + 1)) x151000 x151001))) else (spec_veOn.l0 k x1 x5 (wrap64 (x6 + 1)) x151000 x151001)
end
def spec_veOn.f (k : Nat) (l0_0 : List Int) (l0_1 : List Int) (a1 : Bool) : Option ((List (S49))) := spec_veOn.l0 k a1 ([] : List (S49)) (-1) l0_0 l0_1
theorem spec_veOn.mono_l : ∀ k, (∀ y0 y1 y2 y3 y4, LeO (spec_veOn.l0 k y0 y1 y2 y3 y4) (spec_veOn.l0 (k + 1) y0 y1 y2 y3 y4)) ∧ (∀ y0 y1 y2 y3 y4 y5, LeO (spec_veOn.l1 k y0 y1 y2 y3 y4 y5) (spec_veOn.l1 (k + 1) y0 y1 y2 y3 y4 y5))
 | 0 => ⟨fun _ _ _ _ _ r h => by simp [spec_veOn.l0] at h, fun _ _ _ _ _ _ r h => by simp [spec_veOn.l1] at h⟩
 | k + 1 => by
  obtain ⟨ih0, ih1⟩ := spec_veOn.mono_l k
  refine ⟨?_, ?_⟩
  ·intro y0 y1 y2 y3 y4
   unfold spec_veOn.l0
   repeat' first
   | (with_reducible exact ih0 _ _ _ _ _)
   | (with_reducible exact ih1 _ _ _ _ _ _)
   | (with_reducible exact LeO.refl _)
   | (with_reducible exact LeO.none _)
   | (with_reducible refine LeO.ite ?_ ?_)
   | (with_reducible refine LeO.bind ?_ (fun _ => ?_))
   | exact ih0 _ _ _ _ _
   | exact ih1 _ _ _ _ _ _
   | exact LeO.none _
   | refine LeO.ite ?_ ?_
   | refine LeO.bind ?_ (fun _ => ?_)
  ·intro y0 y1 y2 y3 y4 y5
   unfold spec_veOn.l1
   repeat' first
   | (with_reducible exact ih0 _ _ _ _ _)
   | (with_reducible exact ih1 _ _ _ _ _ _)
   | (with_reducible exact LeO.refl _)
   | (with_reducible exact LeO.none _)
   | (with_reducible refine LeO.ite ?_ ?_)
   | (with_reducible refine LeO.bind ?_ (fun _ => ?_))
   | exact ih0 _ _ _ _ _
   | exact ih1 _ _ _ _ _ _
   | exact LeO.none _
   | refine LeO.ite ?_ ?_
   | refine LeO.bind ?_ (fun _ => ?_)
theorem spec_veOn.mono : ∀ a0 a1 a2 k, LeO (spec_veOn.f k a0 a1 a2) (spec_veOn.f (k + 1) a0 a1 a2) := by
 intro a0 a1 a2 k
 obtain ⟨ih0, ih1⟩ := spec_veOn.mono_l k
 unfold spec_veOn.f
 repeat' first
   | (with_reducible exact ih0 _ _ _ _ _)
   | (with_reducible exact ih1 _ _ _ _ _ _)
   | (with_reducible exact LeO.refl _)
   | (with_reducible exact LeO.none _)
   | (with_reducible refine LeO.ite ?_ ?_)
   | (with_reducible refine LeO.bind ?_ (fun _ => ?_))
   | exact ih0 _ _ _ _ _
   | exact ih1 _ _ _ _ _ _
   | exact LeO.none _
   | refine LeO.ite ?_ ?_
   | refine LeO.bind ?_ (fun _ => ?_)
set_option maxHeartbeats 8000000 in
set_option maxRecDepth 100000 in
theorem spec_veOn.calls (k : Nat) (A0_0 : Option Addr) (c0_0 : Nat) (l0_0 : List Int) (A0_1 : Option Addr) (c0_1 : Nat) (l0_1 : List Int) (a1 : Bool) (r : List (S49)) (w : World) (hr0_0 : Kd.C (Kd.int .i64) w A0_0 l0_0.length l0_0) (hc0_0 : l0_0.length ≤ c0_0) (hr0_1 : Kd.C (Kd.int .i64) w A0_1 l0_1.length l0_1) (hc0_1 : l0_1.length ≤ c0_1) (h : spec_veOn.f k l0_0 l0_1 a1 = some r) :
  Calls Try.prog 50 #[.agg #[.slice A0_0 l0_0.length c0_0, .slice A0_1 l0_1.length c0_1], .bool a1] w fun e w' => ∃ v0_ : Value, e = .returned (v0_) ∧ Kd.R k49 49 w' w.heap.size (fun _ => True) v0_ r ∧ Below w.heap.size w w' := by
 have hu29 := Try.underlying29
 have hu49 := Try.underlying49
 have HR0_0 := Aside0.mk hr0_0
 have HC0_0 := Aside0.mk hc0_0
 clear hr0_0 hc0_0
 have HR0_1 := Aside0.mk hr0_1
 have HC0_1 := Aside0.mk hc0_1
 clear hr0_1 hc0_1
 have HB := Aside0.mk (Below.refl w.heap.size w)
 have H : (spec_veOn.l0 k a1 ([] : List (S49)) (-1) l0_0 l0_1) = some r := h
 clear h
 have H' := Aside0.mk H
 clear H
 go_enter Try.func50, Try.ntmps50
 go_wp2_with (first | ((with_reducible refine gate_dst (N := 2) rfl ?_); refine bx 2 #[.slice A0_0 l0_0.length c0_0, .slice A0_1 l0_1.length c0_1] 29 ?_; intro gb150 hg w3 hbox hb; have BK150 := Aside0.mk (hbox); have GW150 := ge HB hg; have GE150 := ge HB hg; replace HB := bs HB hb; clear hb hbox hg))
 try simp only [Act.put, List.setIfInBounds_toArray, List.set_cons_zero, List.set_cons_succ]
 go_loopg [5, 6] k (fun kq v5 v6 w' => ∃ (x5_1 : List (S49)) (x6_1 : Int), v6 = .int .i64 x6_1 ∧ Aside0 (spec_veOn.l0 kq a1 x5_1 x6_1 l0_0 l0_1 = some r) ∧ Aside0 (kq ≤ k) ∧ Aside0 (Kd.R k49 49 w' w.heap.size (fun _ => True) v5 x5_1) ∧ Aside0 (w'.heap[gb150]? = some (.cells #[(.slice A0_0 l0_0.length c0_0), (.slice A0_1 l0_1.length c0_1)] 29 (0, 0))) ∧ Aside0 (Below w.heap.size w w'))
 case atStart => exact ⟨(([] : List (S49))), ((-1)), (by first | rfl | (simp; done) | (simp [*]; done)), H', ⟨Nat.le_refl _⟩, ⟨by first | exact Kd.R_nil _ _ _ _ _ | exact Kd.N_nil _ _ _ _ _ | exact Kd.V_nil _ _ _ _ _ | exact Kd.Q_nil _ _ _ _ _ | exact Kd.S_nil _ _ _ _ _⟩, ⟨bk BK150⟩, ⟨bw HB⟩⟩
 case round =>
  clear H'
  try clear p2
  obtain ⟨x5_1, x6_1, rfl, HA, HK1, HO_5, BK150, HB⟩ := hrel
  cases gk with
  | zero => exact absurd HA.out (by simp [spec_veOn.l0])
  | succ k1 =>
   have H := HA.out
   clear HA
   simp only [spec_veOn.l0] at H
   by_cases c4 : x6_1 < (l0_0.length : Int)
   ·rw [if_pos c4] at H
    have c4b0 : decide (x6_1 < (l0_0.length : Int)) = true := decide_eq_true c4
    clear c4
    have H' := Aside0.mk H
    clear H
    have hcz5_0 := bc0 BK150
    have hcz5_1 := bc1 BK150
    have hfz5_0 := blk_frozen BK150.out 0
    have hfz5_1 := blk_frozen BK150.out 1
    go_wp2
    try simp only [Act.put, List.setIfInBounds_toArray, List.set_cons_zero, List.set_cons_succ]
    go_loopg [5, 7] k1 (fun kq v5 v7 w' => ∃ (x5_2 : List (S49)) (x7_2 : Int), v7 = .int .i64 x7_2 ∧ Aside0 (spec_veOn.l1 kq a1 x5_2 x6_1 x7_2 l0_0 l0_1 = some r) ∧ Aside0 (kq ≤ k1) ∧ Aside0 (Kd.R k49 49 w' w.heap.size (fun _ => True) v5 x5_2) ∧ Aside0 (w'.heap[gb150]? = some (.cells #[(.slice A0_0 l0_0.length c0_0), (.slice A0_1 l0_1.length c0_1)] 29 (0, 0))) ∧ Aside0 (Below w.heap.size w w'))
    case atStart => exact ⟨(x5_1), ((-1)), (by first | rfl | (simp; done) | (simp [*]; done)), H', ⟨Nat.le_refl _⟩, ⟨rk HO_5⟩, ⟨bk BK150⟩, ⟨bw HB⟩⟩
    case round =>
     clear H'
     try clear p2
     try clear c4
     try clear c4b0
     try clear c5
     try clear hcz5_0
     try clear hcz5_1
     try clear hfz5_0
     try clear hfz5_1
     try clear p2
     obtain ⟨x5_2, x7_2, rfl, HA, HK2, HO_5, BK150, HB⟩ := hrel
     cases gk with
     | zero => exact absurd HA.out (by simp [spec_veOn.l1])
     | succ k2 =>
      have H := HA.out
      clear HA
      simp only [spec_veOn.l1] at H
      by_cases c6 : x7_2 < (l0_0.length : Int)
      ·rw [if_pos c6] at H
       have c6b0 : decide (x7_2 < (l0_0.length : Int)) = true := decide_eq_true c6
       clear c6
       replace H := Option.bind_eq_some_iff.mp H
       obtain ⟨t152, A70, H⟩ := H
       replace H : (if t152 = true then (if a1 = true then (if x6_1 < 0 then (spec_veOn.l1 k2 a1 x5_2 x6_1 (wrap64 (x7_2 + 1)) l0_0 l0_1) else (if x7_2 < 0 then (spec_veOn.l1 k2 a1 x5_2 x6_1 (wrap64 (x7_2 + 1)) l0_0 l0_1) else ((spec_veAmount.f l0_0 l0_1 x6_1 x7_2).bind fun t153 => (if t153 = 0 then (spec_veOn.l1 k2 a1 x5_2 x6_1 (wrap64 (x7_2 + 1)) l0_0 l0_1) else (if x5_2.length < 8796093022208 then (spec_veOn.l1 k2 a1 (x5_2 ++ [(⟨x6_1, x7_2⟩ : S49)]) x6_1 (wrap64 (x7_2 + 1)) l0_0 l0_1) else (none)))))) else ((spec_veAmount.f l0_0 l0_1 x6_1 x7_2).bind fun t157 => (if t157 = 0 then (spec_veOn.l1 k2 a1 x5_2 x6_1 (wrap64 (x7_2 + 1)) l0_0 l0_1) else (if x5_2.length < 8796093022208 then (spec_veOn.l1 k2 a1 (x5_2 ++ [(⟨x6_1, x7_2⟩ : S49)]) x6_1 (wrap64 (x7_2 + 1)) l0_0 l0_1) else (none))))) else (spec_veOn.l1 k2 a1 x5_2 x6_1 (wrap64 (x7_2 + 1)) l0_0 l0_1)) = some r := H
       have A7 := Aside0.mk A70
       clear A70
       by_cases c8 : t152 = true
       ·subst c8
        have H1 : (if a1 = true then (if x6_1 < 0 then (spec_veOn.l1 k2 a1 x5_2 x6_1 (wrap64 (x7_2 + 1)) l0_0 l0_1) else (if x7_2 < 0 then (spec_veOn.l1 k2 a1 x5_2 x6_1 (wrap64 (x7_2 + 1)) l0_0 l0_1) else ((spec_veAmount.f l0_0 l0_1 x6_1 x7_2).bind fun t153 => (if t153 = 0 then (spec_veOn.l1 k2 a1 x5_2 x6_1 (wrap64 (x7_2 + 1)) l0_0 l0_1) else (if x5_2.length < 8796093022208 then (spec_veOn.l1 k2 a1 (x5_2 ++ [(⟨x6_1, x7_2⟩ : S49)]) x6_1 (wrap64 (x7_2 + 1)) l0_0 l0_1) else (none)))))) else ((spec_veAmount.f l0_0 l0_1 x6_1 x7_2).bind fun t157 => (if t157 = 0 then (spec_veOn.l1 k2 a1 x5_2 x6_1 (wrap64 (x7_2 + 1)) l0_0 l0_1) else (if x5_2.length < 8796093022208 then (spec_veOn.l1 k2 a1 (x5_2 ++ [(⟨x6_1, x7_2⟩ : S49)]) x6_1 (wrap64 (x7_2 + 1)) l0_0 l0_1) else (none))))) = some r := by rw [if_pos rfl] at H; exact H
        clear H
        have H := H1
        clear H1
        by_cases c9 : a1 = true
        ·subst c9
         have H1 : (if x6_1 < 0 then (spec_veOn.l1 k2 true x5_2 x6_1 (wrap64 (x7_2 + 1)) l0_0 l0_1) else (if x7_2 < 0 then (spec_veOn.l1 k2 true x5_2 x6_1 (wrap64 (x7_2 + 1)) l0_0 l0_1) else ((spec_veAmount.f l0_0 l0_1 x6_1 x7_2).bind fun t153 => (if t153 = 0 then (spec_veOn.l1 k2 true x5_2 x6_1 (wrap64 (x7_2 + 1)) l0_0 l0_1) else (if x5_2.length < 8796093022208 then (spec_veOn.l1 k2 true (x5_2 ++ [(⟨x6_1, x7_2⟩ : S49)]) x6_1 (wrap64 (x7_2 + 1)) l0_0 l0_1) else (none)))))) = some r := by rw [if_pos rfl] at H; exact H
         clear H
         have H := H1
         clear H1
         by_cases c10 : x6_1 < 0
         ·rw [if_pos c10] at H
          have c10b0 : decide (x6_1 < 0) = true := decide_eq_true c10
          clear c10
          have H' := Aside0.mk H
          clear H
          have hcz11_0 := bc0 BK150
          have hcz11_1 := bc1 BK150
          have hfz11_0 := blk_frozen BK150.out 0
          have hfz11_1 := blk_frozen BK150.out 1
          go_wp2_with (first | ((with_reducible refine gate_dst (N := 8) rfl ?_); refine bx 8 #[.int .i64 0, .int .i64 0] 49 ?_; intro gb151 hg w12 hbox hb; replace HO_5 := Aside0.mk (Kd.R_below (Kd.R_elderB (rk HO_5) gb151 (Nat.le_of_eq hg.symm)) hb); have BK151 := Aside0.mk (hbox); have GW151 := ge HB hg; have GE151 := ge HB hg; replace HB := bs HB hb; have NB150_151 := nl BK150 hg; have NB151_150 := nr BK150 hg; replace BK150 := bb BK150 hb; clear hb hbox hg; have hnb13 := NB151_150.out; have hnc13 := NB150_151.out; have hcz14_0 := bc0 BK151; have hcz14_1 := bc1 BK151; have hfz14_0 := blk_frozen BK151.out 0; have hfz14_1 := blk_frozen BK151.out 1; have hcz15_0 := bc0 BK150; have hcz15_1 := bc1 BK150; have hfz15_0 := blk_frozen BK150.out 0; have hfz15_1 := blk_frozen BK150.out 1) | ((with_reducible refine gate_callee (f := 77) rfl ?_); refine gl 30 Try.func77 #[.int .i64 (l0_0.length : Int), .agg #[.int .i64 x6_1, .int .i64 x7_2]] ?_; (with_reducible refine (spec_veMove.calls (l0_0.length : Int) x6_1 x7_2 true _ A7.out).mono ?_); rintro e w16 ⟨rfl, hb⟩; refine ⟨_, rfl, ?_⟩; replace HO_5 := Aside0.mk (Kd.R_below (by (with_reducible repeat (first | apply Kd.R_alloc | apply Kd.R_drewN | apply Kd.R_drew)); exact (Kd.R_mono (Kd.R_far (p := ⟨gb151, 1, none⟩) (Kd.R_far (p := ⟨gb151, 0, none⟩) (Kd.R_mono HO_5.out (fun k_ hk => (⟨hk, hk.2⟩ : _ ∧ k_ ≠ gb151))) (fun _ hk => hk.2) (.int .i64 x6_1)) (fun _ hk => hk.2) (.int .i64 x7_2)) (fun _ h_ => h_.1))) hb); replace BK150 := bb BK150 hb; replace BK151 := Aside0.mk (blk_below (g := gb151) (o := .cells #[.int .i64 x6_1, .int .i64 x7_2] 49 (0, 0)) (by (with_reducible repeat (first | refine blk_drewN ?_ _ | refine blk_drew ?_ | refine blk_alloc ?_ _)); refine blk_put (cs := #[.int .i64 x6_1, .int .i64 0]) ?_ 1 _ rfl; (with_reducible repeat (first | refine blk_drewN ?_ _ | refine blk_drew ?_ | refine blk_alloc ?_ _)); refine blk_put (cs := #[.int .i64 0, .int .i64 0]) ?_ 0 _ rfl; exact bk BK151) hb); replace HB := bs HB hb; (try clear hb)))
          go_roundg k2
          case measure => have := HK1.out; have := HK2.out; omega
          case rel => exact ⟨(x5_2), (wrap64 (x7_2 + 1)), (by first | rfl | (simp; done) | (simp [*]; done)), H', ⟨by have := HK1.out; have := HK2.out; omega⟩, ⟨by (with_reducible repeat (first | apply Kd.R_alloc | apply Kd.R_drewN | apply Kd.R_drew)); exact Kd.R_mono HO_5.out (fun _ hk => trivial)⟩, ⟨bk BK150⟩, ⟨bw HB⟩⟩
         ·rw [if_neg c10] at H
          have c10b0 : decide (x6_1 < 0) = false := decide_eq_false c10
          clear c10
          by_cases c17 : x7_2 < 0
          ·rw [if_pos c17] at H
           have c17b0 : decide (x7_2 < 0) = true := decide_eq_true c17
           clear c17
           have H' := Aside0.mk H
           clear H
           have hcz18_0 := bc0 BK150
           have hcz18_1 := bc1 BK150
           have hfz18_0 := blk_frozen BK150.out 0
           have hfz18_1 := blk_frozen BK150.out 1
           go_wp2_with (first | ((with_reducible refine gate_dst (N := 8) rfl ?_); refine bx 8 #[.int .i64 0, .int .i64 0] 49 ?_; intro gb151 hg w19 hbox hb; replace HO_5 := Aside0.mk (Kd.R_below (Kd.R_elderB (rk HO_5) gb151 (Nat.le_of_eq hg.symm)) hb); have BK151 := Aside0.mk (hbox); have GW151 := ge HB hg; have GE151 := ge HB hg; replace HB := bs HB hb; have NB150_151 := nl BK150 hg; have NB151_150 := nr BK150 hg; replace BK150 := bb BK150 hb; clear hb hbox hg; have hnb20 := NB151_150.out; have hnc20 := NB150_151.out; have hcz21_0 := bc0 BK151; have hcz21_1 := bc1 BK151; have hfz21_0 := blk_frozen BK151.out 0; have hfz21_1 := blk_frozen BK151.out 1; have hcz22_0 := bc0 BK150; have hcz22_1 := bc1 BK150; have hfz22_0 := blk_frozen BK150.out 0; have hfz22_1 := blk_frozen BK150.out 1) | ((with_reducible refine gate_callee (f := 77) rfl ?_); refine gl 30 Try.func77 #[.int .i64 (l0_0.length : Int), .agg #[.int .i64 x6_1, .int .i64 x7_2]] ?_; (with_reducible refine (spec_veMove.calls (l0_0.length : Int) x6_1 x7_2 true _ A7.out).mono ?_); rintro e w23 ⟨rfl, hb⟩; refine ⟨_, rfl, ?_⟩; replace HO_5 := Aside0.mk (Kd.R_below (by (with_reducible repeat (first | apply Kd.R_alloc | apply Kd.R_drewN | apply Kd.R_drew)); exact (Kd.R_mono (Kd.R_far (p := ⟨gb151, 1, none⟩) (Kd.R_far (p := ⟨gb151, 0, none⟩) (Kd.R_mono HO_5.out (fun k_ hk => (⟨hk, hk.2⟩ : _ ∧ k_ ≠ gb151))) (fun _ hk => hk.2) (.int .i64 x6_1)) (fun _ hk => hk.2) (.int .i64 x7_2)) (fun _ h_ => h_.1))) hb); replace BK150 := bb BK150 hb; replace BK151 := Aside0.mk (blk_below (g := gb151) (o := .cells #[.int .i64 x6_1, .int .i64 x7_2] 49 (0, 0)) (by (with_reducible repeat (first | refine blk_drewN ?_ _ | refine blk_drew ?_ | refine blk_alloc ?_ _)); refine blk_put (cs := #[.int .i64 x6_1, .int .i64 0]) ?_ 1 _ rfl; (with_reducible repeat (first | refine blk_drewN ?_ _ | refine blk_drew ?_ | refine blk_alloc ?_ _)); refine blk_put (cs := #[.int .i64 0, .int .i64 0]) ?_ 0 _ rfl; exact bk BK151) hb); replace HB := bs HB hb; (try clear hb)))
           go_roundg k2
           case measure => have := HK1.out; have := HK2.out; omega
           case rel => exact ⟨(x5_2), (wrap64 (x7_2 + 1)), (by first | rfl | (simp; done) | (simp [*]; done)), H', ⟨by have := HK1.out; have := HK2.out; omega⟩, ⟨by (with_reducible repeat (first | apply Kd.R_alloc | apply Kd.R_drewN | apply Kd.R_drew)); exact Kd.R_mono HO_5.out (fun _ hk => trivial)⟩, ⟨bk BK150⟩, ⟨bw HB⟩⟩
          ·rw [if_neg c17] at H
           have c17b0 : decide (x7_2 < 0) = false := decide_eq_false c17
           clear c17
           replace H := Option.bind_eq_some_iff.mp H
           obtain ⟨t153, A240, H⟩ := H
           replace H : (if t153 = 0 then (spec_veOn.l1 k2 true x5_2 x6_1 (wrap64 (x7_2 + 1)) l0_0 l0_1) else (if x5_2.length < 8796093022208 then (spec_veOn.l1 k2 true (x5_2 ++ [(⟨x6_1, x7_2⟩ : S49)]) x6_1 (wrap64 (x7_2 + 1)) l0_0 l0_1) else (none))) = some r := H
           have A24 := Aside0.mk A240
           clear A240
           by_cases c25 : t153 = 0
           ·rw [if_pos c25] at H
            have c25b0 : (t153 == 0) = true := beq_iff_eq.mpr c25
            have c25b1 : (t153 != 0) = false := bne_eq_false_iff_eq.mpr c25
            clear c25
            have H' := Aside0.mk H
            clear H
            have hcz26_0 := bc0 BK150
            have hcz26_1 := bc1 BK150
            have hfz26_0 := blk_frozen BK150.out 0
            have hfz26_1 := blk_frozen BK150.out 1
            go_wp2_with (first | ((with_reducible refine gate_dst (N := 8) rfl ?_); refine bx 8 #[.int .i64 0, .int .i64 0] 49 ?_; intro gb151 hg w27 hbox hb; replace HO_5 := Aside0.mk (Kd.R_below (Kd.R_elderB (rk HO_5) gb151 (Nat.le_of_eq hg.symm)) hb); have BK151 := Aside0.mk (hbox); have GW151 := ge HB hg; have GE151 := ge HB hg; replace HB := bs HB hb; have NB150_151 := nl BK150 hg; have NB151_150 := nr BK150 hg; replace BK150 := bb BK150 hb; clear hb hbox hg; have hnb28 := NB151_150.out; have hnc28 := NB150_151.out; have hcz29_0 := bc0 BK151; have hcz29_1 := bc1 BK151; have hfz29_0 := blk_frozen BK151.out 0; have hfz29_1 := blk_frozen BK151.out 1; have hcz30_0 := bc0 BK150; have hcz30_1 := bc1 BK150; have hfz30_0 := blk_frozen BK150.out 0; have hfz30_1 := blk_frozen BK150.out 1) | ((with_reducible refine gate_callee (f := 77) rfl ?_); refine gl 30 Try.func77 #[.int .i64 (l0_0.length : Int), .agg #[.int .i64 x6_1, .int .i64 x7_2]] ?_; (with_reducible refine (spec_veMove.calls (l0_0.length : Int) x6_1 x7_2 true _ A7.out).mono ?_); rintro e w31 ⟨rfl, hb⟩; refine ⟨_, rfl, ?_⟩; replace HO_5 := Aside0.mk (Kd.R_below (by (with_reducible repeat (first | apply Kd.R_alloc | apply Kd.R_drewN | apply Kd.R_drew)); exact (Kd.R_mono (Kd.R_far (p := ⟨gb151, 1, none⟩) (Kd.R_far (p := ⟨gb151, 0, none⟩) (Kd.R_mono HO_5.out (fun k_ hk => (⟨hk, hk.2⟩ : _ ∧ k_ ≠ gb151))) (fun _ hk => hk.2) (.int .i64 x6_1)) (fun _ hk => hk.2) (.int .i64 x7_2)) (fun _ h_ => h_.1))) hb); replace BK150 := bb BK150 hb; replace BK151 := Aside0.mk (blk_below (g := gb151) (o := .cells #[.int .i64 x6_1, .int .i64 x7_2] 49 (0, 0)) (by (with_reducible repeat (first | refine blk_drewN ?_ _ | refine blk_drew ?_ | refine blk_alloc ?_ _)); refine blk_put (cs := #[.int .i64 x6_1, .int .i64 0]) ?_ 1 _ rfl; (with_reducible repeat (first | refine blk_drewN ?_ _ | refine blk_drew ?_ | refine blk_alloc ?_ _)); refine blk_put (cs := #[.int .i64 0, .int .i64 0]) ?_ 0 _ rfl; exact bk BK151) hb); replace HB := bs HB hb; (try clear hb); have hcz32_0 := bc0 BK150; have hcz32_1 := bc1 BK150; have hfz32_0 := blk_frozen BK150.out 0; have hfz32_1 := blk_frozen BK150.out 1; have hcz33_0 := bc0 BK151; have hcz33_1 := bc1 BK151; have hfz33_0 := blk_frozen BK151.out 0; have hfz33_1 := blk_frozen BK151.out 1) | (go_at_call 78; (with_reducible refine (spec_veAmount.calls _ _ l0_0 _ _ l0_1 x6_1 x7_2 t153 _ ?side1 ?side2 ?side3 ?side4 A24.out).mono ?_); (case side1 => exact ck HR0_0 HB); (case side2 => exact HC0_0.out); (case side3 => exact ck HR0_1 HB); (case side4 => exact HC0_1.out); rintro e w34 ⟨rfl, hb⟩; replace HO_5 := rb HO_5 hb; replace BK150 := bb BK150 hb; replace BK151 := bb BK151 hb; replace HB := bs HB hb; (try clear hb)))
            go_roundg k2
            case measure => have := HK1.out; have := HK2.out; omega
            case rel => exact ⟨(x5_2), (wrap64 (x7_2 + 1)), (by first | rfl | (simp; done) | (simp [*]; done)), H', ⟨by have := HK1.out; have := HK2.out; omega⟩, ⟨by (with_reducible repeat (first | apply Kd.R_alloc | apply Kd.R_drewN | apply Kd.R_drew)); exact Kd.R_mono HO_5.out (fun _ hk => trivial)⟩, ⟨bk BK150⟩, ⟨bw HB⟩⟩
           ·rw [if_neg c25] at H
            have c25b0 : (t153 == 0) = false := beq_eq_false_iff_ne.mpr c25
            have c25b1 : (t153 != 0) = true := bne_iff_ne.mpr c25
            by_cases c35 : x5_2.length < 8796093022208
            ·rw [if_pos c35] at H
             have LMc35 := Aside0.mk c35
             clear c35
             obtain ⟨y154, hy154⟩ : ∃ y_ : List (S49), y_ = (x5_2 ++ [(⟨x6_1, x7_2⟩ : S49)]) := ⟨_, rfl⟩
             replace H : (spec_veOn.l1 k2 true y154 x6_1 (wrap64 (x7_2 + 1)) l0_0 l0_1) = some r := by first | (rw [hy154]; with_reducible exact H) | (have H2_ := (Option.bind_some _ _).symm.trans H; rw [hy154]; with_reducible exact H2_) | (have H2_ := (Option.bind_some _ _).symm.trans H; with_reducible exact H2_) | with_reducible exact H | (rw [hy154]; exact H) | exact H
             have Ny154 := Aside0.mk hy154
             clear hy154
             have H' := Aside0.mk H
             clear H
             have hcz36_0 := bc0 BK150
             have hcz36_1 := bc1 BK150
             have hfz36_0 := blk_frozen BK150.out 0
             have hfz36_1 := blk_frozen BK150.out 1
             go_wp2_with (first | ((with_reducible refine gate_dst (N := 8) rfl ?_); refine bx 8 #[.int .i64 0, .int .i64 0] 49 ?_; intro gb151 hg w37 hbox hb; replace HO_5 := Aside0.mk (Kd.R_below (Kd.R_elderB (rk HO_5) gb151 (Nat.le_of_eq hg.symm)) hb); have BK151 := Aside0.mk (hbox); have GW151 := ge HB hg; have GE151 := ge HB hg; replace HB := bs HB hb; have NB150_151 := nl BK150 hg; have NB151_150 := nr BK150 hg; replace BK150 := bb BK150 hb; clear hb hbox hg; have hnb38 := NB151_150.out; have hnc38 := NB150_151.out; have hcz39_0 := bc0 BK151; have hcz39_1 := bc1 BK151; have hfz39_0 := blk_frozen BK151.out 0; have hfz39_1 := blk_frozen BK151.out 1; have hcz40_0 := bc0 BK150; have hcz40_1 := bc1 BK150; have hfz40_0 := blk_frozen BK150.out 0; have hfz40_1 := blk_frozen BK150.out 1) | ((with_reducible refine gate_callee (f := 77) rfl ?_); refine gl 30 Try.func77 #[.int .i64 (l0_0.length : Int), .agg #[.int .i64 x6_1, .int .i64 x7_2]] ?_; (with_reducible refine (spec_veMove.calls (l0_0.length : Int) x6_1 x7_2 true _ A7.out).mono ?_); rintro e w41 ⟨rfl, hb⟩; refine ⟨_, rfl, ?_⟩; replace HO_5 := Aside0.mk (Kd.R_below (by (with_reducible repeat (first | apply Kd.R_alloc | apply Kd.R_drewN | apply Kd.R_drew)); exact (Kd.R_mono (Kd.R_far (p := ⟨gb151, 1, none⟩) (Kd.R_far (p := ⟨gb151, 0, none⟩) (Kd.R_mono HO_5.out (fun k_ hk => (⟨hk, hk.2⟩ : _ ∧ k_ ≠ gb151))) (fun _ hk => hk.2) (.int .i64 x6_1)) (fun _ hk => hk.2) (.int .i64 x7_2)) (fun _ h_ => h_.1))) hb); replace BK150 := bb BK150 hb; replace BK151 := Aside0.mk (blk_below (g := gb151) (o := .cells #[.int .i64 x6_1, .int .i64 x7_2] 49 (0, 0)) (by (with_reducible repeat (first | refine blk_drewN ?_ _ | refine blk_drew ?_ | refine blk_alloc ?_ _)); refine blk_put (cs := #[.int .i64 x6_1, .int .i64 0]) ?_ 1 _ rfl; (with_reducible repeat (first | refine blk_drewN ?_ _ | refine blk_drew ?_ | refine blk_alloc ?_ _)); refine blk_put (cs := #[.int .i64 0, .int .i64 0]) ?_ 0 _ rfl; exact bk BK151) hb); replace HB := bs HB hb; (try clear hb); have hcz42_0 := bc0 BK150; have hcz42_1 := bc1 BK150; have hfz42_0 := blk_frozen BK150.out 0; have hfz42_1 := blk_frozen BK150.out 1; have hcz43_0 := bc0 BK151; have hcz43_1 := bc1 BK151; have hfz43_0 := blk_frozen BK151.out 0; have hfz43_1 := blk_frozen BK151.out 1) | (go_at_call 78; (with_reducible refine (spec_veAmount.calls _ _ l0_0 _ _ l0_1 x6_1 x7_2 t153 _ ?side1 ?side2 ?side3 ?side4 A24.out).mono ?_); (case side1 => exact ck HR0_0 HB); (case side2 => exact HC0_0.out); (case side3 => exact ck HR0_1 HB); (case side4 => exact HC0_1.out); rintro e w44 ⟨rfl, hb⟩; replace HO_5 := rb HO_5 hb; replace BK150 := bb BK150 hb; replace BK151 := bb BK151 hb; replace HB := bs HB hb; (try clear hb); have hcz45_0 := bc0 BK151; have hcz45_1 := bc1 BK151; have hfz45_0 := blk_frozen BK151.out 0; have hfz45_1 := blk_frozen BK151.out 1) | ((with_reducible refine gate_builtin (b := .append) (xs := #[.tmp 49, .tmp 51]) rfl ?_); at_builtin; refine Kd.R_append k49 (w0 := w) w.heap.size rfl (.tmp 49) (.tmp 51) 36 49 (.agg #[(.int .i64 0), (.int .i64 0)]) 16 rfl Try.underlying36 info49 rfl (by decide) (by omega) u5 x5_2 (⟨x6_1, x7_2⟩ : S49) [.int .i64 x6_1, .int .i64 x7_2] (fun k_ => k_ ≠ gb151) (fun _ => False) rfl rfl ?aP (fun _ hk => hk.elim) ?aF ?aO ?aB ?aS ?aL ?_; (case aP => exact k49_mkM _ _ _ (⟨x6_1, x7_2⟩ : S49)); (case aB => exact (bw HB)); (case aF => exact (fun k_ hk => Kd.freshB (g := gb151) (o := .cells #[.int .i64 x6_1, .int .i64 x7_2] 49 (0, 0)) (bk BK151) k_ hk)); (case aO => exact (by (with_reducible repeat (first | apply Kd.R_alloc | apply Kd.R_drewN | apply Kd.R_drew)); exact Kd.R_mono HO_5.out (fun _ hk => hk.2))); (case aS => exact (below_size (bw HB))); (case aL => have := LMc35.out; omega); intro v155 w46 ho hb hg hat; rw [← Ny154.out] at ho; have n0_ := Aside0.mk (blk_grown (g := gb150) (o := .cells #[.slice A0_0 l0_0.length c0_0, .slice A0_1 l0_1.length c0_1] 29 (0, 0)) (bk BK150) hg (Kd.R_ne HO_5.out BK150.out (by decide))); have n1_ := Aside0.mk (blk_grown (g := gb151) (o := .cells #[.int .i64 x6_1, .int .i64 x7_2] 49 (0, 0)) (bk BK151) hg (Kd.R_away HO_5.out (fun _ hk => hk.2))); have n2_ := Aside0.mk (hb); have n3_ := Aside0.mk (ho); clear BK150; clear BK151; clear HB; clear HO_5; have BK150 := n0_; have BK151 := n1_; have HB := n2_; have HO156 := n3_; clear n0_ n1_ n2_ n3_; clear ho hb hg hat))
             go_roundg k2
             case measure => have := HK1.out; have := HK2.out; omega
             case rel => exact ⟨(y154), (wrap64 (x7_2 + 1)), (by first | rfl | (simp; done) | (simp [*]; done)), H', ⟨by have := HK1.out; have := HK2.out; omega⟩, ⟨by (with_reducible repeat (first | apply Kd.R_alloc | apply Kd.R_drewN | apply Kd.R_drew)); exact Kd.R_mono HO156.out (fun _ hk => trivial)⟩, ⟨bk BK150⟩, ⟨bw HB⟩⟩
            ·rw [if_neg c35] at H
             exact absurd H (by simp)
        ·replace c9 := Bool.eq_false_iff.mpr c9
         subst c9
         have H1 : ((spec_veAmount.f l0_0 l0_1 x6_1 x7_2).bind fun t157 => (if t157 = 0 then (spec_veOn.l1 k2 false x5_2 x6_1 (wrap64 (x7_2 + 1)) l0_0 l0_1) else (if x5_2.length < 8796093022208 then (spec_veOn.l1 k2 false (x5_2 ++ [(⟨x6_1, x7_2⟩ : S49)]) x6_1 (wrap64 (x7_2 + 1)) l0_0 l0_1) else (none)))) = some r := by rw [if_neg (show ¬ (false = true) by decide)] at H; exact H
         clear H
         have H := H1
         clear H1
         replace H := Option.bind_eq_some_iff.mp H
         obtain ⟨t157, A470, H⟩ := H
         replace H : (if t157 = 0 then (spec_veOn.l1 k2 false x5_2 x6_1 (wrap64 (x7_2 + 1)) l0_0 l0_1) else (if x5_2.length < 8796093022208 then (spec_veOn.l1 k2 false (x5_2 ++ [(⟨x6_1, x7_2⟩ : S49)]) x6_1 (wrap64 (x7_2 + 1)) l0_0 l0_1) else (none))) = some r := H
         have A47 := Aside0.mk A470
         clear A470
         by_cases c48 : t157 = 0
         ·rw [if_pos c48] at H
          have c48b0 : (t157 == 0) = true := beq_iff_eq.mpr c48
          have c48b1 : (t157 != 0) = false := bne_eq_false_iff_eq.mpr c48
          clear c48
          have H' := Aside0.mk H
          clear H
          have hcz49_0 := bc0 BK150
          have hcz49_1 := bc1 BK150
          have hfz49_0 := blk_frozen BK150.out 0
          have hfz49_1 := blk_frozen BK150.out 1
          go_wp2_with (first | ((with_reducible refine gate_dst (N := 8) rfl ?_); refine bx 8 #[.int .i64 0, .int .i64 0] 49 ?_; intro gb151 hg w50 hbox hb; replace HO_5 := Aside0.mk (Kd.R_below (Kd.R_elderB (rk HO_5) gb151 (Nat.le_of_eq hg.symm)) hb); have BK151 := Aside0.mk (hbox); have GW151 := ge HB hg; have GE151 := ge HB hg; replace HB := bs HB hb; have NB150_151 := nl BK150 hg; have NB151_150 := nr BK150 hg; replace BK150 := bb BK150 hb; clear hb hbox hg; have hnb51 := NB151_150.out; have hnc51 := NB150_151.out; have hcz52_0 := bc0 BK151; have hcz52_1 := bc1 BK151; have hfz52_0 := blk_frozen BK151.out 0; have hfz52_1 := blk_frozen BK151.out 1; have hcz53_0 := bc0 BK150; have hcz53_1 := bc1 BK150; have hfz53_0 := blk_frozen BK150.out 0; have hfz53_1 := blk_frozen BK150.out 1) | ((with_reducible refine gate_callee (f := 77) rfl ?_); refine gl 30 Try.func77 #[.int .i64 (l0_0.length : Int), .agg #[.int .i64 x6_1, .int .i64 x7_2]] ?_; (with_reducible refine (spec_veMove.calls (l0_0.length : Int) x6_1 x7_2 true _ A7.out).mono ?_); rintro e w54 ⟨rfl, hb⟩; refine ⟨_, rfl, ?_⟩; replace HO_5 := Aside0.mk (Kd.R_below (by (with_reducible repeat (first | apply Kd.R_alloc | apply Kd.R_drewN | apply Kd.R_drew)); exact (Kd.R_mono (Kd.R_far (p := ⟨gb151, 1, none⟩) (Kd.R_far (p := ⟨gb151, 0, none⟩) (Kd.R_mono HO_5.out (fun k_ hk => (⟨hk, hk.2⟩ : _ ∧ k_ ≠ gb151))) (fun _ hk => hk.2) (.int .i64 x6_1)) (fun _ hk => hk.2) (.int .i64 x7_2)) (fun _ h_ => h_.1))) hb); replace BK150 := bb BK150 hb; replace BK151 := Aside0.mk (blk_below (g := gb151) (o := .cells #[.int .i64 x6_1, .int .i64 x7_2] 49 (0, 0)) (by (with_reducible repeat (first | refine blk_drewN ?_ _ | refine blk_drew ?_ | refine blk_alloc ?_ _)); refine blk_put (cs := #[.int .i64 x6_1, .int .i64 0]) ?_ 1 _ rfl; (with_reducible repeat (first | refine blk_drewN ?_ _ | refine blk_drew ?_ | refine blk_alloc ?_ _)); refine blk_put (cs := #[.int .i64 0, .int .i64 0]) ?_ 0 _ rfl; exact bk BK151) hb); replace HB := bs HB hb; (try clear hb); have hcz55_0 := bc0 BK150; have hcz55_1 := bc1 BK150; have hfz55_0 := blk_frozen BK150.out 0; have hfz55_1 := blk_frozen BK150.out 1; have hcz56_0 := bc0 BK151; have hcz56_1 := bc1 BK151; have hfz56_0 := blk_frozen BK151.out 0; have hfz56_1 := blk_frozen BK151.out 1) | (go_at_call 78; (with_reducible refine (spec_veAmount.calls _ _ l0_0 _ _ l0_1 x6_1 x7_2 t157 _ ?side1 ?side2 ?side3 ?side4 A47.out).mono ?_); (case side1 => exact ck HR0_0 HB); (case side2 => exact HC0_0.out); (case side3 => exact ck HR0_1 HB); (case side4 => exact HC0_1.out); rintro e w57 ⟨rfl, hb⟩; replace HO_5 := rb HO_5 hb; replace BK150 := bb BK150 hb; replace BK151 := bb BK151 hb; replace HB := bs HB hb; (try clear hb)))
          go_roundg k2
          case measure => have := HK1.out; have := HK2.out; omega
          case rel => exact ⟨(x5_2), (wrap64 (x7_2 + 1)), (by first | rfl | (simp; done) | (simp [*]; done)), H', ⟨by have := HK1.out; have := HK2.out; omega⟩, ⟨by (with_reducible repeat (first | apply Kd.R_alloc | apply Kd.R_drewN | apply Kd.R_drew)); exact Kd.R_mono HO_5.out (fun _ hk => trivial)⟩, ⟨bk BK150⟩, ⟨bw HB⟩⟩
         ·rw [if_neg c48] at H
          have c48b0 : (t157 == 0) = false := beq_eq_false_iff_ne.mpr c48
          have c48b1 : (t157 != 0) = true := bne_iff_ne.mpr c48
          by_cases c58 : x5_2.length < 8796093022208
          ·rw [if_pos c58] at H
           have LMc58 := Aside0.mk c58
           clear c58
           obtain ⟨y158, hy158⟩ : ∃ y_ : List (S49), y_ = (x5_2 ++ [(⟨x6_1, x7_2⟩ : S49)]) := ⟨_, rfl⟩
           replace H : (spec_veOn.l1 k2 false y158 x6_1 (wrap64 (x7_2 + 1)) l0_0 l0_1) = some r := by first | (rw [hy158]; with_reducible exact H) | (have H2_ := (Option.bind_some _ _).symm.trans H; rw [hy158]; with_reducible exact H2_) | (have H2_ := (Option.bind_some _ _).symm.trans H; with_reducible exact H2_) | with_reducible exact H | (rw [hy158]; exact H) | exact H
           have Ny158 := Aside0.mk hy158
           clear hy158
           have H' := Aside0.mk H
           clear H
           have hcz59_0 := bc0 BK150
           have hcz59_1 := bc1 BK150
           have hfz59_0 := blk_frozen BK150.out 0
           have hfz59_1 := blk_frozen BK150.out 1
           go_wp2_with (first | ((with_reducible refine gate_dst (N := 8) rfl ?_); refine bx 8 #[.int .i64 0, .int .i64 0] 49 ?_; intro gb151 hg w60 hbox hb; replace HO_5 := Aside0.mk (Kd.R_below (Kd.R_elderB (rk HO_5) gb151 (Nat.le_of_eq hg.symm)) hb); have BK151 := Aside0.mk (hbox); have GW151 := ge HB hg; have GE151 := ge HB hg; replace HB := bs HB hb; have NB150_151 := nl BK150 hg; have NB151_150 := nr BK150 hg; replace BK150 := bb BK150 hb; clear hb hbox hg; have hnb61 := NB151_150.out; have hnc61 := NB150_151.out; have hcz62_0 := bc0 BK151; have hcz62_1 := bc1 BK151; have hfz62_0 := blk_frozen BK151.out 0; have hfz62_1 := blk_frozen BK151.out 1; have hcz63_0 := bc0 BK150; have hcz63_1 := bc1 BK150; have hfz63_0 := blk_frozen BK150.out 0; have hfz63_1 := blk_frozen BK150.out 1) | ((with_reducible refine gate_callee (f := 77) rfl ?_); refine gl 30 Try.func77 #[.int .i64 (l0_0.length : Int), .agg #[.int .i64 x6_1, .int .i64 x7_2]] ?_; (with_reducible refine (spec_veMove.calls (l0_0.length : Int) x6_1 x7_2 true _ A7.out).mono ?_); rintro e w64 ⟨rfl, hb⟩; refine ⟨_, rfl, ?_⟩; replace HO_5 := Aside0.mk (Kd.R_below (by (with_reducible repeat (first | apply Kd.R_alloc | apply Kd.R_drewN | apply Kd.R_drew)); exact (Kd.R_mono (Kd.R_far (p := ⟨gb151, 1, none⟩) (Kd.R_far (p := ⟨gb151, 0, none⟩) (Kd.R_mono HO_5.out (fun k_ hk => (⟨hk, hk.2⟩ : _ ∧ k_ ≠ gb151))) (fun _ hk => hk.2) (.int .i64 x6_1)) (fun _ hk => hk.2) (.int .i64 x7_2)) (fun _ h_ => h_.1))) hb); replace BK150 := bb BK150 hb; replace BK151 := Aside0.mk (blk_below (g := gb151) (o := .cells #[.int .i64 x6_1, .int .i64 x7_2] 49 (0, 0)) (by (with_reducible repeat (first | refine blk_drewN ?_ _ | refine blk_drew ?_ | refine blk_alloc ?_ _)); refine blk_put (cs := #[.int .i64 x6_1, .int .i64 0]) ?_ 1 _ rfl; (with_reducible repeat (first | refine blk_drewN ?_ _ | refine blk_drew ?_ | refine blk_alloc ?_ _)); refine blk_put (cs := #[.int .i64 0, .int .i64 0]) ?_ 0 _ rfl; exact bk BK151) hb); replace HB := bs HB hb; (try clear hb); have hcz65_0 := bc0 BK150; have hcz65_1 := bc1 BK150; have hfz65_0 := blk_frozen BK150.out 0; have hfz65_1 := blk_frozen BK150.out 1; have hcz66_0 := bc0 BK151; have hcz66_1 := bc1 BK151; have hfz66_0 := blk_frozen BK151.out 0; have hfz66_1 := blk_frozen BK151.out 1) | (go_at_call 78; (with_reducible refine (spec_veAmount.calls _ _ l0_0 _ _ l0_1 x6_1 x7_2 t157 _ ?side1 ?side2 ?side3 ?side4 A47.out).mono ?_); (case side1 => exact ck HR0_0 HB); (case side2 => exact HC0_0.out); (case side3 => exact ck HR0_1 HB); (case side4 => exact HC0_1.out); rintro e w67 ⟨rfl, hb⟩; replace HO_5 := rb HO_5 hb; replace BK150 := bb BK150 hb; replace BK151 := bb BK151 hb; replace HB := bs HB hb; (try clear hb); have hcz68_0 := bc0 BK151; have hcz68_1 := bc1 BK151; have hfz68_0 := blk_frozen BK151.out 0; have hfz68_1 := blk_frozen BK151.out 1) | ((with_reducible refine gate_builtin (b := .append) (xs := #[.tmp 49, .tmp 51]) rfl ?_); at_builtin; refine Kd.R_append k49 (w0 := w) w.heap.size rfl (.tmp 49) (.tmp 51) 36 49 (.agg #[(.int .i64 0), (.int .i64 0)]) 16 rfl Try.underlying36 info49 rfl (by decide) (by omega) u5 x5_2 (⟨x6_1, x7_2⟩ : S49) [.int .i64 x6_1, .int .i64 x7_2] (fun k_ => k_ ≠ gb151) (fun _ => False) rfl rfl ?aP (fun _ hk => hk.elim) ?aF ?aO ?aB ?aS ?aL ?_; (case aP => exact k49_mkM _ _ _ (⟨x6_1, x7_2⟩ : S49)); (case aB => exact (bw HB)); (case aF => exact (fun k_ hk => Kd.freshB (g := gb151) (o := .cells #[.int .i64 x6_1, .int .i64 x7_2] 49 (0, 0)) (bk BK151) k_ hk)); (case aO => exact (by (with_reducible repeat (first | apply Kd.R_alloc | apply Kd.R_drewN | apply Kd.R_drew)); exact Kd.R_mono HO_5.out (fun _ hk => hk.2))); (case aS => exact (below_size (bw HB))); (case aL => have := LMc58.out; omega); intro v159 w69 ho hb hg hat; rw [← Ny158.out] at ho; have n0_ := Aside0.mk (blk_grown (g := gb150) (o := .cells #[.slice A0_0 l0_0.length c0_0, .slice A0_1 l0_1.length c0_1] 29 (0, 0)) (bk BK150) hg (Kd.R_ne HO_5.out BK150.out (by decide))); have n1_ := Aside0.mk (blk_grown (g := gb151) (o := .cells #[.int .i64 x6_1, .int .i64 x7_2] 49 (0, 0)) (bk BK151) hg (Kd.R_away HO_5.out (fun _ hk => hk.2))); have n2_ := Aside0.mk (hb); have n3_ := Aside0.mk (ho); clear BK150; clear BK151; clear HB; clear HO_5; have BK150 := n0_; have BK151 := n1_; have HB := n2_; have HO160 := n3_; clear n0_ n1_ n2_ n3_; clear ho hb hg hat))
           go_roundg k2
           case measure => have := HK1.out; have := HK2.out; omega
           case rel => exact ⟨(y158), (wrap64 (x7_2 + 1)), (by first | rfl | (simp; done) | (simp [*]; done)), H', ⟨by have := HK1.out; have := HK2.out; omega⟩, ⟨by (with_reducible repeat (first | apply Kd.R_alloc | apply Kd.R_drewN | apply Kd.R_drew)); exact Kd.R_mono HO160.out (fun _ hk => trivial)⟩, ⟨bk BK150⟩, ⟨bw HB⟩⟩
          ·rw [if_neg c58] at H
           exact absurd H (by simp)
       ·replace c8 := Bool.eq_false_iff.mpr c8
        subst c8
        have H1 : (spec_veOn.l1 k2 a1 x5_2 x6_1 (wrap64 (x7_2 + 1)) l0_0 l0_1) = some r := by rw [if_neg (show ¬ (false = true) by decide)] at H; exact H
        clear H
        have H := H1
        clear H1
        have H' := Aside0.mk H
        clear H
        have hcz70_0 := bc0 BK150
        have hcz70_1 := bc1 BK150
        have hfz70_0 := blk_frozen BK150.out 0
        have hfz70_1 := blk_frozen BK150.out 1
        go_wp2_with (first | ((with_reducible refine gate_dst (N := 8) rfl ?_); refine bx 8 #[.int .i64 0, .int .i64 0] 49 ?_; intro gb151 hg w71 hbox hb; replace HO_5 := Aside0.mk (Kd.R_below (Kd.R_elderB (rk HO_5) gb151 (Nat.le_of_eq hg.symm)) hb); have BK151 := Aside0.mk (hbox); have GW151 := ge HB hg; have GE151 := ge HB hg; replace HB := bs HB hb; have NB150_151 := nl BK150 hg; have NB151_150 := nr BK150 hg; replace BK150 := bb BK150 hb; clear hb hbox hg; have hnb72 := NB151_150.out; have hnc72 := NB150_151.out; have hcz73_0 := bc0 BK151; have hcz73_1 := bc1 BK151; have hfz73_0 := blk_frozen BK151.out 0; have hfz73_1 := blk_frozen BK151.out 1; have hcz74_0 := bc0 BK150; have hcz74_1 := bc1 BK150; have hfz74_0 := blk_frozen BK150.out 0; have hfz74_1 := blk_frozen BK150.out 1) | ((with_reducible refine gate_callee (f := 77) rfl ?_); refine gl 30 Try.func77 #[.int .i64 (l0_0.length : Int), .agg #[.int .i64 x6_1, .int .i64 x7_2]] ?_; (with_reducible refine (spec_veMove.calls (l0_0.length : Int) x6_1 x7_2 false _ A7.out).mono ?_); rintro e w75 ⟨rfl, hb⟩; refine ⟨_, rfl, ?_⟩; replace HO_5 := Aside0.mk (Kd.R_below (by (with_reducible repeat (first | apply Kd.R_alloc | apply Kd.R_drewN | apply Kd.R_drew)); exact (Kd.R_mono (Kd.R_far (p := ⟨gb151, 1, none⟩) (Kd.R_far (p := ⟨gb151, 0, none⟩) (Kd.R_mono HO_5.out (fun k_ hk => (⟨hk, hk.2⟩ : _ ∧ k_ ≠ gb151))) (fun _ hk => hk.2) (.int .i64 x6_1)) (fun _ hk => hk.2) (.int .i64 x7_2)) (fun _ h_ => h_.1))) hb); replace BK150 := bb BK150 hb; replace BK151 := Aside0.mk (blk_below (g := gb151) (o := .cells #[.int .i64 x6_1, .int .i64 x7_2] 49 (0, 0)) (by (with_reducible repeat (first | refine blk_drewN ?_ _ | refine blk_drew ?_ | refine blk_alloc ?_ _)); refine blk_put (cs := #[.int .i64 x6_1, .int .i64 0]) ?_ 1 _ rfl; (with_reducible repeat (first | refine blk_drewN ?_ _ | refine blk_drew ?_ | refine blk_alloc ?_ _)); refine blk_put (cs := #[.int .i64 0, .int .i64 0]) ?_ 0 _ rfl; exact bk BK151) hb); replace HB := bs HB hb; (try clear hb)))
        go_roundg k2
        case measure => have := HK1.out; have := HK2.out; omega
        case rel => exact ⟨(x5_2), (wrap64 (x7_2 + 1)), (by first | rfl | (simp; done) | (simp [*]; done)), H', ⟨by have := HK1.out; have := HK2.out; omega⟩, ⟨by (with_reducible repeat (first | apply Kd.R_alloc | apply Kd.R_drewN | apply Kd.R_drew)); exact Kd.R_mono HO_5.out (fun _ hk => trivial)⟩, ⟨bk BK150⟩, ⟨bw HB⟩⟩
      ·rw [if_neg c6] at H
       have c6b0 : decide (x7_2 < (l0_0.length : Int)) = false := decide_eq_false c6
       clear c6
       have H' := Aside0.mk H
       clear H
       have hcz76_0 := bc0 BK150
       have hcz76_1 := bc1 BK150
       have hfz76_0 := blk_frozen BK150.out 0
       have hfz76_1 := blk_frozen BK150.out 1
       go_wp2
       go_roundg k2
       case measure => have := HK1.out; have := HK2.out; omega
       case rel => exact ⟨(x5_2), (wrap64 (x6_1 + 1)), (by first | rfl | (simp; done) | (simp [*]; done)), H', ⟨by have := HK1.out; have := HK2.out; omega⟩, ⟨rk HO_5⟩, ⟨bk BK150⟩, ⟨bw HB⟩⟩
   ·rw [if_neg c4] at H
    have c4b0 : decide (x6_1 < (l0_0.length : Int)) = false := decide_eq_false c4
    clear c4
    obtain rfl := Option.some.inj H
    have hcz77_0 := bc0 BK150
    have hcz77_1 := bc1 BK150
    have hfz77_0 := blk_frozen BK150.out 0
    have hfz77_1 := blk_frozen BK150.out 1
    go_wp2
    go_ret
    exact ⟨_, by first | rfl | (simp [errW_none, errW_some] <;> rfl) | (simp [*, errW_none, errW_some] <;> rfl), rk HO_5, bw HB⟩

/-! ### spec_l1Own: function 71 -/
def spec_l1Own.f (l0 : List Int) : Option (List Int) := (some (([] : List Int) : List Int)).bind fun y161 => (if y161.length + l0.length < 17592186044416 then (some (y161 ++ l0)) else (none))
set_option maxHeartbeats 8000000 in
set_option maxRecDepth 100000 in
theorem spec_l1Own.calls (A0 : Option Addr) (c0 : Nat) (l0 : List Int) (r : List Int) (w : World) (hr0 : Kd.C (Kd.int .i64) w A0 l0.length l0) (hc0 : l0.length ≤ c0) (h : spec_l1Own.f l0 = some r) :
  Calls Try.prog 71 #[.slice A0 l0.length c0] w fun e w' => ∃ v0_ : Value, e = .returned (v0_) ∧ Kd.R (Kd.int .i64) 3 w' w.heap.size (fun _ => True) v0_ r ∧ Below w.heap.size w w' := by
 have HR0 := Aside0.mk hr0
 have HC0 := Aside0.mk hc0
 clear hr0 hc0
 have HB := Aside0.mk (Below.refl w.heap.size w)
 have H : ((some (([] : List Int) : List Int)).bind fun y161 => (if y161.length + l0.length < 17592186044416 then (some (y161 ++ l0)) else (none))) = some r := h
 clear h
 obtain ⟨y161, hy161⟩ : ∃ y_ : List Int, y_ = (([] : List Int)) := ⟨_, rfl⟩
 replace H : (if y161.length + l0.length < 17592186044416 then (some (y161 ++ l0)) else (none)) = some r := by first | (rw [hy161]; with_reducible exact H) | (have H2_ := (Option.bind_some _ _).symm.trans H; rw [hy161]; with_reducible exact H2_) | (have H2_ := (Option.bind_some _ _).symm.trans H; with_reducible exact H2_) | with_reducible exact H | (rw [hy161]; exact H) | exact H
 have Ny161 := Aside0.mk hy161
 clear hy161
 by_cases c2 : y161.length + l0.length < 17592186044416
 ·rw [if_pos c2] at H
  have LMc2 := Aside0.mk c2
  clear c2
  obtain ⟨y164, hy164⟩ : ∃ y_ : List Int, y_ = (y161 ++ l0) := ⟨_, rfl⟩
  replace H : (some y164) = some r := by first | (rw [hy164]; with_reducible exact H) | (have H2_ := (Option.bind_some _ _).symm.trans H; rw [hy164]; with_reducible exact H2_) | (have H2_ := (Option.bind_some _ _).symm.trans H; with_reducible exact H2_) | with_reducible exact H | (rw [hy164]; exact H) | exact H
  have Ny164 := Aside0.mk hy164
  clear hy164
  obtain rfl := Option.some.inj H
  go_enter Try.func71, Try.ntmps71
  go_wp2_with (first | ((with_reducible refine gate_dst (N := 3) rfl ?_); refine Kd.R_lit (Kd.int .i64) _ 3 ?hg (N := 3) ?hd (xs := ([] : List Int)) (inner := []) (ok := fun _ => True) (okp := fun _ => True) ?hr ?hp (fun _ hk => hk) trivial (Below.refl _ _) (Nat.le_refl _) (by simp) ?_; (case hd => rfl); (case hg => rfl); (case hr => first | (go_simp; done) | (go_simp; rfl)); (case hp => exact (Reps.none _ _)); intro v162 w3 ho4 hb hg_ hnew_; clear hg_ hnew_; (first | rw [← Ny161.out] at ho4 | (simp only [Int.reduceToNat] at ho4; rw [← Ny161.out] at ho4)); have HO163 := lo ho4 HB; replace HB := bs HB hb; clear hb ho4) | ((with_reducible refine gate_builtin (b := .append) (xs := #[.tmp 3, .tmp 4]) rfl ?_); at_builtin; refine Kd.R_append_rows (Kd.int .i64) (w0 := w) w.heap.size rfl (.tmp 3) (.tmp 4) 22 3 (.int .i64 0) 8 rfl Try.underlying22 info3 rfl (by decide) (by omega) v162 y161 l0 _ _ _ (fun _ => True) (fun _ => False) rfl rfl ?aO ?aR (fun _ _ h => h) (fun _ h => h.elim) ?aF ?aB ?aS ?aL ?_; (case aR => exact ck HR0 HB); (case aB => exact (bw HB)); (case aF => exact (fun _ _ => trivial)); (case aO => exact (rk HO163)); (case aS => exact (below_size (bw HB))); (case aL => have := LMc2.out; omega); intro v165 w5 ho hb hg hat; rw [← Ny164.out] at ho; have n0_ := Aside0.mk (hb); have n1_ := Aside0.mk (ho); clear HB; clear HO163; have HB := n0_; have HO166 := n1_; clear n0_ n1_; clear ho hb hg hat))
  go_ret
  exact ⟨_, by first | rfl | (simp [errW_none, errW_some] <;> rfl) | (simp [*, errW_none, errW_some] <;> rfl), rk HO166, bw HB⟩
 ·rw [if_neg c2] at H
  exact absurd H (by simp)

end Go.Proofs.Ytigpkicbigpilaa.U
