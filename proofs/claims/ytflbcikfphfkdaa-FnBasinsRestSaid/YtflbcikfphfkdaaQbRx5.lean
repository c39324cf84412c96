-- Functions of the program as plain functions, and that the calls come to them. Written by a program (ownprint.py); nothing here is trusted: Lean checks it.
import Derived.Test.YtflbcikfphfkdaaQbRx0
import Derived.Test.YtflbcikfphfkdaaQbRx2
import Derived.Test.YtflbcikfphfkdaaQbRx3
import Derived.Test.YtflbcikfphfkdaaQbRx4
namespace Go.Proofs.Ytflbcikfphfkdaa.R
open Go.RowKit Go.Proofs.YtflbcikfphfkdaaW.PrintWords Go.Proofs.YtflbcikfphfkdaaW.PrintLast Go.Proofs.YtflbcikfphfkdaaW.PrintMore Go.Proofs.Ytflbcikfphfkdaa.Sq
attribute [local go_sem] max2_int min2_int max_two min_two max_three min_three max_four min_four   -- for this text's walks alone
set_option linter.unusedVariables false
set_option linter.unusedSimpArgs false
def spec_l1All.l0 : Nat → Int → Int → List Int → Int → Int → Option (Bool)
 | 0, _, _, _, _, _ => none
 | k + 1, x1, x2, x9, x10, x11 => if x11 < x10 then (if 0 ≤ x11 then (if x11 < (x9.length : Int) then ((spec_l1In.f (rd x9 x11) x1 x2).bind fun t347 => (if t347 = true then (spec_l1All.l0 k x1 x2 x9 x10 (wrap64 (x11 + 1))) else (some false))) else (none)) else (none)) else (some true)
def spec_l1All.f (k : Nat) (l0 : List Int) (a1 : Int) (a2 : Int) : Option (Bool) := spec_l1All.l0 k a1 a2 l0 (l0.length : Int) 0
set_option maxHeartbeats 8000000 in
set_option maxRecDepth 100000 in
theorem spec_l1All.calls (k : Nat) (A0 : Option Addr) (c0 : Nat) (l0 : List Int) (a1 : Int) (a2 : Int) (r : Bool) (w : World) (hr0 : Kd.C (Kd.int .i64) w A0 l0.length l0) (hc0 : l0.length ≤ c0) (h : spec_l1All.f k l0 a1 a2 = some r) :
  Calls Try.prog 86 #[.slice A0 l0.length c0, .int .i64 a1, .int .i64 a2] w fun e w' => e = .returned (.bool r) ∧ Drawn0 w w' := by
 have HR0 := Aside0.mk hr0
 have HC0 := Aside0.mk hc0
 clear hr0 hc0
 have H : (spec_l1All.l0 k a1 a2 l0 (l0.length : Int) 0) = some r := h
 clear h
 have H' := Aside0.mk H
 clear H
 go_enter Try.func86, Try.ntmps86
 go_wp2
 try simp only [Act.put, List.setIfInBounds_toArray, List.set_cons_zero, List.set_cons_succ]
 go_loopg [11] k (fun kq v11 w' => ∃ (x11_1 : Int), v11 = .int .i64 x11_1 ∧ Aside0 (spec_l1All.l0 kq a1 a2 l0 (l0.length : Int) x11_1 = some r) ∧ Aside0 (kq ≤ k) ∧ Drawn0 w w')
 case atStart => exact ⟨(0), (by first | rfl | (simp; done) | (simp [*]; done)), H', ⟨Nat.le_refl _⟩, by repeat (first | exact Drawn0.refl _ | apply Drawn0.step)⟩
 case round =>
  clear H'
  (try clear p2)
  obtain ⟨x11_1, rfl, HA, HK1, ⟨m1, rfl⟩⟩ := hrel
  cases gk with
  | zero => exact absurd HA.out (by simp [spec_l1All.l0])
  | succ k1 =>
   have H := HA.out
   clear HA
   simp only [spec_l1All.l0] at H
   by_cases c4 : x11_1 < (l0.length : Int)
   rotate_left
   ·rw [if_neg c4] at H
    have c4b0 : decide (x11_1 < (l0.length : Int)) = false := decide_eq_false c4
    clear c4
    obtain rfl := Option.some.inj H
    go_wp2
    go_ret
    exact ⟨by first | rfl | (simp; done) | (simp [*]; done), by repeat (first | exact Drawn0.refl _ | apply Drawn0.step)⟩
   rw [if_pos c4] at H
   have c4b0 : decide (x11_1 < (l0.length : Int)) = true := decide_eq_true c4
   clear c4
   by_cases c5 : 0 ≤ x11_1
   rotate_left
   ·rw [if_neg c5] at H
    exact absurd H (by simp)
   rw [if_pos c5] at H
   have c5b0 : decide (0 ≤ x11_1) = true := decide_eq_true c5
   clear c5
   by_cases c6 : x11_1 < (l0.length : Int)
   rotate_left
   ·rw [if_neg c6] at H
    exact absurd H (by simp)
   rw [if_pos c6] at H
   have c6b0 : decide (x11_1 < (l0.length : Int)) = true := decide_eq_true c6
   clear c6
   replace H := Option.bind_eq_some_iff.mp H
   obtain ⟨t347, A70, H⟩ := H
   (try dsimp only at H)
   have A7 := Aside0.mk A70
   clear A70
   by_cases c8 : t347 = true
   rotate_left
   ·replace c8 := Bool.eq_false_iff.mpr c8
    subst c8
    have H1 : (some false) = some r := by rw [if_neg (show ¬ (false = true) by decide)] at H; exact H
    clear H
    have H := H1
    clear H1
    obtain rfl := Option.some.inj H
    have p346 : 0 ≤ (x11_1 : Int) := of_decide_eq_true ‹_›
    have q346 : x11_1 < (l0.length : Int) := of_decide_eq_true ‹_›
    obtain ⟨ad346, e346, hx346_0⟩ := Kd.at_int HR0.out x11_1 p346 q346
    cases e346
    replace p346 := eq_true p346
    replace q346 := eq_true q346
    go_wp2_with (first | ((with_reducible refine gate_callee (f := 60) rfl ?_); refine gl 18 Try.func60 #[.int .i64 (rd l0 x11_1), .int .i64 a1, .int .i64 a2] ?_; (with_reducible refine (spec_l1In.calls (rd l0 x11_1) a1 a2 false _ A7.out).mono ?_); rintro e w' ⟨rfl, ⟨nd, rfl⟩⟩; refine ⟨_, rfl, ?_⟩))
    go_ret
    exact ⟨by first | rfl | (simp; done) | (simp [*]; done), by repeat (first | exact Drawn0.refl _ | apply Drawn0.step)⟩
   subst c8
   have H1 : (spec_l1All.l0 k1 a1 a2 l0 (l0.length : Int) (wrap64 (x11_1 + 1))) = some r := by rw [if_pos rfl] at H; exact H
   clear H
   have H := H1
   clear H1
   have H' := Aside0.mk H
   clear H
   have p346 : 0 ≤ (x11_1 : Int) := of_decide_eq_true ‹_›
   have q346 : x11_1 < (l0.length : Int) := of_decide_eq_true ‹_›
   obtain ⟨ad346, e346, hx346_0⟩ := Kd.at_int HR0.out x11_1 p346 q346
   cases e346
   replace p346 := eq_true p346
   replace q346 := eq_true q346
   go_wp2_with (first | ((with_reducible refine gate_callee (f := 60) rfl ?_); refine gl 18 Try.func60 #[.int .i64 (rd l0 x11_1), .int .i64 a1, .int .i64 a2] ?_; (with_reducible refine (spec_l1In.calls (rd l0 x11_1) a1 a2 true _ A7.out).mono ?_); rintro e w' ⟨rfl, ⟨nd, rfl⟩⟩; refine ⟨_, rfl, ?_⟩))
   go_roundg k1
   case measure => have := HK1.out; omega
   case rel => exact ⟨(wrap64 (x11_1 + 1)), (by first | rfl | (simp; done) | (simp [*]; done)), H', ⟨by have := HK1.out; omega⟩, by repeat (first | exact Drawn0.refl _ | apply Drawn0.step)⟩
def spec_weFlows.f (k : Nat) (l0 : List Int) : Option (Bool) := if (l0.length : Int) ≤ 60 then ((spec_l1All.f k l0 0 1000).bind fun t348 => (some t348)) else (some false)
set_option maxHeartbeats 8000000 in
set_option maxRecDepth 100000 in
theorem spec_weFlows.calls (k : Nat) (A0 : Option Addr) (c0 : Nat) (l0 : List Int) (r : Bool) (w : World) (hr0 : Kd.C (Kd.int .i64) w A0 l0.length l0) (hc0 : l0.length ≤ c0) (h : spec_weFlows.f k l0 = some r) :
  Calls Try.prog 76 #[.slice A0 l0.length c0] w fun e w' => e = .returned (.bool r) ∧ Drawn0 w w' := by
 have HR0 := Aside0.mk hr0
 have HC0 := Aside0.mk hc0
 clear hr0 hc0
 have H : (if (l0.length : Int) ≤ 60 then ((spec_l1All.f k l0 0 1000).bind fun t348 => (some t348)) else (some false)) = some r := h
 clear h
 by_cases c2 : (l0.length : Int) ≤ 60
 rotate_left
 ·rw [if_neg c2] at H
  have c2b0 : decide ((l0.length : Int) ≤ 60) = false := decide_eq_false c2
  have c2b1 : decide (l0.length ≤ 60) = false := decide_eq_false (by omega)
  clear c2
  obtain rfl := Option.some.inj H
  go_enter Try.func76, Try.ntmps76
  go_wp2
  go_ret
  exact ⟨by first | rfl | (simp; done) | (simp [*]; done), by repeat (first | exact Drawn0.refl _ | apply Drawn0.step)⟩
 rw [if_pos c2] at H
 have c2b0 : decide ((l0.length : Int) ≤ 60) = true := decide_eq_true c2
 have c2b1 : decide (l0.length ≤ 60) = true := decide_eq_true (by omega)
 clear c2
 replace H := Option.bind_eq_some_iff.mp H
 obtain ⟨t348, A30, H⟩ := H
 (try dsimp only at H)
 have A3 := Aside0.mk A30
 clear A30
 obtain rfl := Option.some.inj H
 go_enter Try.func76, Try.ntmps76
 go_wp2_with (first | (go_at_call 86; (with_reducible refine (spec_l1All.calls k _ _ l0 0 1000 t348 _ ?side1 ?side2 A3.out).mono ?_); (case side1 => repeat (first | exact HR0.out | (with_reducible refine Kd.C_alloc ?_ _) | (with_reducible refine Kd.C_drewN ?_ _) | (with_reducible refine Kd.C_drew ?_))); (case side2 => exact HC0.out); rintro e w' ⟨rfl, ⟨nd, rfl⟩⟩))
 go_ret
 exact ⟨by first | rfl | (simp; done) | (simp [*]; done), by repeat (first | exact Drawn0.refl _ | apply Drawn0.step)⟩
def spec_weAsked.f (k : Nat) (l0 : List (S30)) (l1 : List Int) : Option (Bool) := (spec_weRow.f k l0).bind fun t349 => (if t349 = true then ((spec_weFlows.f k l1).bind fun t350 => (some t350)) else (some false))
set_option maxHeartbeats 8000000 in
set_option maxRecDepth 100000 in
theorem spec_weAsked.calls (k : Nat) (A0 : Option Addr) (c0 : Nat) (l0 : List (S30)) (A1 : Option Addr) (c1 : Nat) (l1 : List Int) (r : Bool) (w : World) (hr0 : Kd.C k30 w A0 l0.length l0) (hc0 : l0.length ≤ c0) (hr1 : Kd.C (Kd.int .i64) w A1 l1.length l1) (hc1 : l1.length ≤ c1) (h : spec_weAsked.f k l0 l1 = some r) :
  Calls Try.prog 64 #[.slice A0 l0.length c0, .slice A1 l1.length c1] w fun e w' => e = .returned (.bool r) ∧ Below w.heap.size w w' := by
 have HR0 := Aside0.mk hr0
 have HC0 := Aside0.mk hc0
 clear hr0 hc0
 have HR1 := Aside0.mk hr1
 have HC1 := Aside0.mk hc1
 clear hr1 hc1
 have HB := Aside0.mk (Below.refl w.heap.size w)
 have H : ((spec_weRow.f k l0).bind fun t349 => (if t349 = true then ((spec_weFlows.f k l1).bind fun t350 => (some t350)) else (some false))) = some r := h
 clear h
 replace H := Option.bind_eq_some_iff.mp H
 obtain ⟨t349, A30, H⟩ := H
 (try dsimp only at H)
 have A3 := Aside0.mk A30
 clear A30
 by_cases c4 : t349 = true
 rotate_left
 ·replace c4 := Bool.eq_false_iff.mpr c4
  subst c4
  have H1 : (some false) = some r := by rw [if_neg (show ¬ (false = true) by decide)] at H; exact H
  clear H
  have H := H1
  clear H1
  obtain rfl := Option.some.inj H
  go_enter Try.func64, Try.ntmps64
  go_wp2_with (first | ((with_reducible refine gate_callee (f := 51) rfl ?_); refine gl 6 Try.func51 #[.slice A0 l0.length c0] ?_; (with_reducible refine (spec_weRow.calls k _ _ l0 false _ ?side1 ?side2 A3.out).mono ?_); (case side1 => repeat (first | exact HR0.out | (with_reducible refine Kd.C_alloc ?_ _) | (with_reducible refine Kd.C_drewN ?_ _) | (with_reducible refine Kd.C_drew ?_))); (case side2 => exact HC0.out); rintro e w7 ⟨rfl, hb⟩; refine ⟨_, rfl, ?_⟩; replace HB := bs HB hb; (try clear hb)))
  go_ret
  exact ⟨by first | rfl | (simp [errW_none, errW_some] <;> rfl) | (simp [*, errW_none, errW_some] <;> rfl), bw HB⟩
 subst c4
 have H1 : ((spec_weFlows.f k l1).bind fun t350 => (some t350)) = some r := by rw [if_pos rfl] at H; exact H
 clear H
 have H := H1
 clear H1
 replace H := Option.bind_eq_some_iff.mp H
 obtain ⟨t350, A50, H⟩ := H
 (try dsimp only at H)
 have A5 := Aside0.mk A50
 clear A50
 obtain rfl := Option.some.inj H
 go_enter Try.func64, Try.ntmps64
 go_wp2_with (first | ((with_reducible refine gate_callee (f := 51) rfl ?_); refine gl 6 Try.func51 #[.slice A0 l0.length c0] ?_; (with_reducible refine (spec_weRow.calls k _ _ l0 true _ ?side1 ?side2 A3.out).mono ?_); (case side1 => repeat (first | exact HR0.out | (with_reducible refine Kd.C_alloc ?_ _) | (with_reducible refine Kd.C_drewN ?_ _) | (with_reducible refine Kd.C_drew ?_))); (case side2 => exact HC0.out); rintro e w6 ⟨rfl, hb⟩; refine ⟨_, rfl, ?_⟩; replace HB := bs HB hb; (try clear hb)) | (go_at_call 76; (with_reducible refine (spec_weFlows.calls k _ _ l1 t350 _ ?side1 ?side2 A5.out).mono ?_); (case side1 => exact ck HR1 HB); (case side2 => exact HC1.out); rintro e w' ⟨rfl, ⟨nd, rfl⟩⟩))
 go_ret
 exact ⟨by first | rfl | (simp [errW_none, errW_some] <;> rfl) | (simp [*, errW_none, errW_some] <;> rfl), bw HB⟩
def spec_l1Most.f (a0 : Int) (a1 : Int) : Option (Int) := if a0 > a1 then (some a0) else (some a1)
set_option maxHeartbeats 8000000 in
set_option maxRecDepth 100000 in
theorem spec_l1Most.calls (a0 : Int) (a1 : Int) (r : Int) (w : World) (h : spec_l1Most.f a0 a1 = some r) :
  Calls Try.prog 65 #[.int .i64 a0, .int .i64 a1] w fun e w' => e = .returned (.int .i64 r) ∧ Drawn0 w w' := by
 have H : (if a0 > a1 then (some a0) else (some a1)) = some r := h
 clear h
 by_cases c3 : a0 > a1
 rotate_left
 ·rw [if_neg c3] at H
  have c3b0 : decide (a1 < a0) = false := decide_eq_false c3
  clear c3
  obtain rfl := Option.some.inj H
  go_enter Try.func65, Try.ntmps65
  go_wp2
  go_ret
  exact ⟨by first | rfl | (simp; done) | (simp [*]; done), by repeat (first | exact Drawn0.refl _ | apply Drawn0.step)⟩
 rw [if_pos c3] at H
 have c3b0 : decide (a1 < a0) = true := decide_eq_true c3
 clear c3
 obtain rfl := Option.some.inj H
 go_enter Try.func65, Try.ntmps65
 go_wp2
 go_ret
 exact ⟨by first | rfl | (simp; done) | (simp [*]; done), by repeat (first | exact Drawn0.refl _ | apply Drawn0.step)⟩
def spec_l1Least.f (a0 : Int) (a1 : Int) : Option (Int) := if a0 < a1 then (some a0) else (some a1)
set_option maxHeartbeats 8000000 in
set_option maxRecDepth 100000 in
theorem spec_l1Least.calls (a0 : Int) (a1 : Int) (r : Int) (w : World) (h : spec_l1Least.f a0 a1 = some r) :
  Calls Try.prog 78 #[.int .i64 a0, .int .i64 a1] w fun e w' => e = .returned (.int .i64 r) ∧ Drawn0 w w' := by
 have H : (if a0 < a1 then (some a0) else (some a1)) = some r := h
 clear h
 by_cases c3 : a0 < a1
 rotate_left
 ·rw [if_neg c3] at H
  have c3b0 : decide (a0 < a1) = false := decide_eq_false c3
  clear c3
  obtain rfl := Option.some.inj H
  go_enter Try.func78, Try.ntmps78
  go_wp2
  go_ret
  exact ⟨by first | rfl | (simp; done) | (simp [*]; done), by repeat (first | exact Drawn0.refl _ | apply Drawn0.step)⟩
 rw [if_pos c3] at H
 have c3b0 : decide (a0 < a1) = true := decide_eq_true c3
 clear c3
 obtain rfl := Option.some.inj H
 go_enter Try.func78, Try.ntmps78
 go_wp2
 go_ret
 exact ⟨by first | rfl | (simp; done) | (simp [*]; done), by repeat (first | exact Drawn0.refl _ | apply Drawn0.step)⟩
def spec_weTick.l0 : Nat → Int → List (S30) → List Int → List (S30) → Int → Int → Option ((List (S30)) × Int × List Int)
 | 0, _, _, _, _, _, _ => none
 | k + 1, x1, x7, x8, x14, x15, x16 => if x16 < x15 then (if 0 ≤ x16 then (if x16 < (x14.length : Int) then ((spec_l1Most.f 0 (wrap64 ((wrap64 (((rd_T30 x14 x16).f2) + x1)) - ((rd_T30 x14 x16).f0)))).bind fun t353 => ((spec_l1Least.f (wrap64 ((wrap64 (((rd_T30 x14 x16).f2) + x1)) - t353)) ((rd_T30 x14 x16).f1)).bind fun t354 => (if x7.length < 5864062014805 then (if x8.length < 17592186044416 then (spec_weTick.l0 k (wrap64 (t353 + t354)) (x7 ++ [(⟨(rd_T30 x14 x16).f0, (rd_T30 x14 x16).f1, wrap64 ((wrap64 ((wrap64 (((rd_T30 x14 x16).f2) + x1)) - t353)) - t354)⟩ : S30)]) (x8 ++ [t353]) x14 x15 (wrap64 (x16 + 1))) else (none)) else (none)))) else (none)) else (none)) else (some (x7, x1, x8))
def spec_weTick.f (k : Nat) (l0 : List (S30)) (a1 : Int) : Option ((List (S30)) × Int × List Int) := spec_weTick.l0 k a1 ([] : List (S30)) ([] : List Int) l0 (l0.length : Int) 0
set_option maxHeartbeats 8000000 in
set_option maxRecDepth 100000 in
theorem spec_weTick.calls (k : Nat) (A0 : Option Addr) (c0 : Nat) (l0 : List (S30)) (a1 : Int) (r1 : List (S30)) (r2 : Int) (r3 : List Int) (w : World) (hr0 : Kd.C k30 w A0 l0.length l0) (hc0 : l0.length ≤ c0) (h : spec_weTick.f k l0 a1 = some (r1, r2, r3)) :
  Calls Try.prog 53 #[.slice A0 l0.length c0, .int .i64 a1] w fun e w' => ∃ v0_ v2_ : Value, e = .returned (.tuple #[v0_, .int .i64 r2, v2_]) ∧ Kd.R k30 30 w' w.heap.size (fun _ => True) v0_ r1 ∧ Kd.R (Kd.int .i64) 3 w' w.heap.size (fun _ => True) v2_ r3 ∧ Below w.heap.size w w' := by
 have hu30 := Try.underlying30
 have HR0 := Aside0.mk hr0
 have HC0 := Aside0.mk hc0
 clear hr0 hc0
 have HB := Aside0.mk (Below.refl w.heap.size w)
 have H : (spec_weTick.l0 k a1 ([] : List (S30)) ([] : List Int) l0 (l0.length : Int) 0) = some (r1, r2, r3) := h
 clear h
 have H' := Aside0.mk H
 clear H
 go_enter Try.func53, Try.ntmps53
 go_wp2
 try simp only [Act.put, List.setIfInBounds_toArray, List.set_cons_zero, List.set_cons_succ]
 go_loopg [1, 7, 8, 16] k (fun kq v1 v7 v8 v16 w' => ∃ (x1_1 : Int) (x7_1 : List (S30)) (x8_1 : List Int) (x16_1 : Int), v1 = .int .i64 x1_1 ∧ v16 = .int .i64 x16_1 ∧ Aside0 (spec_weTick.l0 kq x1_1 x7_1 x8_1 l0 (l0.length : Int) x16_1 = some (r1, r2, r3)) ∧ Aside0 (kq ≤ k) ∧ Aside0 (Kd.R k30 30 w' w.heap.size (fun _ => True) v7 x7_1) ∧ Aside0 (Kd.R (Kd.int .i64) 3 w' w.heap.size (fun _ => True) v8 x8_1) ∧ Aside0 (Below w.heap.size w w'))
 case atStart => exact ⟨(a1), (([] : List (S30))), (([] : List Int)), (0), (by first | rfl | (simp; done) | (simp [*]; done)), (by first | rfl | (simp; done) | (simp [*]; done)), H', ⟨Nat.le_refl _⟩, ⟨by first | exact Kd.R_nil _ _ _ _ _ | exact Kd.N_nil _ _ _ _ _ | exact Kd.V_nil _ _ _ _ _ | exact Kd.Q_nil _ _ _ _ _ | exact Kd.S_nil _ _ _ _ _⟩, ⟨by first | exact Kd.R_nil _ _ _ _ _ | exact Kd.N_nil _ _ _ _ _ | exact Kd.V_nil _ _ _ _ _ | exact Kd.Q_nil _ _ _ _ _ | exact Kd.S_nil _ _ _ _ _⟩, ⟨bw HB⟩⟩
 case round =>
  clear H'
  (try clear p2)
  obtain ⟨x1_1, x7_1, x8_1, x16_1, rfl, rfl, HA, HK1, HO_7, HO_8, HB⟩ := hrel
  cases gk with
  | zero => exact absurd HA.out (by simp [spec_weTick.l0])
  | succ k1 =>
   have H := HA.out
   clear HA
   simp only [spec_weTick.l0] at H
   by_cases c3 : x16_1 < (l0.length : Int)
   rotate_left
   ·rw [if_neg c3] at H
    have c3b0 : decide (x16_1 < (l0.length : Int)) = false := decide_eq_false c3
    clear c3
    simp only [Option.some.injEq, Prod.mk.injEq] at H
    obtain ⟨rfl, rfl, rfl⟩ := H
    go_wp2
    go_ret3
    exact ⟨_, _, by first | rfl | (simp [errW_none, errW_some] <;> rfl) | (simp [*, errW_none, errW_some] <;> rfl), rk HO_7, rk HO_8, bw HB⟩
   rw [if_pos c3] at H
   have c3b0 : decide (x16_1 < (l0.length : Int)) = true := decide_eq_true c3
   clear c3
   by_cases c4 : 0 ≤ x16_1
   rotate_left
   ·rw [if_neg c4] at H
    exact absurd H (by simp)
   rw [if_pos c4] at H
   have c4b0 : decide (0 ≤ x16_1) = true := decide_eq_true c4
   clear c4
   by_cases c5 : x16_1 < (l0.length : Int)
   rotate_left
   ·rw [if_neg c5] at H
    exact absurd H (by simp)
   rw [if_pos c5] at H
   have c5b0 : decide (x16_1 < (l0.length : Int)) = true := decide_eq_true c5
   clear c5
   replace H := Option.bind_eq_some_iff.mp H
   obtain ⟨t353, A60, H⟩ := H
   (try dsimp only at H)
   have A6 := Aside0.mk A60
   clear A60
   replace H := Option.bind_eq_some_iff.mp H
   obtain ⟨t354, A70, H⟩ := H
   (try dsimp only at H)
   have A7 := Aside0.mk A70
   clear A70
   by_cases c8 : x7_1.length < 5864062014805
   rotate_left
   ·rw [if_neg c8] at H
    exact absurd H (by simp)
   rw [if_pos c8] at H
   have LMc8 := Aside0.mk c8
   clear c8
   obtain ⟨y355, hy355⟩ : ∃ y_ : List (S30), y_ = (x7_1 ++ [(⟨(rd_T30 l0 x16_1).f0, (rd_T30 l0 x16_1).f1, wrap64 ((wrap64 ((wrap64 (((rd_T30 l0 x16_1).f2) + x1_1)) - t353)) - t354)⟩ : S30)]) := ⟨_, rfl⟩
   replace H : (if x8_1.length < 17592186044416 then (spec_weTick.l0 k1 (wrap64 (t353 + t354)) y355 (x8_1 ++ [t353]) l0 (l0.length : Int) (wrap64 (x16_1 + 1))) else (none)) = some (r1, r2, r3) := by first | (rw [hy355]; with_reducible exact H) | (have H2_ := (Option.bind_some _ _).symm.trans H; rw [hy355]; with_reducible exact H2_) | (have H2_ := (Option.bind_some _ _).symm.trans H; with_reducible exact H2_) | with_reducible exact H | (rw [hy355]; exact H) | exact H
   have Ny355 := Aside0.mk hy355
   clear hy355
   by_cases c9 : x8_1.length < 17592186044416
   rotate_left
   ·rw [if_neg c9] at H
    exact absurd H (by simp)
   rw [if_pos c9] at H
   have LMc9 := Aside0.mk c9
   clear c9
   obtain ⟨y358, hy358⟩ : ∃ y_ : List Int, y_ = (x8_1 ++ [t353]) := ⟨_, rfl⟩
   replace H : (spec_weTick.l0 k1 (wrap64 (t353 + t354)) y355 y358 l0 (l0.length : Int) (wrap64 (x16_1 + 1))) = some (r1, r2, r3) := by first | (rw [hy358]; with_reducible exact H) | (have H2_ := (Option.bind_some _ _).symm.trans H; rw [hy358]; with_reducible exact H2_) | (have H2_ := (Option.bind_some _ _).symm.trans H; with_reducible exact H2_) | with_reducible exact H | (rw [hy358]; exact H) | exact H
   have Ny358 := Aside0.mk hy358
   clear hy358
   have H' := Aside0.mk H
   clear H
   have p351 : 0 ≤ (x16_1 : Int) := of_decide_eq_true ‹_›
   have q351 : x16_1 < (l0.length : Int) := of_decide_eq_true ‹_›
   obtain ⟨ad351, e351, hx351_0, hx351_1, hx351_2⟩ := at_T30 HR0.out x16_1 p351 q351
   cases e351
   (first | replace hx351_0 := (HB.out.cell (World.block_lt_of_cell? w _ hx351_0)).trans hx351_0 | skip)
   (first | replace hx351_1 := (HB.out.cell (World.block_lt_of_cell? w _ hx351_1)).trans hx351_1 | skip)
   (first | replace hx351_2 := (HB.out.cell (World.block_lt_of_cell? w _ hx351_2)).trans hx351_2 | skip)
   replace p351 := eq_true p351
   replace q351 := eq_true q351
   go_wp2_with (first | ((with_reducible refine gate_dst (N := 10) rfl ?_); refine bx 10 #[.int .i64 0, .int .i64 0, .int .i64 0] 30 ?_; intro gb352 hg w10 hbox hb; replace HO_7 := Aside0.mk (Kd.R_below (Kd.R_elderB (rk HO_7) gb352 (Nat.le_of_eq hg.symm)) hb); replace HO_8 := rb HO_8 hb; have BK352 := Aside0.mk (hbox); have GW352 := ge HB hg; have GE352 := ge HB hg; replace HB := bs HB hb; clear hb hbox hg; have hcz11_0 := bc0 BK352; have hcz11_1 := bc1 BK352; have hcz11_2 := bc2 BK352; have hfz11_0 := blk_frozen BK352.out 0; have hfz11_1 := blk_frozen BK352.out 1; have hfz11_2 := blk_frozen BK352.out 2) | ((with_reducible refine gate_callee (f := 65) rfl ?_); refine gl 28 Try.func65 #[.int .i64 0, .int .i64 (wrap64 ((wrap64 (((rd_T30 l0 x16_1).f2) + x1_1)) - ((rd_T30 l0 x16_1).f0)))] ?_; (with_reducible refine (spec_l1Most.calls 0 (wrap64 ((wrap64 (((rd_T30 l0 x16_1).f2) + x1_1)) - ((rd_T30 l0 x16_1).f0))) t353 _ A6.out).mono ?_); rintro e w' ⟨rfl, ⟨nd, rfl⟩⟩; refine ⟨_, rfl, ?_⟩) | ((with_reducible refine gate_callee (f := 78) rfl ?_); refine gl 34 Try.func78 #[.int .i64 (wrap64 ((wrap64 (((rd_T30 l0 x16_1).f2) + x1_1)) - t353)), .int .i64 ((rd_T30 l0 x16_1).f1)] ?_; (with_reducible refine (spec_l1Least.calls (wrap64 ((wrap64 (((rd_T30 l0 x16_1).f2) + x1_1)) - t353)) ((rd_T30 l0 x16_1).f1) t354 _ A7.out).mono ?_); rintro e w' ⟨rfl, ⟨nd, rfl⟩⟩; refine ⟨_, rfl, ?_⟩) | ((with_reducible refine gate_builtin (b := .append) (xs := #[.tmp 35, .tmp 46]) rfl ?_); at_builtin; refine Kd.R_append k30 (w0 := w) w.heap.size rfl (.tmp 35) (.tmp 46) 24 30 (.agg #[(.int .i64 0), (.int .i64 0), (.int .i64 0)]) 24 rfl Try.underlying24 info30 rfl (by decide) (by omega) u7 x7_1 (⟨(rd_T30 l0 x16_1).f0, (rd_T30 l0 x16_1).f1, wrap64 ((wrap64 ((wrap64 (((rd_T30 l0 x16_1).f2) + x1_1)) - t353)) - t354)⟩ : S30) [.int .i64 ((rd_T30 l0 x16_1).f0), .int .i64 ((rd_T30 l0 x16_1).f1), .int .i64 (wrap64 ((wrap64 ((wrap64 (((rd_T30 l0 x16_1).f2) + x1_1)) - t353)) - t354))] (fun k_ => k_ ≠ gb352) (fun _ => False) rfl (by first | (go_simp; done) | (go_simp; rfl)) ?aP (fun _ hk => hk.elim) ?aF ?aO ?aB ?aS ?aL ?_; (case aP => exact k30_mkM _ _ _ (⟨(rd_T30 l0 x16_1).f0, (rd_T30 l0 x16_1).f1, wrap64 ((wrap64 ((wrap64 (((rd_T30 l0 x16_1).f2) + x1_1)) - t353)) - t354)⟩ : S30)); (case aB => exact (bw HB)); (case aF => exact (fun k_ hk => Kd.freshB (g := gb352) (o := .cells #[.int .i64 ((rd_T30 l0 x16_1).f0), .int .i64 ((rd_T30 l0 x16_1).f1), .int .i64 ((rd_T30 l0 x16_1).f2)] 30 (0, 0)) (by refine blk_put (cs := #[.int .i64 ((rd_T30 l0 x16_1).f0), .int .i64 ((rd_T30 l0 x16_1).f1), .int .i64 0]) ?_ 2 _ rfl; refine blk_put (cs := #[.int .i64 ((rd_T30 l0 x16_1).f0), .int .i64 0, .int .i64 0]) ?_ 1 _ rfl; refine blk_put (cs := #[.int .i64 0, .int .i64 0, .int .i64 0]) ?_ 0 _ rfl; exact bk BK352) k_ hk)); (case aO => exact (by exact Kd.R_mono (Kd.R_far (p := ⟨gb352, 2, none⟩) (Kd.R_far (p := ⟨gb352, 1, none⟩) (Kd.R_far (p := ⟨gb352, 0, none⟩) (Kd.R_mono HO_7.out (fun k_ hk => (⟨hk, hk.2⟩ : _ ∧ k_ ≠ gb352))) (fun _ hk => hk.2) (.int .i64 ((rd_T30 l0 x16_1).f0))) (fun _ hk => hk.2) (.int .i64 ((rd_T30 l0 x16_1).f1))) (fun _ hk => hk.2) (.int .i64 ((rd_T30 l0 x16_1).f2))) (fun _ hk => hk.1.2))); (case aS => exact (below_size (bw HB))); (case aL => have := LMc8.out; omega); intro v356 w12 ho hb hg hat; rw [← Ny355.out] at ho; have n0_ := Aside0.mk (Kd.R_over' (by exact (Kd.R_mono (Kd.R_far (p := ⟨gb352, 2, none⟩) (Kd.R_far (p := ⟨gb352, 1, none⟩) (Kd.R_far (p := ⟨gb352, 0, none⟩) (Kd.R_types HO_8.out BK352.out (by decide)) (fun _ hk => hk.2) (.int .i64 ((rd_T30 l0 x16_1).f0))) (fun _ hk => hk.2) (.int .i64 ((rd_T30 l0 x16_1).f1))) (fun _ hk => hk.2) (.int .i64 ((rd_T30 l0 x16_1).f2))) (fun _ h_ => h_.1))) (Kd.R_typed (by exact (Kd.R_mono (Kd.R_far (p := ⟨gb352, 2, none⟩) (Kd.R_far (p := ⟨gb352, 1, none⟩) (Kd.R_far (p := ⟨gb352, 0, none⟩) (Kd.R_mono HO_7.out (fun k_ hk => (⟨hk, hk.2⟩ : _ ∧ k_ ≠ gb352))) (fun _ hk => hk.2) (.int .i64 ((rd_T30 l0 x16_1).f0))) (fun _ hk => hk.2) (.int .i64 ((rd_T30 l0 x16_1).f1))) (fun _ hk => hk.2) (.int .i64 ((rd_T30 l0 x16_1).f2))) (fun _ h_ => h_.1)))) (by decide) hg); have n1_ := Aside0.mk (blk_grown (g := gb352) (o := .cells #[.int .i64 ((rd_T30 l0 x16_1).f0), .int .i64 ((rd_T30 l0 x16_1).f1), .int .i64 ((rd_T30 l0 x16_1).f2)] 30 (0, 0)) (by refine blk_put (cs := #[.int .i64 ((rd_T30 l0 x16_1).f0), .int .i64 ((rd_T30 l0 x16_1).f1), .int .i64 0]) ?_ 2 _ rfl; refine blk_put (cs := #[.int .i64 ((rd_T30 l0 x16_1).f0), .int .i64 0, .int .i64 0]) ?_ 1 _ rfl; refine blk_put (cs := #[.int .i64 0, .int .i64 0, .int .i64 0]) ?_ 0 _ rfl; exact bk BK352) hg (Kd.R_away HO_7.out (fun _ hk => hk.2))); have n2_ := Aside0.mk (hb); have n3_ := Aside0.mk (ho); clear HO_8; clear BK352; clear HB; clear HO_7; have HO_8 := n0_; have BK352 := n1_; have HB := n2_; have HO357 := n3_; clear n0_ n1_ n2_ n3_; clear ho hb hg hat) | ((with_reducible refine gate_builtin (b := .append) (xs := #[.tmp 48, .tmp 50]) rfl ?_); at_builtin; refine Kd.R_append (Kd.int .i64) (w0 := w) w.heap.size rfl (.tmp 48) (.tmp 50) 33 3 (.int .i64 0) 8 rfl Try.underlying33 info3 rfl (by decide) (by omega) u8 x8_1 t353 [.int .i64 t353] (fun _ => True) (fun _ => False) rfl rfl ?aP (fun _ hk => hk.elim) ?aF ?aO ?aB ?aS ?aL ?_; (case aP => exact rfl); (case aB => exact (bw HB)); (case aF => exact (fun _ _ => trivial)); (case aO => exact (rk HO_8)); (case aS => exact (below_size (bw HB))); (case aL => have := LMc9.out; omega); intro v359 w13 ho hb hg hat; rw [← Ny358.out] at ho; have n0_ := Aside0.mk (blk_grown (g := gb352) (o := .cells #[.int .i64 ((rd_T30 l0 x16_1).f0), .int .i64 ((rd_T30 l0 x16_1).f1), .int .i64 ((rd_T30 l0 x16_1).f2)] 30 (0, 0)) (bk BK352) hg (Kd.R_ne HO_8.out BK352.out (by decide))); have n1_ := Aside0.mk (Kd.R_over' (rk HO357) (Kd.R_typed (rk HO_8)) (by decide) hg); have n2_ := Aside0.mk (hb); have n3_ := Aside0.mk (ho); clear BK352; clear HO357; clear HB; clear HO_8; have BK352 := n0_; have HO357 := n1_; have HB := n2_; have HO360 := n3_; clear n0_ n1_ n2_ n3_; clear ho hb hg hat))
   go_roundg k1
   case measure => have := HK1.out; omega
   case rel => exact ⟨(wrap64 (t353 + t354)), (y355), (y358), (wrap64 (x16_1 + 1)), (by first | rfl | (simp; done) | (simp [*]; done)), (by first | rfl | (simp; done) | (simp [*]; done)), H', ⟨by have := HK1.out; omega⟩, ⟨by exact Kd.R_mono HO357.out (fun _ hk => trivial)⟩, ⟨rk HO360⟩, ⟨bw HB⟩⟩
def spec_weGo.l0 : Nat → List Int → Int → Int → List Int → List (S30) → List (List Int) → List (List (S30)) → Option (List Int × (List (S30)) × (List (List Int)) × (List (List (S30))))
 | 0, _, _, _, _, _, _, _ => none
 | k + 1, x15, x16, x17, x369000, x369001, x369002, x369003 => if x17 < x16 then (if 0 ≤ x17 then (if x17 < (x15.length : Int) then ((spec_weTick.f k x369001 (rd x15 x17)).bind fun bt370 => ((impl_Basin_63.f bt370.1).bind fun t377 => (if x369000.length < 17592186044416 then (if x369002.length < 5864062014805 then (if x369003.length < 5864062014805 then (spec_weGo.l0 k x15 x16 (wrap64 (x17 + 1)) (x369000 ++ [bt370.2.1]) t377 (x369002 ++ [bt370.2.2]) (x369003 ++ [bt370.1])) else (none)) else (none)) else (none)))) else (none)) else (none)) else (some (x369000, x369001, x369002, x369003))
def spec_weGo.f (k : Nat) (l0 : List (S30)) (l1 : List Int) : Option (List Int × (List (S30)) × (List (List Int)) × (List (List (S30)))) := (some (([] : List (S30)) : List (S30))).bind fun y362 => (if y362.length + l0.length < 5864062014805 then (spec_weGo.l0 k l1 (l1.length : Int) 0 ([] : List Int) (y362 ++ l0) ([] : List (List Int)) ([] : List (List (S30)))) else (none))
set_option maxHeartbeats 8000000 in
set_option maxRecDepth 100000 in
theorem spec_weGo.calls (k : Nat) (A0 : Option Addr) (c0 : Nat) (l0 : List (S30)) (A1 : Option Addr) (c1 : Nat) (l1 : List Int) (r1 : List Int) (r2 : List (S30)) (r3 : List (List Int)) (r4 : List (List (S30))) (w : World) (hr0 : Kd.C k30 w A0 l0.length l0) (hc0 : l0.length ≤ c0) (hr1 : Kd.C (Kd.int .i64) w A1 l1.length l1) (hc1 : l1.length ≤ c1) (h : spec_weGo.f k l0 l1 = some (r1, r2, r3, r4)) :
  Calls Try.prog 66 #[.slice A0 l0.length c0, .slice A1 l1.length c1] w fun e w' => ∃ v0_ v1_ v2_ v3_ : Value, e = .returned (.agg #[v0_, v1_, v2_, v3_]) ∧ Kd.R (Kd.int .i64) 3 w' w.heap.size (fun _ => True) v0_ r1 ∧ Kd.R k30 30 w' w.heap.size (fun _ => True) v1_ r2 ∧ Kd.S (Kd.slice 3 (Kd.int .i64)) 33 w' w.heap.size (fun k_ => some k_ ≠ (v0_ : Value).ownBlock) v2_ r3 ∧ Kd.S (Kd.slice 30 k30) 24 w' w.heap.size (fun k_ => some k_ ≠ (.slice none 0 0 : Value).ownBlock) v3_ r4 ∧ Below w.heap.size w w' := by
 have hu78 := Try.underlying78
 have HR0 := Aside0.mk hr0
 have HC0 := Aside0.mk hc0
 clear hr0 hc0
 have HR1 := Aside0.mk hr1
 have HC1 := Aside0.mk hc1
 clear hr1 hc1
 have HB := Aside0.mk (Below.refl w.heap.size w)
 have H : ((some (([] : List (S30)) : List (S30))).bind fun y362 => (if y362.length + l0.length < 5864062014805 then (spec_weGo.l0 k l1 (l1.length : Int) 0 ([] : List Int) (y362 ++ l0) ([] : List (List Int)) ([] : List (List (S30)))) else (none))) = some (r1, r2, r3, r4) := h
 clear h
 obtain ⟨y362, hy362⟩ : ∃ y_ : List (S30), y_ = (([] : List (S30))) := ⟨_, rfl⟩
 replace H : (if y362.length + l0.length < 5864062014805 then (spec_weGo.l0 k l1 (l1.length : Int) 0 ([] : List Int) (y362 ++ l0) ([] : List (List Int)) ([] : List (List (S30)))) else (none)) = some (r1, r2, r3, r4) := by first | (rw [hy362]; with_reducible exact H) | (have H2_ := (Option.bind_some _ _).symm.trans H; rw [hy362]; with_reducible exact H2_) | (have H2_ := (Option.bind_some _ _).symm.trans H; with_reducible exact H2_) | with_reducible exact H | (rw [hy362]; exact H) | exact H
 have Ny362 := Aside0.mk hy362
 clear hy362
 by_cases c3 : y362.length + l0.length < 5864062014805
 rotate_left
 ·rw [if_neg c3] at H
  exact absurd H (by simp)
 rw [if_pos c3] at H
 have LMc3 := Aside0.mk c3
 clear c3
 obtain ⟨y365, hy365⟩ : ∃ y_ : List (S30), y_ = (y362 ++ l0) := ⟨_, rfl⟩
 replace H : (spec_weGo.l0 k l1 (l1.length : Int) 0 ([] : List Int) y365 ([] : List (List Int)) ([] : List (List (S30)))) = some (r1, r2, r3, r4) := by first | (rw [hy365]; with_reducible exact H) | (have H2_ := (Option.bind_some _ _).symm.trans H; rw [hy365]; with_reducible exact H2_) | (have H2_ := (Option.bind_some _ _).symm.trans H; with_reducible exact H2_) | with_reducible exact H | (rw [hy365]; exact H) | exact H
 have Ny365 := Aside0.mk hy365
 clear hy365
 have H' := Aside0.mk H
 clear H
 go_enter Try.func66, Try.ntmps66
 go_wp2_with (first | ((with_reducible refine gate_dst (N := 4) rfl ?_); refine bx 4 #[.slice none 0 0, .slice none 0 0, .slice none 0 0, .slice none 0 0] 78 ?_; intro gb361 hg w4 hbox hb; have BK361 := Aside0.mk (hbox); have GW361 := ge HB hg; have GE361 := ge HB hg; replace HB := bs HB hb; clear hb hbox hg) | ((with_reducible refine gate_dst (N := 11) rfl ?_); refine Kd.R_lit k30 _ 30 ?hg (N := 11) ?hd (xs := ([] : List (S30))) (inner := []) (ok := fun _ => True) (okp := fun _ => True) ?hr ?hp (fun _ hk => hk) trivial (Below.refl _ _) (Nat.le_refl _) (by simp) ?_; (case hd => rfl); (case hg => rfl); (case hr => first | (go_simp; done) | (go_simp; rfl)); (case hp => exact (Reps.none _ _)); intro v363 w5 ho6 hb hg_ hnew_; clear hg_ hnew_; (first | rw [← Ny362.out] at ho6 | (simp only [Int.reduceToNat] at ho6; rw [← Ny362.out] at ho6)); have HO364 := lo ho6 HB; replace BK361 := bb BK361 hb; replace HB := bs HB hb; clear hb ho6) | ((with_reducible refine gate_builtin (b := .append) (xs := #[.tmp 11, .tmp 12]) rfl ?_); at_builtin; refine Kd.R_append_rows k30 (w0 := w) w.heap.size rfl (.tmp 11) (.tmp 12) 24 30 (.agg #[(.int .i64 0), (.int .i64 0), (.int .i64 0)]) 24 rfl Try.underlying24 info30 rfl (by decide) (by omega) v363 y362 l0 _ _ _ (fun _ => True) (fun _ => False) rfl rfl ?aO ?aR (fun _ _ h => h) (fun _ h => h.elim) ?aF ?aB ?aS ?aL ?_; (case aR => exact ck HR0 HB); (case aB => exact (bw HB)); (case aF => exact (fun _ _ => trivial)); (case aO => exact (rk HO364)); (case aS => exact (below_size (bw HB))); (case aL => have := LMc3.out; omega); intro v366 w7 ho hb hg hat; rw [← Ny365.out] at ho; have n0_ := Aside0.mk (blk_grown (g := gb361) (o := .cells #[.slice none 0 0, .slice none 0 0, .slice none 0 0, .slice none 0 0] 78 (0, 0)) (bk BK361) hg (Kd.R_ne HO364.out BK361.out (by decide))); have n1_ := Aside0.mk (hb); have n2_ := Aside0.mk (ho); clear BK361; clear HB; clear HO364; have BK361 := n0_; have HB := n1_; have HO367 := n2_; clear n0_ n1_ n2_; clear ho hb hg hat; obtain ⟨Ao8, co8, eo8⟩ := Kd.R_slice HO367.out; subst eo8) | ((with_reducible refine gate_dst (N := 5) rfl ?_); refine bx 5 #[.slice none 0 0, .slice none 0 0, .slice none 0 0, .slice none 0 0] 78 ?_; intro gb368 hg w9 hbox hb; replace HO367 := rb HO367 hb; have BK368 := Aside0.mk (hbox); have GW368 := ge HB hg; have GE368 := ge HB hg; replace HB := bs HB hb; have NB361_368 := nl BK361 hg; have NB368_361 := nr BK361 hg; replace BK361 := bb BK361 hb; clear hb hbox hg; have hnb10 := NB368_361.out; have hnc10 := NB361_368.out; have hcz11_0 := bc0 BK368; have hcz11_1 := bc1 BK368; have hcz11_2 := bc2 BK368; have hcz11_3 := bc3 BK368; have hfz11_0 := blk_frozen BK368.out 0; have hfz11_1 := blk_frozen BK368.out 1; have hfz11_2 := blk_frozen BK368.out 2; have hfz11_3 := blk_frozen BK368.out 3))
 try simp only [Act.put, List.setIfInBounds_toArray, List.set_cons_zero, List.set_cons_succ]
 go_loopg [17] k (fun kq v17 w' => ∃ (x17_1 : Int) (x369000_1 : List Int) (x369001_1 : List (S30)) (x369002_1 : List (List Int)) (x369003_1 : List (List (S30))) (u369000 : Value) (u369001 : Value) (u369002 : Value) (u369003 : Value), v17 = .int .i64 x17_1 ∧ Aside0 (spec_weGo.l0 kq l1 (l1.length : Int) x17_1 x369000_1 x369001_1 x369002_1 x369003_1 = some (r1, r2, r3, r4)) ∧ Aside0 (kq ≤ k) ∧ Aside0 (Kd.R (Kd.int .i64) 3 w' w.heap.size (fun _ => True) u369000 x369000_1) ∧ Aside0 (Kd.R k30 30 w' w.heap.size (fun _ => True) u369001 x369001_1) ∧ Aside0 (Kd.S (Kd.slice 3 (Kd.int .i64)) 33 w' w.heap.size (fun k_ => some k_ ≠ (u369000 : Value).ownBlock) u369002 x369002_1) ∧ Aside0 (Kd.S (Kd.slice 30 k30) 24 w' w.heap.size (fun k_ => some k_ ≠ (.slice none 0 0 : Value).ownBlock) u369003 x369003_1) ∧ Aside0 (w'.heap[gb361]? = some (.cells #[(.slice none 0 0), (.slice none 0 0), (.slice none 0 0), (.slice none 0 0)] 78 (0, 0))) ∧ Aside0 (w'.heap[gb368]? = some (.cells #[u369000, u369001, u369002, u369003] 78 (0, 0))) ∧ Aside0 (Below w.heap.size w w'))
 case atStart => exact ⟨(0), (([] : List Int)), (y365), (([] : List (List Int))), (([] : List (List (S30)))), (.slice none 0 0), (.slice Ao8 y365.length co8), (.slice none 0 0), (.slice none 0 0), (by first | rfl | (simp; done) | (simp [*]; done)), H', ⟨Nat.le_refl _⟩, ⟨by first | exact Kd.R_nil _ _ _ _ _ | exact Kd.N_nil _ _ _ _ _ | exact Kd.V_nil _ _ _ _ _ | exact Kd.Q_nil _ _ _ _ _ | exact Kd.S_nil _ _ _ _ _⟩, ⟨by exact Kd.R_mono (Kd.R_far (p := ⟨gb368, 3, none⟩) (Kd.R_far (p := ⟨gb368, 2, none⟩) (Kd.R_far (p := ⟨gb368, 1, none⟩) (Kd.R_far (p := ⟨gb368, 0, none⟩) (Kd.R_types HO367.out BK368.out (by decide)) (fun _ hk => hk.2) (.slice none 0 0)) (fun _ hk => hk.2) (.slice Ao8 y365.length co8)) (fun _ hk => hk.2) (.slice none 0 0)) (fun _ hk => hk.2) (.slice none 0 0)) (fun _ hk => trivial)⟩, ⟨by first | exact Kd.S_nil _ _ _ _ _ | exact Kd.N_nil _ _ _ _ _ | exact Kd.V_nil _ _ _ _ _ | exact Kd.Q_nil _ _ _ _ _ | exact Kd.R_nil _ _ _ _ _⟩, ⟨by first | exact Kd.S_nil _ _ _ _ _ | exact Kd.N_nil _ _ _ _ _ | exact Kd.V_nil _ _ _ _ _ | exact Kd.Q_nil _ _ _ _ _ | exact Kd.R_nil _ _ _ _ _⟩, ⟨bk BK361⟩, ⟨by refine blk_put (cs := #[.slice none 0 0, .slice Ao8 y365.length co8, .slice none 0 0, .slice none 0 0]) ?_ 3 _ rfl; refine blk_put (cs := #[.slice none 0 0, .slice Ao8 y365.length co8, .slice none 0 0, .slice none 0 0]) ?_ 2 _ rfl; refine blk_put (cs := #[.slice none 0 0, .slice none 0 0, .slice none 0 0, .slice none 0 0]) ?_ 1 _ rfl; refine blk_put (cs := #[.slice none 0 0, .slice none 0 0, .slice none 0 0, .slice none 0 0]) ?_ 0 _ rfl; exact bk BK368⟩, ⟨bw HB⟩⟩
 case round =>
  clear H'
  (try clear c1); (try clear p2); (try clear c3); (try clear c6); (try clear c10); (try clear hcz11_0); (try clear hcz11_1); (try clear hcz11_2); (try clear hcz11_3); (try clear hfz11_0); (try clear hfz11_1); (try clear hfz11_2); (try clear hfz11_3)
  obtain ⟨x17_1, x369000_1, x369001_1, x369002_1, x369003_1, u369000, u369001, u369002, u369003, rfl, HA, HK1, HO_369000, HO_369001, HO_369002, HO_369003, BK361, BK368, HB⟩ := hrel
  cases gk with
  | zero => exact absurd HA.out (by simp [spec_weGo.l0])
  | succ k1 =>
   have H := HA.out
   clear HA
   simp only [spec_weGo.l0] at H
   by_cases c12 : x17_1 < (l1.length : Int)
   rotate_left
   ·rw [if_neg c12] at H
    have c12b0 : decide (x17_1 < (l1.length : Int)) = false := decide_eq_false c12
    clear c12
    simp only [Option.some.injEq, Prod.mk.injEq] at H
    obtain ⟨rfl, rfl, rfl, rfl⟩ := H
    have hnb42 := NB368_361.out
    have hnc42 := NB361_368.out
    have hcz43_0 := bc0 BK368
    have hcz43_1 := bc1 BK368
    have hcz43_2 := bc2 BK368
    have hcz43_3 := bc3 BK368
    have hfz43_0 := blk_frozen BK368.out 0
    have hfz43_1 := blk_frozen BK368.out 1
    have hfz43_2 := blk_frozen BK368.out 2
    have hfz43_3 := blk_frozen BK368.out 3
    obtain ⟨Ao44, co44, eo44⟩ := Kd.R_slice HO_369000.out
    subst eo44
    have hcz45_0 := bc0 BK361
    have hcz45_1 := bc1 BK361
    have hcz45_2 := bc2 BK361
    have hcz45_3 := bc3 BK361
    have hfz45_0 := blk_frozen BK361.out 0
    have hfz45_1 := blk_frozen BK361.out 1
    have hfz45_2 := blk_frozen BK361.out 2
    have hfz45_3 := blk_frozen BK361.out 3
    obtain ⟨Ao46, co46, eo46⟩ := Kd.R_slice HO_369001.out
    subst eo46
    obtain ⟨Ao47, co47, eo47⟩ := Kd.S_slice HO_369002.out
    subst eo47
    obtain ⟨Ao48, co48, eo48⟩ := Kd.S_slice HO_369003.out
    subst eo48
    go_wp2
    refine bodyPost_ret (results_cell_row rfl _ _ gb361 78 #[.slice Ao44 x369000_1.length co44, .slice Ao46 x369001_1.length co46, .slice Ao47 x369002_1.length co47, .slice Ao48 x369003_1.length co48] (0, 0) _ rfl (by refine blk_put (cs := #[.slice Ao44 x369000_1.length co44, .slice Ao46 x369001_1.length co46, .slice Ao47 x369002_1.length co47, .slice none 0 0]) ?_ 3 _ rfl; refine blk_put (cs := #[.slice Ao44 x369000_1.length co44, .slice Ao46 x369001_1.length co46, .slice none 0 0, .slice none 0 0]) ?_ 2 _ rfl; refine blk_put (cs := #[.slice Ao44 x369000_1.length co44, .slice none 0 0, .slice none 0 0, .slice none 0 0]) ?_ 1 _ rfl; refine blk_put (cs := #[.slice none 0 0, .slice none 0 0, .slice none 0 0, .slice none 0 0]) ?_ 0 _ rfl; exact bk BK361) Try.underlying78 rfl (by kernel_rfl)) rfl ?_
    exact ⟨_, _, _, _, by first | rfl | (simp [errW_none, errW_some] <;> rfl) | (simp [*, errW_none, errW_some] <;> rfl), by exact Kd.R_mono (Kd.R_far (p := ⟨gb361, 3, none⟩) (Kd.R_far (p := ⟨gb361, 2, none⟩) (Kd.R_far (p := ⟨gb361, 1, none⟩) (Kd.R_far (p := ⟨gb361, 0, none⟩) (Kd.R_types HO_369000.out BK361.out (by decide)) (fun _ hk => hk.2) (.slice Ao44 x369000_1.length co44)) (fun _ hk => hk.2) (.slice Ao46 x369001_1.length co46)) (fun _ hk => hk.2) (.slice Ao47 x369002_1.length co47)) (fun _ hk => hk.2) (.slice Ao48 x369003_1.length co48)) (fun _ hk => trivial), by exact Kd.R_mono (Kd.R_far (p := ⟨gb361, 3, none⟩) (Kd.R_far (p := ⟨gb361, 2, none⟩) (Kd.R_far (p := ⟨gb361, 1, none⟩) (Kd.R_far (p := ⟨gb361, 0, none⟩) (Kd.R_types HO_369001.out BK361.out (by decide)) (fun _ hk => hk.2) (.slice Ao44 x369000_1.length co44)) (fun _ hk => hk.2) (.slice Ao46 x369001_1.length co46)) (fun _ hk => hk.2) (.slice Ao47 x369002_1.length co47)) (fun _ hk => hk.2) (.slice Ao48 x369003_1.length co48)) (fun _ hk => trivial), by (with_reducible repeat (first | apply Kd.S_alloc | apply Kd.S_drewN | apply Kd.S_drew)); exact Kd.S_mono (Kd.S_far (p := ⟨gb361, 3, none⟩) (Kd.S_far (p := ⟨gb361, 2, none⟩) (Kd.S_far (p := ⟨gb361, 1, none⟩) (Kd.S_far (p := ⟨gb361, 0, none⟩) (Kd.S_types HO_369002.out BK361.out (by decide)) (fun _ hk => hk.2) (.slice Ao44 x369000_1.length co44)) (fun _ hk => hk.2) (.slice Ao46 x369001_1.length co46)) (fun _ hk => hk.2) (.slice Ao47 x369002_1.length co47)) (fun _ hk => hk.2) (.slice Ao48 x369003_1.length co48)) (fun _ hk => hk.1), by (with_reducible repeat (first | apply Kd.S_alloc | apply Kd.S_drewN | apply Kd.S_drew)); exact Kd.S_mono (Kd.S_far (p := ⟨gb361, 3, none⟩) (Kd.S_far (p := ⟨gb361, 2, none⟩) (Kd.S_far (p := ⟨gb361, 1, none⟩) (Kd.S_far (p := ⟨gb361, 0, none⟩) (Kd.S_types HO_369003.out BK361.out (by decide)) (fun _ hk => hk.2) (.slice Ao44 x369000_1.length co44)) (fun _ hk => hk.2) (.slice Ao46 x369001_1.length co46)) (fun _ hk => hk.2) (.slice Ao47 x369002_1.length co47)) (fun _ hk => hk.2) (.slice Ao48 x369003_1.length co48)) (fun _ hk => hk.1), bw HB⟩
   rw [if_pos c12] at H
   have c12b0 : decide (x17_1 < (l1.length : Int)) = true := decide_eq_true c12
   clear c12
   by_cases c13 : 0 ≤ x17_1
   rotate_left
   ·rw [if_neg c13] at H
    exact absurd H (by simp)
   rw [if_pos c13] at H
   have c13b0 : decide (0 ≤ x17_1) = true := decide_eq_true c13
   clear c13
   by_cases c14 : x17_1 < (l1.length : Int)
   rotate_left
   ·rw [if_neg c14] at H
    exact absurd H (by simp)
   rw [if_pos c14] at H
   have c14b0 : decide (x17_1 < (l1.length : Int)) = true := decide_eq_true c14
   clear c14
   replace H := Option.bind_eq_some_iff.mp H
   obtain ⟨⟨t370, t371, t372⟩, A150, H⟩ := H
   (try dsimp only at H)
   have A15 := Aside0.mk A150
   clear A150
   replace H := Option.bind_eq_some_iff.mp H
   obtain ⟨t377, A160, H⟩ := H
   (try dsimp only at H)
   have A16 := Aside0.mk A160
   clear A160
   have e_ : t370 = t377 := by
    have h_ := A16.out
    unfold impl_Basin_63.f at h_
    split at h_
    · exact Option.some.inj h_
    · cases h_
   subst e_
   by_cases c17 : x369000_1.length < 17592186044416
   rotate_left
   ·rw [if_neg c17] at H
    exact absurd H (by simp)
   rw [if_pos c17] at H
   have LMc17 := Aside0.mk c17
   clear c17
   obtain ⟨y380, hy380⟩ : ∃ y_ : List Int, y_ = (x369000_1 ++ [t371]) := ⟨_, rfl⟩
   replace H : (if x369002_1.length < 5864062014805 then (if x369003_1.length < 5864062014805 then (spec_weGo.l0 k1 l1 (l1.length : Int) (wrap64 (x17_1 + 1)) y380 t370 (x369002_1 ++ [t372]) (x369003_1 ++ [t370])) else (none)) else (none)) = some (r1, r2, r3, r4) := by first | (rw [hy380]; with_reducible exact H) | (have H2_ := (Option.bind_some _ _).symm.trans H; rw [hy380]; with_reducible exact H2_) | (have H2_ := (Option.bind_some _ _).symm.trans H; with_reducible exact H2_) | with_reducible exact H | (rw [hy380]; exact H) | exact H
   have Ny380 := Aside0.mk hy380
   clear hy380
   by_cases c18 : x369002_1.length < 5864062014805
   rotate_left
   ·rw [if_neg c18] at H
    exact absurd H (by simp)
   rw [if_pos c18] at H
   have LMc18 := Aside0.mk c18
   clear c18
   obtain ⟨y383, hy383⟩ : ∃ y_ : List (List Int), y_ = (x369002_1 ++ [t372]) := ⟨_, rfl⟩
   replace H : (if x369003_1.length < 5864062014805 then (spec_weGo.l0 k1 l1 (l1.length : Int) (wrap64 (x17_1 + 1)) y380 t370 y383 (x369003_1 ++ [t370])) else (none)) = some (r1, r2, r3, r4) := by first | (rw [hy383]; with_reducible exact H) | (have H2_ := (Option.bind_some _ _).symm.trans H; rw [hy383]; with_reducible exact H2_) | (have H2_ := (Option.bind_some _ _).symm.trans H; with_reducible exact H2_) | with_reducible exact H | (rw [hy383]; exact H) | exact H
   have Ny383 := Aside0.mk hy383
   clear hy383
   by_cases c19 : x369003_1.length < 5864062014805
   rotate_left
   ·rw [if_neg c19] at H
    exact absurd H (by simp)
   rw [if_pos c19] at H
   have LMc19 := Aside0.mk c19
   clear c19
   obtain ⟨y386, hy386⟩ : ∃ y_ : List (List (S30)), y_ = (x369003_1 ++ [t370]) := ⟨_, rfl⟩
   replace H : (spec_weGo.l0 k1 l1 (l1.length : Int) (wrap64 (x17_1 + 1)) y380 t370 y383 y386) = some (r1, r2, r3, r4) := by first | (rw [hy386]; with_reducible exact H) | (have H2_ := (Option.bind_some _ _).symm.trans H; rw [hy386]; with_reducible exact H2_) | (have H2_ := (Option.bind_some _ _).symm.trans H; with_reducible exact H2_) | with_reducible exact H | (rw [hy386]; exact H) | exact H
   have Ny386 := Aside0.mk hy386
   clear hy386
   have H' := Aside0.mk H
   clear H
   have p369 : 0 ≤ (x17_1 : Int) := of_decide_eq_true ‹_›
   have q369 : x17_1 < (l1.length : Int) := of_decide_eq_true ‹_›
   obtain ⟨ad369, e369, hx369_0⟩ := Kd.at_int HR1.out x17_1 p369 q369
   cases e369
   (first | replace hx369_0 := (HB.out.cell (World.block_lt_of_cell? w _ hx369_0)).trans hx369_0 | skip)
   replace p369 := eq_true p369
   replace q369 := eq_true q369
   have hnb20 := NB368_361.out
   have hnc20 := NB361_368.out
   have hcz21_0 := bc0 BK368
   have hcz21_1 := bc1 BK368
   have hcz21_2 := bc2 BK368
   have hcz21_3 := bc3 BK368
   have hfz21_0 := blk_frozen BK368.out 0
   have hfz21_1 := blk_frozen BK368.out 1
   have hfz21_2 := blk_frozen BK368.out 2
   have hfz21_3 := blk_frozen BK368.out 3
   obtain ⟨Ao22, co22, eo22⟩ := Kd.R_slice HO_369001.out
   subst eo22
   go_wp2_with (first | ((with_reducible refine gate_callee (f := 53) rfl ?_); refine gl 25 Try.func53 #[.slice Ao22 x369001_1.length co22, .int .i64 (rd l1 x17_1)] ?_; (with_reducible refine (spec_weTick.calls k1 _ _ x369001_1 (rd l1 x17_1) t370 t371 t372 _ ?side1 ?side2 A15.out).mono ?_); (case side1 => exact cr HO_369001); (case side2 => exact (Kd.R_reads' HO_369001.out).2.1); rintro e w23 ⟨v373, v375, rfl, ho0, ho1, hb⟩; refine ⟨_, rfl, ?_⟩; replace HO_369002 := Aside0.mk (Kd.S_elder' (by (with_reducible repeat (first | apply Kd.S_alloc | apply Kd.S_drewN | apply Kd.S_drew)); exact HO_369002.out) (Kd.R_base ho1) hb); replace HO_369003 := Aside0.mk (Kd.S_elder' (by (with_reducible repeat (first | apply Kd.S_alloc | apply Kd.S_drewN | apply Kd.S_drew)); exact HO_369003.out) (Kd.R_base ho0) hb); replace HO_369003 := Aside0.mk (Kd.S_mono (ok' := fun k_ => (some k_ ≠ (.slice none 0 0 : Value).ownBlock ∧ some k_ ≠ (v373 : Value).ownBlock) ∧ some k_ ≠ (.slice none 0 0 : Value).ownBlock) HO_369003.out (fun _ hk => ⟨hk, by simp [Value.ownBlock]⟩)); have HO374 := Aside0.mk (Kd.R_lower (Kd.R_mono (ok' := (fun k_ => (True ∧ some k_ ≠ (.slice none 0 0 : Value).ownBlock) ∧ some k_ ≠ (.slice none 0 0 : Value).ownBlock)) ho0 (fun _ _ => ⟨⟨trivial, by simp [Value.ownBlock]⟩, by simp [Value.ownBlock]⟩)) (below_size (bw HB))); replace HO_369001 := Aside0.mk (Kd.R_elder' (rk HO_369001) (Kd.R_base ho0) hb); replace HO_369001 := Aside0.mk (Kd.R_mono (ok' := fun k_ => (True ∧ some k_ ≠ (v373 : Value).ownBlock) ∧ some k_ ≠ (.slice none 0 0 : Value).ownBlock) HO_369001.out (fun _ hk => ⟨hk, by simp [Value.ownBlock]⟩)); have HO376 := Aside0.mk (Kd.R_lower (Kd.R_new' ho1 (Kd.R_lt (rk HO_369000))) (below_size (bw HB))); replace HO_369000 := Aside0.mk (Kd.R_elder' (rk HO_369000) (Kd.R_base ho1) hb); replace BK361 := bb BK361 hb; replace BK368 := bb BK368 hb; replace HB := bs HB hb; (try clear hb); (try clear ho0); (try clear ho1); obtain ⟨Ao24, co24, eo24⟩ := Kd.R_slice HO374.out; subst eo24; have HO379 := HO374; have hcz27_0 := bc0 BK368; have hcz27_1 := bc1 BK368; have hcz27_2 := bc2 BK368; have hcz27_3 := bc3 BK368; have hfz27_0 := blk_frozen BK368.out 0; have hfz27_1 := blk_frozen BK368.out 1; have hfz27_2 := blk_frozen BK368.out 2; have hfz27_3 := blk_frozen BK368.out 3) | ((with_reducible refine gate_builtin (b := .append) (xs := #[.tmp 32, .tmp 34]) rfl ?_); at_builtin; refine Kd.R_append (Kd.int .i64) (w0 := w) w.heap.size rfl (.tmp 32) (.tmp 34) 33 3 (.int .i64 0) 8 rfl Try.underlying33 info3 rfl (by decide) (by omega) u369000 x369000_1 t371 [.int .i64 t371] (fun k_ => some k_ ≠ (v375 : Value).ownBlock) (fun _ => False) rfl (by first | (go_simp; done) | (go_simp; rfl)) ?aP (fun _ hk => hk.elim) ?aF ?aO ?aB ?aS ?aL ?_; (case aP => exact rfl); (case aB => exact (bw HB)); (case aF => exact (fun k_ hk => Kd.fresh' (Kd.R_lt (by exact (Kd.R_mono (Kd.R_far (p := ⟨gb368, 1, none⟩) (Kd.R_types HO376.out BK368.out (by decide)) (fun _ hk => hk.2) (.slice Ao24 t370.length co24)) (fun _ h_ => h_.1)))) k_ hk)); (case aO => exact (by exact Kd.R_mono (Kd.R_far (p := ⟨gb368, 1, none⟩) (Kd.R_types HO_369000.out BK368.out (by decide)) (fun _ hk => hk.2) (.slice Ao24 t370.length co24)) (fun _ hk => hk.1.2))); (case aS => exact (below_size (bw HB))); (case aL => have := LMc17.out; omega); intro v381 w28 ho hb hg hat; rw [← Ny380.out] at ho; have n0_ := Aside0.mk (Kd.R_over' (by exact (Kd.R_mono (Kd.R_far (p := ⟨gb368, 1, none⟩) (Kd.R_types HO_369001.out BK368.out (by decide)) (fun _ hk => hk.2) (.slice Ao24 t370.length co24)) (fun _ h_ => h_.1))) (Kd.R_typed (by exact (Kd.R_mono (Kd.R_far (p := ⟨gb368, 1, none⟩) (Kd.R_types HO_369000.out BK368.out (by decide)) (fun _ hk => hk.2) (.slice Ao24 t370.length co24)) (fun _ h_ => h_.1)))) (by decide) hg); have n1_ := Aside0.mk (Kd.S_after (ok := (fun k_ => some k_ ≠ (v375 : Value).ownBlock)) (by (with_reducible repeat (first | apply Kd.S_alloc | apply Kd.S_drewN | apply Kd.S_drew)); exact Kd.S_mono (Kd.S_far (p := ⟨gb368, 1, none⟩) (Kd.S_types HO_369002.out BK368.out (by decide)) (fun _ hk => hk.2) (.slice Ao24 t370.length co24)) (fun _ hk => ⟨hk.1.2, hk.1.1⟩)) hg hat); have n2_ := Aside0.mk (Kd.S_over' (by (with_reducible repeat (first | apply Kd.S_alloc | apply Kd.S_drewN | apply Kd.S_drew)); exact (Kd.S_mono (Kd.S_far (p := ⟨gb368, 1, none⟩) (Kd.S_types HO_369003.out BK368.out (by decide)) (fun _ hk => hk.2) (.slice Ao24 t370.length co24)) (fun _ h_ => h_.1))) (Kd.R_typed (by exact (Kd.R_mono (Kd.R_far (p := ⟨gb368, 1, none⟩) (Kd.R_types HO_369000.out BK368.out (by decide)) (fun _ hk => hk.2) (.slice Ao24 t370.length co24)) (fun _ h_ => h_.1)))) (by decide) hg); have n3_ := Aside0.mk (blk_grown (g := gb361) (o := .cells #[.slice none 0 0, .slice none 0 0, .slice none 0 0, .slice none 0 0] 78 (0, 0)) (bk BK361) hg (Kd.R_ne HO_369000.out BK361.out (by decide))); have n4_ := Aside0.mk (blk_grown (g := gb368) (o := .cells #[u369000, .slice Ao24 t370.length co24, u369002, u369003] 78 (0, 0)) (by refine blk_put (cs := #[u369000, .slice Ao22 x369001_1.length co22, u369002, u369003]) ?_ 1 _ rfl; exact bk BK368) hg (Kd.R_ne HO_369000.out BK368.out (by decide))); have n5_ := Aside0.mk (Kd.R_over' (by exact (Kd.R_mono (Kd.R_far (p := ⟨gb368, 1, none⟩) (Kd.R_types HO374.out BK368.out (by decide)) (fun _ hk => hk.2) (.slice Ao24 t370.length co24)) (fun _ h_ => h_.1))) (Kd.R_typed (by exact (Kd.R_mono (Kd.R_far (p := ⟨gb368, 1, none⟩) (Kd.R_types HO_369000.out BK368.out (by decide)) (fun _ hk => hk.2) (.slice Ao24 t370.length co24)) (fun _ h_ => h_.1)))) (by decide) hg); have n6_ := Aside0.mk (Kd.R_after (ok := (fun _ => True)) (by exact Kd.R_mono (Kd.R_far (p := ⟨gb368, 1, none⟩) (Kd.R_types HO376.out BK368.out (by decide)) (fun _ hk => hk.2) (.slice Ao24 t370.length co24)) (fun _ hk => ⟨trivial, hk.1.2⟩)) hg hat); have n7_ := Aside0.mk (Kd.R_over' (by exact (Kd.R_mono (Kd.R_far (p := ⟨gb368, 1, none⟩) (Kd.R_types HO379.out BK368.out (by decide)) (fun _ hk => hk.2) (.slice Ao24 t370.length co24)) (fun _ h_ => h_.1))) (Kd.R_typed (by exact (Kd.R_mono (Kd.R_far (p := ⟨gb368, 1, none⟩) (Kd.R_types HO_369000.out BK368.out (by decide)) (fun _ hk => hk.2) (.slice Ao24 t370.length co24)) (fun _ h_ => h_.1)))) (by decide) hg); have n8_ := Aside0.mk (hb); have n9_ := Aside0.mk (ho); clear HO_369001; clear HO_369002; clear HO_369003; clear BK361; clear BK368; clear HO374; clear HO376; clear HO379; clear HB; clear HO_369000; have HO_369001 := n0_; have HO_369002 := n1_; have HO_369003 := n2_; have BK361 := n3_; have BK368 := n4_; have HO374 := n5_; have HO376 := n6_; have HO379 := n7_; have HB := n8_; have HO382 := n9_; clear n0_ n1_ n2_ n3_ n4_ n5_ n6_ n7_ n8_ n9_; clear ho hb hg hat; obtain ⟨Ao29, co29, eo29⟩ := Kd.R_slice HO382.out; subst eo29; have hcz30_0 := bc0 BK368; have hcz30_1 := bc1 BK368; have hcz30_2 := bc2 BK368; have hcz30_3 := bc3 BK368; have hfz30_0 := blk_frozen BK368.out 0; have hfz30_1 := blk_frozen BK368.out 1; have hfz30_2 := blk_frozen BK368.out 2; have hfz30_3 := blk_frozen BK368.out 3) | ((with_reducible refine gate_store (t := 33) (p := 36) rfl ?_); refine store_event (t := 33) (p := 36) (v := ?vo_w31) (w1 := (w28.setCell ⟨gb368, 0, none⟩ (.slice Ao29 y380.length co29))) ?hg ?ho ?hn ?hr ?_; (case ho => rfl); (case hg => rfl); (case hn => rfl); (case hr => first | (go_simp; done) | (go_simp; rfl)); intro w31 hw; have n0_ : Aside0 (Kd.R k30 30 w31 w.heap.size (fun k_ => some k_ ≠ (.slice Ao24 t370.length co24 : Value).ownBlock ∧ some k_ ≠ (.slice none 0 0 : Value).ownBlock) (.slice Ao22 x369001_1.length co22) x369001_1) := ⟨(by rw [hw]; exact (by exact Kd.R_mono (Kd.R_far (p := ⟨gb368, 0, none⟩) (Kd.R_types HO_369001.out BK368.out (by decide)) (fun _ hk => hk.2) (.slice Ao29 y380.length co29)) (fun _ hk => ⟨hk.1.1.2, hk.1.2⟩)))⟩; have n1_ : Aside0 (Kd.S (Kd.slice 3 (Kd.int .i64)) 33 w31 w.heap.size (fun k_ => some k_ ≠ (v375 : Value).ownBlock ∧ some k_ ≠ (.slice Ao29 y380.length co29 : Value).ownBlock) u369002 x369002_1) := ⟨(by rw [hw]; exact (by (with_reducible repeat (first | apply Kd.S_alloc | apply Kd.S_drewN | apply Kd.S_drew)); exact Kd.S_mono (Kd.S_far (p := ⟨gb368, 0, none⟩) (Kd.S_types HO_369002.out BK368.out (by decide)) (fun _ hk => hk.2) (.slice Ao29 y380.length co29)) (fun _ hk => ⟨hk.1.1, hk.1.2⟩)))⟩; have n2_ : Aside0 (Kd.S (Kd.slice 30 k30) 24 w31 w.heap.size (fun k_ => some k_ ≠ (.slice none 0 0 : Value).ownBlock ∧ some k_ ≠ (.slice Ao24 t370.length co24 : Value).ownBlock ∧ some k_ ≠ (.slice none 0 0 : Value).ownBlock) u369003 x369003_1) := ⟨(by rw [hw]; exact (by (with_reducible repeat (first | apply Kd.S_alloc | apply Kd.S_drewN | apply Kd.S_drew)); exact Kd.S_mono (Kd.S_far (p := ⟨gb368, 0, none⟩) (Kd.S_types HO_369003.out BK368.out (by decide)) (fun _ hk => hk.2) (.slice Ao29 y380.length co29)) (fun _ hk => ⟨hk.1.1.1, ⟨hk.1.1.2, hk.1.2⟩⟩)))⟩; have n3_ : Aside0 (Kd.R k30 30 w31 w.heap.size (fun k_ => some k_ ≠ (.slice none 0 0 : Value).ownBlock ∧ some k_ ≠ (.slice none 0 0 : Value).ownBlock) (.slice Ao24 t370.length co24) t370) := ⟨(by rw [hw]; exact (by exact Kd.R_mono (Kd.R_far (p := ⟨gb368, 0, none⟩) (Kd.R_types HO374.out BK368.out (by decide)) (fun _ hk => hk.2) (.slice Ao29 y380.length co29)) (fun _ hk => ⟨hk.1.1.2, hk.1.2⟩)))⟩; have n4_ : Aside0 (Kd.R (Kd.int .i64) 3 w31 w.heap.size (fun k_ => some k_ ≠ (.slice Ao29 y380.length co29 : Value).ownBlock) v375 t372) := ⟨(by rw [hw]; exact (by exact Kd.R_mono (Kd.R_far (p := ⟨gb368, 0, none⟩) (Kd.R_types HO376.out BK368.out (by decide)) (fun _ hk => hk.2) (.slice Ao29 y380.length co29)) (fun _ hk => hk.1.2)))⟩; have n5_ : Aside0 (Kd.R k30 30 w31 w.heap.size (fun k_ => some k_ ≠ (.slice none 0 0 : Value).ownBlock ∧ some k_ ≠ (.slice none 0 0 : Value).ownBlock) (.slice Ao24 t370.length co24) t370) := ⟨(by rw [hw]; exact (by exact Kd.R_mono (Kd.R_far (p := ⟨gb368, 0, none⟩) (Kd.R_types HO379.out BK368.out (by decide)) (fun _ hk => hk.2) (.slice Ao29 y380.length co29)) (fun _ hk => ⟨hk.1.1.2, hk.1.2⟩)))⟩; have n6_ : Aside0 (Kd.R (Kd.int .i64) 3 w31 w.heap.size (fun k_ => some k_ ≠ (v375 : Value).ownBlock) (.slice Ao29 y380.length co29) y380) := ⟨(by rw [hw]; exact (by exact Kd.R_mono (Kd.R_far (p := ⟨gb368, 0, none⟩) (Kd.R_types HO382.out BK368.out (by decide)) (fun _ hk => hk.2) (.slice Ao29 y380.length co29)) (fun _ hk => hk.1)))⟩; have n7_ : Aside0 (w31.heap[gb361]? = some (.cells #[.slice none 0 0, .slice none 0 0, .slice none 0 0, .slice none 0 0] 78 (0, 0))) := ⟨(by rw [hw]; exact (bk BK361))⟩; have n8_ : Aside0 (w31.heap[gb368]? = some (.cells #[.slice Ao29 y380.length co29, .slice Ao24 t370.length co24, u369002, u369003] 78 (0, 0))) := ⟨(by rw [hw]; exact (by refine blk_put (cs := #[u369000, .slice Ao24 t370.length co24, u369002, u369003]) ?_ 0 _ rfl; exact bk BK368))⟩; have n9_ : Aside0 (Below w.heap.size w w31) := ⟨(by rw [hw]; exact (bw HB))⟩; clear hw; clear HO_369001; clear HO_369002; clear HO_369003; clear HO374; clear HO376; clear HO379; clear HO382; clear BK361; clear BK368; clear HB; have HO_369001 := n0_; have HO_369002 := n1_; have HO_369003 := n2_; have HO374 := n3_; have HO376 := n4_; have HO379 := n5_; have HO382 := n6_; have BK361 := n7_; have BK368 := n8_; have HB := n9_; clear n0_ n1_ n2_ n3_ n4_ n5_ n6_ n7_ n8_ n9_; have hcz32_0 := bc0 BK368; have hcz32_1 := bc1 BK368; have hcz32_2 := bc2 BK368; have hcz32_3 := bc3 BK368; have hfz32_0 := blk_frozen BK368.out 0; have hfz32_1 := blk_frozen BK368.out 1; have hfz32_2 := blk_frozen BK368.out 2; have hfz32_3 := blk_frozen BK368.out 3; obtain ⟨Ao34, co34, eo34⟩ := Kd.R_slice HO376.out; subst eo34) | ((with_reducible refine gate_builtin (b := .append) (xs := #[.tmp 38, .tmp 40]) rfl ?_); at_builtin; refine Kd.S_append (Kd.slice 3 (Kd.int .i64)) (w0 := w) w.heap.size rfl (.tmp 38) (.tmp 40) 69 33 (.slice none 0 0) 24 rfl Try.underlying69 info33 rfl (by decide) (by omega) u369002 x369002_1 t372 [.slice Ao34 t372.length co34] (fun k_ => some k_ ≠ (.slice Ao29 y380.length co29 : Value).ownBlock) (fun k_ => some k_ = (.slice Ao34 t372.length co34 : Value).ownBlock) rfl rfl ?aP (fun k_ hk_ => ((Kd.R_mono (ok' := fun k_ => ((fun k_ => some k_ ≠ (.slice Ao29 y380.length co29 : Value).ownBlock)) k_ ∧ some k_ ≠ (u369002 : Value).ownBlock) (Kd.R_apart' (HO376.out) (Kd.S_typed HO_369002.out) (by decide)) (fun k_ hk => ⟨hk.1, hk.2⟩))).1 k_ hk_.symm) ?aF ?aO ?aB ?aS ?aL ?_; (case aP => exact Kd.M_row (Kd.R_mono (Kd.R_tight rfl (Kd.R_mono (ok' := fun k_ => ((fun k_ => some k_ ≠ (.slice Ao29 y380.length co29 : Value).ownBlock)) k_ ∧ some k_ ≠ (u369002 : Value).ownBlock) (Kd.R_apart' (HO376.out) (Kd.S_typed HO_369002.out) (by decide)) (fun k_ hk => ⟨hk.1, hk.2⟩))) (fun _ h_ => h_))); (case aB => exact (bw HB)); (case aF => exact (fun k_ hk => Kd.fresh' (Kd.R_lt (rk HO382)) k_ hk)); (case aO => exact (by (with_reducible repeat (first | apply Kd.S_alloc | apply Kd.S_drewN | apply Kd.S_drew)); exact Kd.S_mono HO_369002.out (fun k_ hk => ⟨hk.2, fun e_ => hk.1 e_⟩))); (case aS => exact (below_size (bw HB))); (case aL => have := LMc18.out; omega); intro v384 w33 ho hb hg hat; rw [← Ny383.out] at ho; have n0_ := Aside0.mk (Kd.R_over' (rk HO_369001) (Kd.S_typed (by (with_reducible repeat (first | apply Kd.S_alloc | apply Kd.S_drewN | apply Kd.S_drew)); exact HO_369002.out)) (by decide) hg); have n1_ := Aside0.mk (Kd.S_over' (by (with_reducible repeat (first | apply Kd.S_alloc | apply Kd.S_drewN | apply Kd.S_drew)); exact HO_369003.out) (Kd.S_typed (by (with_reducible repeat (first | apply Kd.S_alloc | apply Kd.S_drewN | apply Kd.S_drew)); exact HO_369002.out)) (by decide) hg); have n2_ := Aside0.mk (blk_grown (g := gb361) (o := .cells #[.slice none 0 0, .slice none 0 0, .slice none 0 0, .slice none 0 0] 78 (0, 0)) (bk BK361) hg (Kd.S_ne HO_369002.out BK361.out (by decide))); have n3_ := Aside0.mk (blk_grown (g := gb368) (o := .cells #[.slice Ao29 y380.length co29, .slice Ao24 t370.length co24, u369002, u369003] 78 (0, 0)) (bk BK368) hg (Kd.S_ne HO_369002.out BK368.out (by decide))); have n4_ := Aside0.mk (Kd.R_over' (rk HO374) (Kd.S_typed (by (with_reducible repeat (first | apply Kd.S_alloc | apply Kd.S_drewN | apply Kd.S_drew)); exact HO_369002.out)) (by decide) hg); have n5_ := Aside0.mk (Kd.R_over' (rk HO379) (Kd.S_typed (by (with_reducible repeat (first | apply Kd.S_alloc | apply Kd.S_drewN | apply Kd.S_drew)); exact HO_369002.out)) (by decide) hg); have n6_ := Aside0.mk (Kd.R_over' (rk HO382) (Kd.S_typed (by (with_reducible repeat (first | apply Kd.S_alloc | apply Kd.S_drewN | apply Kd.S_drew)); exact HO_369002.out)) (by decide) hg); have n7_ := Aside0.mk (hb); have n8_ := Aside0.mk (ho); clear HO_369001; clear HO_369003; clear BK361; clear BK368; clear HO374; clear HO379; clear HO382; clear HB; clear HO_369002; clear HO376; have HO_369001 := n0_; have HO_369003 := n1_; have BK361 := n2_; have BK368 := n3_; have HO374 := n4_; have HO379 := n5_; have HO382 := n6_; have HB := n7_; have HO385 := n8_; clear n0_ n1_ n2_ n3_ n4_ n5_ n6_ n7_ n8_; clear ho hb hg hat; obtain ⟨Ao35, co35, eo35⟩ := Kd.S_slice HO385.out; subst eo35; have hcz36_0 := bc0 BK368; have hcz36_1 := bc1 BK368; have hcz36_2 := bc2 BK368; have hcz36_3 := bc3 BK368; have hfz36_0 := blk_frozen BK368.out 0; have hfz36_1 := blk_frozen BK368.out 1; have hfz36_2 := blk_frozen BK368.out 2; have hfz36_3 := blk_frozen BK368.out 3) | ((with_reducible refine gate_store (t := 69) (p := 42) rfl ?_); refine store_event (t := 69) (p := 42) (v := ?vo_w37) (w1 := (w33.setCell ⟨gb368, 2, none⟩ (.slice Ao35 y383.length co35))) ?hg ?ho ?hn ?hr ?_; (case ho => rfl); (case hg => rfl); (case hn => rfl); (case hr => first | (go_simp; done) | (go_simp; rfl)); intro w37 hw; have n0_ : Aside0 (Kd.R k30 30 w37 w.heap.size (fun k_ => some k_ ≠ (.slice Ao24 t370.length co24 : Value).ownBlock ∧ some k_ ≠ (.slice none 0 0 : Value).ownBlock) (.slice Ao22 x369001_1.length co22) x369001_1) := ⟨(by rw [hw]; exact (by exact Kd.R_mono (Kd.R_far (p := ⟨gb368, 2, none⟩) (Kd.R_types HO_369001.out BK368.out (by decide)) (fun _ hk => hk.2) (.slice Ao35 y383.length co35)) (fun _ hk => ⟨hk.1.1, hk.1.2⟩)))⟩; have n1_ : Aside0 (Kd.S (Kd.slice 30 k30) 24 w37 w.heap.size (fun k_ => some k_ ≠ (.slice none 0 0 : Value).ownBlock ∧ some k_ ≠ (.slice Ao24 t370.length co24 : Value).ownBlock ∧ some k_ ≠ (.slice none 0 0 : Value).ownBlock) u369003 x369003_1) := ⟨(by rw [hw]; exact (by (with_reducible repeat (first | apply Kd.S_alloc | apply Kd.S_drewN | apply Kd.S_drew)); exact Kd.S_mono (Kd.S_far (p := ⟨gb368, 2, none⟩) (Kd.S_types HO_369003.out BK368.out (by decide)) (fun _ hk => hk.2) (.slice Ao35 y383.length co35)) (fun _ hk => ⟨hk.1.1, ⟨hk.1.2.1, hk.1.2.2⟩⟩)))⟩; have n2_ : Aside0 (Kd.R k30 30 w37 w.heap.size (fun k_ => some k_ ≠ (.slice none 0 0 : Value).ownBlock ∧ some k_ ≠ (.slice none 0 0 : Value).ownBlock) (.slice Ao24 t370.length co24) t370) := ⟨(by rw [hw]; exact (by exact Kd.R_mono (Kd.R_far (p := ⟨gb368, 2, none⟩) (Kd.R_types HO374.out BK368.out (by decide)) (fun _ hk => hk.2) (.slice Ao35 y383.length co35)) (fun _ hk => ⟨hk.1.1, hk.1.2⟩)))⟩; have n3_ : Aside0 (Kd.R k30 30 w37 w.heap.size (fun k_ => some k_ ≠ (.slice none 0 0 : Value).ownBlock ∧ some k_ ≠ (.slice none 0 0 : Value).ownBlock) (.slice Ao24 t370.length co24) t370) := ⟨(by rw [hw]; exact (by exact Kd.R_mono (Kd.R_far (p := ⟨gb368, 2, none⟩) (Kd.R_types HO379.out BK368.out (by decide)) (fun _ hk => hk.2) (.slice Ao35 y383.length co35)) (fun _ hk => ⟨hk.1.1, hk.1.2⟩)))⟩; have n4_ : Aside0 (Kd.R (Kd.int .i64) 3 w37 w.heap.size (fun _ => True) (.slice Ao29 y380.length co29) y380) := ⟨(by rw [hw]; exact (by exact Kd.R_mono (Kd.R_far (p := ⟨gb368, 2, none⟩) (Kd.R_types HO382.out BK368.out (by decide)) (fun _ hk => hk.2) (.slice Ao35 y383.length co35)) (fun _ hk => trivial)))⟩; have n5_ : Aside0 (Kd.S (Kd.slice 3 (Kd.int .i64)) 33 w37 w.heap.size (fun k_ => some k_ ≠ (.slice Ao29 y380.length co29 : Value).ownBlock) (.slice Ao35 y383.length co35) y383) := ⟨(by rw [hw]; exact (by (with_reducible repeat (first | apply Kd.S_alloc | apply Kd.S_drewN | apply Kd.S_drew)); exact Kd.S_mono (Kd.S_far (p := ⟨gb368, 2, none⟩) (Kd.S_types HO385.out BK368.out (by decide)) (fun _ hk => hk.2) (.slice Ao35 y383.length co35)) (fun _ hk => hk.1)))⟩; have n6_ : Aside0 (w37.heap[gb361]? = some (.cells #[.slice none 0 0, .slice none 0 0, .slice none 0 0, .slice none 0 0] 78 (0, 0))) := ⟨(by rw [hw]; exact (bk BK361))⟩; have n7_ : Aside0 (w37.heap[gb368]? = some (.cells #[.slice Ao29 y380.length co29, .slice Ao24 t370.length co24, .slice Ao35 y383.length co35, u369003] 78 (0, 0))) := ⟨(by rw [hw]; exact (by refine blk_put (cs := #[.slice Ao29 y380.length co29, .slice Ao24 t370.length co24, u369002, u369003]) ?_ 2 _ rfl; exact bk BK368))⟩; have n8_ : Aside0 (Below w.heap.size w w37) := ⟨(by rw [hw]; exact (bw HB))⟩; clear hw; clear HO_369001; clear HO_369003; clear HO374; clear HO379; clear HO382; clear HO385; clear BK361; clear BK368; clear HB; have HO_369001 := n0_; have HO_369003 := n1_; have HO374 := n2_; have HO379 := n3_; have HO382 := n4_; have HO385 := n5_; have BK361 := n6_; have BK368 := n7_; have HB := n8_; clear n0_ n1_ n2_ n3_ n4_ n5_ n6_ n7_ n8_; have hcz38_0 := bc0 BK368; have hcz38_1 := bc1 BK368; have hcz38_2 := bc2 BK368; have hcz38_3 := bc3 BK368; have hfz38_0 := blk_frozen BK368.out 0; have hfz38_1 := blk_frozen BK368.out 1; have hfz38_2 := blk_frozen BK368.out 2; have hfz38_3 := blk_frozen BK368.out 3) | ((with_reducible refine gate_builtin (b := .append) (xs := #[.tmp 44, .tmp 46]) rfl ?_); at_builtin; refine Kd.S_append (Kd.slice 30 k30) (w0 := w) w.heap.size rfl (.tmp 44) (.tmp 46) 68 24 (.slice none 0 0) 24 rfl Try.underlying68 info24 rfl (by decide) (by omega) u369003 x369003_1 t370 [.slice Ao24 t370.length co24] (fun k_ => some k_ ≠ (.slice none 0 0 : Value).ownBlock ∧ some k_ ≠ (.slice none 0 0 : Value).ownBlock) (fun k_ => some k_ = (.slice Ao24 t370.length co24 : Value).ownBlock) rfl rfl ?aP (fun k_ hk_ => ((Kd.R_mono (ok' := fun k_ => ((fun k_ => some k_ ≠ (.slice none 0 0 : Value).ownBlock ∧ some k_ ≠ (.slice none 0 0 : Value).ownBlock)) k_ ∧ some k_ ≠ (u369003 : Value).ownBlock) (Kd.R_apart' (HO374.out) (Kd.S_typed HO_369003.out) (by decide)) (fun k_ hk => ⟨⟨hk.1.1, hk.1.2⟩, hk.2⟩))).1 k_ hk_.symm) ?aF ?aO ?aB ?aS ?aL ?_; (case aP => exact Kd.M_row (Kd.R_mono (Kd.R_tight rfl (Kd.R_mono (ok' := fun k_ => ((fun k_ => some k_ ≠ (.slice none 0 0 : Value).ownBlock ∧ some k_ ≠ (.slice none 0 0 : Value).ownBlock)) k_ ∧ some k_ ≠ (u369003 : Value).ownBlock) (Kd.R_apart' (HO374.out) (Kd.S_typed HO_369003.out) (by decide)) (fun k_ hk => ⟨⟨hk.1.1, hk.1.2⟩, hk.2⟩))) (fun _ h_ => h_))); (case aB => exact (bw HB)); (case aF => exact (fun k_ hk => ⟨by simp [Value.ownBlock], by simp [Value.ownBlock]⟩)); (case aO => exact (by (with_reducible repeat (first | apply Kd.S_alloc | apply Kd.S_drewN | apply Kd.S_drew)); exact Kd.S_mono HO_369003.out (fun k_ hk => ⟨⟨hk.1, hk.2.2⟩, fun e_ => hk.2.1 e_⟩))); (case aS => exact (below_size (bw HB))); (case aL => have := LMc19.out; omega); intro v387 w39 ho hb hg hat; rw [← Ny386.out] at ho; have n0_ := Aside0.mk (Kd.R_over' (rk HO_369001) (Kd.S_typed (by (with_reducible repeat (first | apply Kd.S_alloc | apply Kd.S_drewN | apply Kd.S_drew)); exact HO_369003.out)) (by decide) hg); have n1_ := Aside0.mk (blk_grown (g := gb361) (o := .cells #[.slice none 0 0, .slice none 0 0, .slice none 0 0, .slice none 0 0] 78 (0, 0)) (bk BK361) hg (Kd.S_ne HO_369003.out BK361.out (by decide))); have n2_ := Aside0.mk (blk_grown (g := gb368) (o := .cells #[.slice Ao29 y380.length co29, .slice Ao24 t370.length co24, .slice Ao35 y383.length co35, u369003] 78 (0, 0)) (bk BK368) hg (Kd.S_ne HO_369003.out BK368.out (by decide))); have n3_ := Aside0.mk (Kd.R_over' (rk HO379) (Kd.S_typed (by (with_reducible repeat (first | apply Kd.S_alloc | apply Kd.S_drewN | apply Kd.S_drew)); exact HO_369003.out)) (by decide) hg); have n4_ := Aside0.mk (Kd.R_over' (rk HO382) (Kd.S_typed (by (with_reducible repeat (first | apply Kd.S_alloc | apply Kd.S_drewN | apply Kd.S_drew)); exact HO_369003.out)) (by decide) hg); have n5_ := Aside0.mk (Kd.S_over' (by (with_reducible repeat (first | apply Kd.S_alloc | apply Kd.S_drewN | apply Kd.S_drew)); exact HO385.out) (Kd.S_typed (by (with_reducible repeat (first | apply Kd.S_alloc | apply Kd.S_drewN | apply Kd.S_drew)); exact HO_369003.out)) (by decide) hg); have n6_ := Aside0.mk (hb); have n7_ := Aside0.mk (ho); clear HO_369001; clear BK361; clear BK368; clear HO379; clear HO382; clear HO385; clear HB; clear HO_369003; clear HO374; have HO_369001 := n0_; have BK361 := n1_; have BK368 := n2_; have HO379 := n3_; have HO382 := n4_; have HO385 := n5_; have HB := n6_; have HO388 := n7_; clear n0_ n1_ n2_ n3_ n4_ n5_ n6_ n7_; clear ho hb hg hat; obtain ⟨Ao40, co40, eo40⟩ := Kd.S_slice HO388.out; subst eo40; have hcz41_0 := bc0 BK368; have hcz41_1 := bc1 BK368; have hcz41_2 := bc2 BK368; have hcz41_3 := bc3 BK368; have hfz41_0 := blk_frozen BK368.out 0; have hfz41_1 := blk_frozen BK368.out 1; have hfz41_2 := blk_frozen BK368.out 2; have hfz41_3 := blk_frozen BK368.out 3))
   go_roundg k1
   case measure => have := HK1.out; omega
   case rel => exact ⟨(wrap64 (x17_1 + 1)), (y380), (t370), (y383), (y386), (.slice Ao29 y380.length co29), (.slice Ao24 t370.length co24), (.slice Ao35 y383.length co35), (.slice Ao40 y386.length co40), (by first | rfl | (simp; done) | (simp [*]; done)), H', ⟨by have := HK1.out; omega⟩, ⟨by exact Kd.R_mono (Kd.R_far (p := ⟨gb368, 3, none⟩) (Kd.R_types HO382.out BK368.out (by decide)) (fun _ hk => hk.2) (.slice Ao40 y386.length co40)) (fun _ hk => trivial)⟩, ⟨by exact Kd.R_mono (Kd.R_far (p := ⟨gb368, 3, none⟩) (Kd.R_types HO379.out BK368.out (by decide)) (fun _ hk => hk.2) (.slice Ao40 y386.length co40)) (fun _ hk => trivial)⟩, ⟨by (with_reducible repeat (first | apply Kd.S_alloc | apply Kd.S_drewN | apply Kd.S_drew)); exact Kd.S_mono (Kd.S_far (p := ⟨gb368, 3, none⟩) (Kd.S_types HO385.out BK368.out (by decide)) (fun _ hk => hk.2) (.slice Ao40 y386.length co40)) (fun _ hk => hk.1)⟩, ⟨by (with_reducible repeat (first | apply Kd.S_alloc | apply Kd.S_drewN | apply Kd.S_drew)); exact Kd.S_mono (Kd.S_far (p := ⟨gb368, 3, none⟩) (Kd.S_types HO388.out BK368.out (by decide)) (fun _ hk => hk.2) (.slice Ao40 y386.length co40)) (fun _ hk => hk.1.2)⟩, ⟨bk BK361⟩, ⟨by refine blk_put (cs := #[.slice Ao29 y380.length co29, .slice Ao24 t370.length co24, .slice Ao35 y383.length co35, u369003]) ?_ 3 _ rfl; exact bk BK368⟩, ⟨bw HB⟩⟩
def spec_weHeld.l0 : Nat → Int → List (S30) → Int → Int → Option (Int)
 | 0, _, _, _, _ => none
 | k + 1, x3, x6, x7, x8 => if x8 < x7 then (if 0 ≤ x8 then (if x8 < (x6.length : Int) then (spec_weHeld.l0 k (wrap64 (x3 + ((rd_T30 x6 x8).f2))) x6 x7 (wrap64 (x8 + 1))) else (none)) else (none)) else (some x3)
def spec_weHeld.f (k : Nat) (l0 : List (S30)) : Option (Int) := spec_weHeld.l0 k 0 l0 (l0.length : Int) 0
set_option maxHeartbeats 8000000 in
set_option maxRecDepth 100000 in
theorem spec_weHeld.calls (k : Nat) (A0 : Option Addr) (c0 : Nat) (l0 : List (S30)) (r : Int) (w : World) (hr0 : Kd.C k30 w A0 l0.length l0) (hc0 : l0.length ≤ c0) (h : spec_weHeld.f k l0 = some r) :
  Calls Try.prog 52 #[.slice A0 l0.length c0] w fun e w' => e = .returned (.int .i64 r) ∧ Below w.heap.size w w' := by
 have hu30 := Try.underlying30
 have HR0 := Aside0.mk hr0
 have HC0 := Aside0.mk hc0
 clear hr0 hc0
 have HB := Aside0.mk (Below.refl w.heap.size w)
 have H : (spec_weHeld.l0 k 0 l0 (l0.length : Int) 0) = some r := h
 clear h
 have H' := Aside0.mk H
 clear H
 go_enter Try.func52, Try.ntmps52
 go_wp2
 try simp only [Act.put, List.setIfInBounds_toArray, List.set_cons_zero, List.set_cons_succ]
 go_loopg [3, 8] k (fun kq v3 v8 w' => ∃ (x3_1 : Int) (x8_1 : Int), v3 = .int .i64 x3_1 ∧ v8 = .int .i64 x8_1 ∧ Aside0 (spec_weHeld.l0 kq x3_1 l0 (l0.length : Int) x8_1 = some r) ∧ Aside0 (kq ≤ k) ∧ Aside0 (Below w.heap.size w w'))
 case atStart => exact ⟨(0), (0), (by first | rfl | (simp; done) | (simp [*]; done)), (by first | rfl | (simp; done) | (simp [*]; done)), H', ⟨Nat.le_refl _⟩, ⟨bw HB⟩⟩
 case round =>
  clear H'
  obtain ⟨x3_1, x8_1, rfl, rfl, HA, HK1, HB⟩ := hrel
  cases gk with
  | zero => exact absurd HA.out (by simp [spec_weHeld.l0])
  | succ k1 =>
   have H := HA.out
   clear HA
   simp only [spec_weHeld.l0] at H
   by_cases c2 : x8_1 < (l0.length : Int)
   rotate_left
   ·rw [if_neg c2] at H
    have c2b0 : decide (x8_1 < (l0.length : Int)) = false := decide_eq_false c2
    clear c2
    obtain rfl := Option.some.inj H
    go_wp2
    go_ret
    exact ⟨by first | rfl | (simp [errW_none, errW_some] <;> rfl) | (simp [*, errW_none, errW_some] <;> rfl), bw HB⟩
   rw [if_pos c2] at H
   have c2b0 : decide (x8_1 < (l0.length : Int)) = true := decide_eq_true c2
   clear c2
   by_cases c3 : 0 ≤ x8_1
   rotate_left
   ·rw [if_neg c3] at H
    exact absurd H (by simp)
   rw [if_pos c3] at H
   have c3b0 : decide (0 ≤ x8_1) = true := decide_eq_true c3
   clear c3
   by_cases c4 : x8_1 < (l0.length : Int)
   rotate_left
   ·rw [if_neg c4] at H
    exact absurd H (by simp)
   rw [if_pos c4] at H
   have c4b0 : decide (x8_1 < (l0.length : Int)) = true := decide_eq_true c4
   clear c4
   have H' := Aside0.mk H
   clear H
   have p502 : 0 ≤ (x8_1 : Int) := of_decide_eq_true ‹_›
   have q502 : x8_1 < (l0.length : Int) := of_decide_eq_true ‹_›
   obtain ⟨ad502, e502, hx502_0, hx502_1, hx502_2⟩ := at_T30 HR0.out x8_1 p502 q502
   cases e502
   (first | replace hx502_0 := (HB.out.cell (World.block_lt_of_cell? w _ hx502_0)).trans hx502_0 | skip)
   (first | replace hx502_1 := (HB.out.cell (World.block_lt_of_cell? w _ hx502_1)).trans hx502_1 | skip)
   (first | replace hx502_2 := (HB.out.cell (World.block_lt_of_cell? w _ hx502_2)).trans hx502_2 | skip)
   replace p502 := eq_true p502
   replace q502 := eq_true q502
   go_wp2_with (first | ((with_reducible refine gate_dst (N := 5) rfl ?_); refine bx 5 #[.int .i64 0, .int .i64 0, .int .i64 0] 30 ?_; intro gb503 hg w5 hbox hb; have BK503 := Aside0.mk (hbox); have GW503 := ge HB hg; have GE503 := ge HB hg; replace HB := bs HB hb; clear hb hbox hg; have hcz6_0 := bc0 BK503; have hcz6_1 := bc1 BK503; have hcz6_2 := bc2 BK503; have hfz6_0 := blk_frozen BK503.out 0; have hfz6_1 := blk_frozen BK503.out 1; have hfz6_2 := blk_frozen BK503.out 2))
   go_roundg k1
   case measure => have := HK1.out; omega
   case rel => exact ⟨(wrap64 (x3_1 + ((rd_T30 l0 x8_1).f2))), (wrap64 (x8_1 + 1)), (by first | rfl | (simp; done) | (simp [*]; done)), (by first | rfl | (simp; done) | (simp [*]; done)), H', ⟨by have := HK1.out; omega⟩, ⟨bw HB⟩⟩
end Go.Proofs.Ytflbcikfphfkdaa.R
