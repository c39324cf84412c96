-- Functions of the program as plain functions, and that the calls come to them. Written by a program (ownprint.py); nothing here is trusted: Lean checks it.
import Derived.Test.YtflbcikfphfkdaaQbRx0
namespace Go.Proofs.Ytflbcikfphfkdaa.R
open Go.RowKit Go.Proofs.YtflbcikfphfkdaaW.PrintWords Go.Proofs.YtflbcikfphfkdaaW.PrintLast Go.Proofs.YtflbcikfphfkdaaW.PrintMore Go.Proofs.Ytflbcikfphfkdaa.Sq
attribute [local go_sem] max2_int min2_int max_two min_two max_three min_three max_four min_four   -- for this text's walks alone
set_option linter.unusedVariables false
set_option linter.unusedSimpArgs false
def laws_big.f (l0 : List Int) (l1 : List Int) : Option (Bool) := if (l0.length : Int) > 1048576 then (some true) else (some (decide ((l1.length : Int) > (wrap64 (1048576 - (l0.length : Int))))))
set_option maxHeartbeats 8000000 in
set_option maxRecDepth 100000 in
theorem laws_big.calls (A0 : Option Addr) (c0 : Nat) (l0 : List Int) (A1 : Option Addr) (c1 : Nat) (l1 : List Int) (r : Bool) (w : World) (hr0 : Kd.C (Kd.int .u8) w A0 l0.length l0) (hc0 : l0.length ≤ c0) (hr1 : Kd.C (Kd.int .u8) w A1 l1.length l1) (hc1 : l1.length ≤ c1) (h : laws_big.f l0 l1 = some r) :
  Calls Try.prog 5 #[.slice A0 l0.length c0, .slice A1 l1.length c1] w fun e w' => e = .returned (.bool r) ∧ Drawn0 w w' := by
 have HR0 := Aside0.mk hr0
 have HC0 := Aside0.mk hc0
 clear hr0 hc0
 have HR1 := Aside0.mk hr1
 have HC1 := Aside0.mk hc1
 clear hr1 hc1
 have H : (if (l0.length : Int) > 1048576 then (some true) else (some (decide ((l1.length : Int) > (wrap64 (1048576 - (l0.length : Int))))))) = some r := h
 clear h
 by_cases c3 : (l0.length : Int) > 1048576
 rotate_left
 ·rw [if_neg c3] at H
  have c3b0 : decide (1048576 < (l0.length : Int)) = false := decide_eq_false c3
  have c3b1 : decide (1048576 < l0.length) = false := decide_eq_false (by omega)
  clear c3
  obtain rfl := Option.some.inj H
  go_enter Try.func5, Try.ntmps5
  go_wp2
  go_ret
  exact ⟨by first | rfl | (simp; done) | (simp [*]; done), by repeat (first | exact Drawn0.refl _ | apply Drawn0.step)⟩
 rw [if_pos c3] at H
 have c3b0 : decide (1048576 < (l0.length : Int)) = true := decide_eq_true c3
 have c3b1 : decide (1048576 < l0.length) = true := decide_eq_true (by omega)
 clear c3
 obtain rfl := Option.some.inj H
 go_enter Try.func5, Try.ntmps5
 go_wp2
 go_ret
 exact ⟨by first | rfl | (simp; done) | (simp [*]; done), by repeat (first | exact Drawn0.refl _ | apply Drawn0.step)⟩
def impl_within.f (a0 : Int) (a1 : Int) (a2 : Int) : Option (Bool) := if a1 ≤ a0 then (some (decide (a0 ≤ a2))) else (some false)
set_option maxHeartbeats 8000000 in
set_option maxRecDepth 100000 in
theorem impl_within.calls (a0 : Int) (a1 : Int) (a2 : Int) (r : Bool) (w : World) (h : impl_within.f a0 a1 a2 = some r) :
  Calls Try.prog 54 #[.int .i64 a0, .int .i64 a1, .int .i64 a2] w fun e w' => e = .returned (.bool r) ∧ Drawn0 w w' := by
 have H : (if a1 ≤ a0 then (some (decide (a0 ≤ a2))) else (some false)) = some r := h
 clear h
 by_cases c4 : a1 ≤ a0
 rotate_left
 ·rw [if_neg c4] at H
  have c4b0 : decide (a1 ≤ a0) = false := decide_eq_false c4
  clear c4
  obtain rfl := Option.some.inj H
  go_enter Try.func54, Try.ntmps54
  go_wp2
  go_ret
  exact ⟨by first | rfl | (simp; done) | (simp [*]; done), by repeat (first | exact Drawn0.refl _ | apply Drawn0.step)⟩
 rw [if_pos c4] at H
 have c4b0 : decide (a1 ≤ a0) = true := decide_eq_true c4
 clear c4
 obtain rfl := Option.some.inj H
 go_enter Try.func54, Try.ntmps54
 go_wp2
 go_ret
 exact ⟨by first | rfl | (simp; done) | (simp [*]; done), by repeat (first | exact Drawn0.refl _ | apply Drawn0.step)⟩
def impl_isBasin.f (a0_0 : Int) (a0_1 : Int) (a0_2 : Int) : Option (Bool) := (impl_within.f a0_0 1 1000).bind fun t102 => (if t102 = true then ((impl_within.f a0_1 0 1000).bind fun t103 => (if t103 = true then ((impl_within.f a0_2 0 a0_0).bind fun t104 => (some t104)) else (some false))) else (some false))
set_option maxHeartbeats 8000000 in
set_option maxRecDepth 100000 in
theorem impl_isBasin.calls (a0_0 : Int) (a0_1 : Int) (a0_2 : Int) (r : Bool) (w : World) (h : impl_isBasin.f a0_0 a0_1 a0_2 = some r) :
  Calls Try.prog 57 #[.agg #[.int .i64 a0_0, .int .i64 a0_1, .int .i64 a0_2]] w fun e w' => e = .returned (.bool r) ∧ Below w.heap.size w w' := by
 have hu30 := Try.underlying30
 have HB := Aside0.mk (Below.refl w.heap.size w)
 have H : ((impl_within.f a0_0 1 1000).bind fun t102 => (if t102 = true then ((impl_within.f a0_1 0 1000).bind fun t103 => (if t103 = true then ((impl_within.f a0_2 0 a0_0).bind fun t104 => (some t104)) else (some false))) else (some false))) = some r := h
 clear h
 replace H := Option.bind_eq_some_iff.mp H
 obtain ⟨t102, A20, H⟩ := H
 (try dsimp only at H)
 have A2 := Aside0.mk A20
 clear A20
 by_cases c3 : t102 = true
 rotate_left
 ·replace c3 := Bool.eq_false_iff.mpr c3
  subst c3
  have H1 : (some false) = some r := by rw [if_neg (show ¬ (false = true) by decide)] at H; exact H
  clear H
  have H := H1
  clear H1
  obtain rfl := Option.some.inj H
  go_enter Try.func57, Try.ntmps57
  go_wp2_with (first | ((with_reducible refine gate_dst (N := 1) rfl ?_); refine bx 1 #[.int .i64 a0_0, .int .i64 a0_1, .int .i64 a0_2] 30 ?_; intro gb101 hg w11 hbox hb; have BK101 := Aside0.mk (hbox); have GW101 := ge HB hg; have GE101 := ge HB hg; replace HB := bs HB hb; clear hb hbox hg; have hcz12_0 := bc0 BK101; have hcz12_1 := bc1 BK101; have hcz12_2 := bc2 BK101; have hfz12_0 := blk_frozen BK101.out 0; have hfz12_1 := blk_frozen BK101.out 1; have hfz12_2 := blk_frozen BK101.out 2) | ((with_reducible refine gate_callee (f := 54) rfl ?_); refine gl 5 Try.func54 #[.int .i64 a0_0, .int .i64 1, .int .i64 1000] ?_; (with_reducible refine (impl_within.calls a0_0 1 1000 false _ A2.out).mono ?_); rintro e w' ⟨rfl, ⟨nd, rfl⟩⟩; refine ⟨_, rfl, ?_⟩))
  go_ret
  exact ⟨by first | rfl | (simp [errW_none, errW_some] <;> rfl) | (simp [*, errW_none, errW_some] <;> rfl), bw HB⟩
 subst c3
 have H1 : ((impl_within.f a0_1 0 1000).bind fun t103 => (if t103 = true then ((impl_within.f a0_2 0 a0_0).bind fun t104 => (some t104)) else (some false))) = some r := by rw [if_pos rfl] at H; exact H
 clear H
 have H := H1
 clear H1
 replace H := Option.bind_eq_some_iff.mp H
 obtain ⟨t103, A40, H⟩ := H
 (try dsimp only at H)
 have A4 := Aside0.mk A40
 clear A40
 by_cases c5 : t103 = true
 rotate_left
 ·replace c5 := Bool.eq_false_iff.mpr c5
  subst c5
  have H1 : (some false) = some r := by rw [if_neg (show ¬ (false = true) by decide)] at H; exact H
  clear H
  have H := H1
  clear H1
  obtain rfl := Option.some.inj H
  go_enter Try.func57, Try.ntmps57
  go_wp2_with (first | ((with_reducible refine gate_dst (N := 1) rfl ?_); refine bx 1 #[.int .i64 a0_0, .int .i64 a0_1, .int .i64 a0_2] 30 ?_; intro gb101 hg w9 hbox hb; have BK101 := Aside0.mk (hbox); have GW101 := ge HB hg; have GE101 := ge HB hg; replace HB := bs HB hb; clear hb hbox hg; have hcz10_0 := bc0 BK101; have hcz10_1 := bc1 BK101; have hcz10_2 := bc2 BK101; have hfz10_0 := blk_frozen BK101.out 0; have hfz10_1 := blk_frozen BK101.out 1; have hfz10_2 := blk_frozen BK101.out 2) | ((with_reducible refine gate_callee (f := 54) rfl ?_); refine gl 5 Try.func54 #[.int .i64 a0_0, .int .i64 1, .int .i64 1000] ?_; (with_reducible refine (impl_within.calls a0_0 1 1000 true _ A2.out).mono ?_); rintro e w' ⟨rfl, ⟨nd, rfl⟩⟩; refine ⟨_, rfl, ?_⟩) | (go_at_call 54; (with_reducible refine (impl_within.calls a0_1 0 1000 false _ A4.out).mono ?_); rintro e w' ⟨rfl, ⟨nd, rfl⟩⟩))
  go_ret
  exact ⟨by first | rfl | (simp [errW_none, errW_some] <;> rfl) | (simp [*, errW_none, errW_some] <;> rfl), bw HB⟩
 subst c5
 have H1 : ((impl_within.f a0_2 0 a0_0).bind fun t104 => (some t104)) = some r := by rw [if_pos rfl] at H; exact H
 clear H
 have H := H1
 clear H1
 replace H := Option.bind_eq_some_iff.mp H
 obtain ⟨t104, A60, H⟩ := H
 (try dsimp only at H)
 have A6 := Aside0.mk A60
 clear A60
 obtain rfl := Option.some.inj H
 go_enter Try.func57, Try.ntmps57
 go_wp2_with (first | ((with_reducible refine gate_dst (N := 1) rfl ?_); refine bx 1 #[.int .i64 a0_0, .int .i64 a0_1, .int .i64 a0_2] 30 ?_; intro gb101 hg w7 hbox hb; have BK101 := Aside0.mk (hbox); have GW101 := ge HB hg; have GE101 := ge HB hg; replace HB := bs HB hb; clear hb hbox hg; have hcz8_0 := bc0 BK101; have hcz8_1 := bc1 BK101; have hcz8_2 := bc2 BK101; have hfz8_0 := blk_frozen BK101.out 0; have hfz8_1 := blk_frozen BK101.out 1; have hfz8_2 := blk_frozen BK101.out 2) | ((with_reducible refine gate_callee (f := 54) rfl ?_); refine gl 5 Try.func54 #[.int .i64 a0_0, .int .i64 1, .int .i64 1000] ?_; (with_reducible refine (impl_within.calls a0_0 1 1000 true _ A2.out).mono ?_); rintro e w' ⟨rfl, ⟨nd, rfl⟩⟩; refine ⟨_, rfl, ?_⟩) | (go_at_call 54; (with_reducible refine (impl_within.calls a0_1 0 1000 true _ A4.out).mono ?_); rintro e w' ⟨rfl, ⟨nd, rfl⟩⟩) | (go_at_call 54; (with_reducible refine (impl_within.calls a0_2 0 a0_0 t104 _ A6.out).mono ?_); rintro e w' ⟨rfl, ⟨nd, rfl⟩⟩))
 go_ret
 exact ⟨by first | rfl | (simp [errW_none, errW_some] <;> rfl) | (simp [*, errW_none, errW_some] <;> rfl), bw HB⟩
def impl_IsRow.P (x : S30) : Bool := impl_isBasin.f x.f0 x.f1 x.f2 == some true
def impl_IsRow.f (l0 : List S30) : Option Bool := (impl_within.f (l0.length : Int) 1 6).bind fun t => if t = true then (if l0.all (fun x => (impl_isBasin.f x.f0 x.f1 x.f2).isSome) = true then some (l0.all impl_IsRow.P) else none) else some false
def impl_IsRow.Pr (g : Nat) (lb : Array Value) (p : S30 → Bool) (l : List S30) (w : World) : Prop :=
 ∀ (W : World) (x : S30), x ∈ l → Below w.heap.size w W → Calls Try.prog g (#[.agg #[.int .i64 x.f0, .int .i64 x.f1, .int .i64 x.f2]] ++ lb) W fun e w' => e = .returned (.bool (p x)) ∧ Below w.heap.size w w'
theorem impl_IsRow.rd (l : List S30) (k : Nat) (h : k < l.length) : rd_T30 l (k : Int) = l[k] := by unfold rd_T30; simp [h]
set_option maxHeartbeats 2000000 in
theorem impl_IsRow.ix (p : S30 → Bool) (g : Nat) (lb : Array Value) (eg : ∀ args w, (callFunc g args).run Try.prog w = .ok (.enter g args) w) (A0 : Option Addr) (c0 : Nat) (l : List S30) (w : World)
  (hr0 : Kd.C k30 w A0 l.length l) (hp : impl_IsRow.Pr g lb p l w) :
  Calls Try.prog 79 #[.slice A0 l.length c0, .func (.func g) #[] lb] w fun e w' => e = .returned (.int .i64 (Gv.idxF p l)) ∧ Below w.heap.size w w' := by
 have hu := Try.underlying30
 have HR0 := Aside0.mk hr0
 have HP := Aside0.mk hp
 have hn : l.length ≤ 9223372036854775807 := hr0.2.1
 clear hr0 hp
 go_enter Try.func79, Try.ntmps79
 go_wp2
 go_loopg [5, 8] l.length (fun gg _ s8 wr => ∃ kk : Nat, kk ≤ l.length ∧ l.length - kk ≤ gg ∧ s8 = .int .i64 kk ∧ Aside0 (Below w.heap.size w wr) ∧ Aside0 (∀ j (hj : j < kk) (h : j < l.length), p l[j] = false))
 case atStart => exact ⟨0, Nat.zero_le _, by omega, rfl, ⟨Below.refl _ w⟩, ⟨fun j hj => absurd hj (Nat.not_lt_zero _)⟩⟩
 case round =>
  obtain ⟨kk, hkk, hg, rfl, BW, A⟩ := hrel
  by_cases hlt : kk < l.length
  rotate_left
  ·have hd : decide (kk < l.length) = false := by simp; omega
   go_wp2
   go_ret
   refine ⟨?_, BW.out⟩
   rw [Gv.idxF_miss p l (fun j hj => A.out j (by omega) hj)]
   rfl
  have hltz : (kk : Int) < (l.length : Int) := by omega
  obtain ⟨ad, e0, hx0, hx1, hx2⟩ := at_T30 (Kd.C_below HR0.out BW.out) (kk : Int) (by omega) hltz
  cases e0
  rw [Int.toNat_natCast] at hx0 hx1 hx2
  have hcall := HP.out wr (rd_T30 l (kk : Int)) (by rw [impl_IsRow.rd l kk hlt]; exact List.getElem_mem hlt) BW.out
  have B : Aside0 (rd_T30 l (kk : Int) = l[kk]) := ⟨impl_IsRow.rd l kk hlt⟩
  generalize hy : rd_T30 l (kk : Int) = y at hx0 hx1 hx2 hcall B
  clear hy
  cases hq : p y with
  | true =>
   rw [hq] at hcall
   have hq' := Lib.hid hq
   clear hq
   go_wp2_with (go_at_fn g; refine hcall.mono ?_; rintro e w' ⟨rfl, hb'⟩)
   go_ret
   refine ⟨?_, hb'⟩
   rw [Gv.idxF_hit p l kk hlt (by rw [← B.out]; exact hq'.out) (fun j hj => A.out j hj (by omega))]
   rfl
  | false =>
   rw [hq] at hcall
   have hq' := Lib.hid hq
   clear hq
   go_wp2_with (go_at_fn g; refine hcall.mono ?_; rintro e w' ⟨rfl, hb'⟩)
   go_roundg (l.length - (kk + 1))
   case measure => omega
   case rel =>
    refine ⟨kk + 1, by omega, by omega, by go_num, ⟨hb'⟩, ⟨fun j hj h => ?_⟩⟩
    by_cases e : j = kk
    rotate_left
    ·exact A.out j (by omega) h
    subst e
    rw [← B.out]; exact hq'.out
set_option maxHeartbeats 2000000 in
theorem impl_IsRow.cf (p : S30 → Bool) (g : Nat) (lb : Array Value) (eg : ∀ args w, (callFunc g args).run Try.prog w = .ok (.enter g args) w) (A0 : Option Addr) (c0 : Nat) (l : List S30) (w : World)
  (hr0 : Kd.C k30 w A0 l.length l) (hp : impl_IsRow.Pr g lb p l w) :
  Calls Try.prog 55 #[.slice A0 l.length c0, .func (.func g) #[] lb] w fun e w' => e = .returned (.bool (l.any p)) ∧ Below w.heap.size w w' := by
 have H := Lib.hid (Gv.idxF_any p l)
 have HC := impl_IsRow.ix p g lb eg A0 c0 l w hr0 hp
 clear hr0 hp
 generalize Gv.idxF p l = r at H HC
 go_enter Try.func55, Try.ntmps55
 go_wp2_with (go_at_call 79; refine HC.mono ?_; rintro e w' ⟨rfl, hb'⟩)
 go_ret
 exact ⟨by rw [← H.out]; rfl, hb'⟩
set_option maxHeartbeats 2000000 in
theorem impl_IsRow.pred (x : S30) (b : Bool) (w W : World) (hb : Below w.heap.size w W) (h : impl_isBasin.f x.f0 x.f1 x.f2 = some b) :
  Calls Try.prog 56 #[.agg #[.int .i64 x.f0, .int .i64 x.f1, .int .i64 x.f2]] W fun e w' => e = .returned (.bool (!b)) ∧ Below w.heap.size w w' := by
 have hu := Try.underlying30
 have HB := Aside0.mk hb
 have A3 := Aside0.mk h
 clear hb h
 go_enter Try.func56, Try.ntmps56
 go_wp2_with (first | (refine bx _ #[.int .i64 x.f0, .int .i64 x.f1, .int .i64 x.f2] 30 ?_; intro gb hg w4 hbox hb; have BKb := Aside0.mk hbox; replace HB := bs HB hb; clear hb hbox hg; have hcz_0 := bc0 BKb; have hfz_0 := blk_frozen BKb.out 0; have hcz_1 := bc1 BKb; have hfz_1 := blk_frozen BKb.out 1; have hcz_2 := bc2 BKb; have hfz_2 := blk_frozen BKb.out 2) | ((with_reducible refine gate_callee (f := 57) rfl ?_); refine gl _ Try.func57 #[.agg #[.int .i64 x.f0, .int .i64 x.f1, .int .i64 x.f2]] ?_; (with_reducible refine (impl_isBasin.calls x.f0 x.f1 x.f2 b _ A3.out).mono ?_); rintro e w' ⟨rfl, hb⟩; refine ⟨_, rfl, ?_⟩; first | (replace HB := bs HB hb; clear hb) | (obtain ⟨nd, rfl⟩ := hb)))
 go_ret
 exact ⟨by cases b <;> rfl, bw HB⟩
set_option maxHeartbeats 2000000 in
theorem impl_IsRow.calls (A0 : Option Addr) (c0 : Nat) (l0 : List S30) (r : Bool) (w : World) (hr0 : Kd.C k30 w A0 l0.length l0) (hc0 : l0.length ≤ c0) (h : impl_IsRow.f l0 = some r) :
  Calls Try.prog 11 #[.slice A0 l0.length c0] w fun e w' => e = .returned (.bool r) ∧ Below w.heap.size w w' := by
 have eg : ∀ args w, (callFunc 56 args).run Try.prog w = .ok (.enter 56 args) w := enters_of Try.func56 (by kernel_rfl) rfl
 have EG := Aside0.mk eg
 have HR0 := Aside0.mk hr0
 have HB := Aside0.mk (Below.refl w.heap.size w)
 clear eg hr0
 unfold impl_IsRow.f at h
 obtain ⟨t, A3, H⟩ := Option.bind_eq_some_iff.mp h
 clear h
 replace A3 := Aside0.mk A3
 cases t with
 | false =>
  rw [if_neg (by simp)] at H
  obtain rfl := Option.some.inj H
  clear H
  go_enter Try.func11, Try.ntmps11
  go_wp2_with (first | ((with_reducible refine gate_callee (f := 54) rfl ?_); refine gl _ Try.func54 #[.int .i64 (l0.length : Int), .int .i64 1, .int .i64 6] ?_; (with_reducible refine (impl_within.calls (l0.length : Int) 1 6 false _ A3.out).mono ?_); rintro e w' ⟨rfl, hb⟩; refine ⟨_, rfl, ?_⟩; first | (replace HB := bs HB hb; clear hb) | (obtain ⟨nd, rfl⟩ := hb)))
  go_ret
  exact ⟨rfl, bw HB⟩
 | true =>
  rw [if_pos rfl] at H
  by_cases c : l0.all (fun x => (impl_isBasin.f x.f0 x.f1 x.f2).isSome) = true
  rotate_left
  ·rw [if_neg c] at H; cases H
  rw [if_pos c] at H
  have hN : (!(l0.any fun x => !(impl_IsRow.P x))) = l0.all impl_IsRow.P := by simp [List.all_eq_not_any_not]
  have HC := fun (W : World) (hb : Below w.heap.size w W) => impl_IsRow.cf (fun x => !(impl_IsRow.P x)) 56 #[] EG.out A0 c0 l0 W (Kd.C_below HR0.out hb) (fun W2 x hx hb2 => by
   obtain ⟨b, e⟩ := Option.isSome_iff_exists.mp (List.all_eq_true.mp c x hx)
   have e2 : impl_IsRow.P x = b := by unfold impl_IsRow.P; rw [e]; cases b <;> rfl
   have q := impl_IsRow.pred x b W W2 hb2 e
   rw [← e2] at q; exact q)
  have HC' := Aside0.mk HC
  clear HC c
  obtain rfl := Option.some.inj H
  clear H
  have HN := Aside0.mk hN
  rw [← HN.out]
  clear hN HN
  obtain ⟨q, hq⟩ : ∃ q, q = (l0.any fun x => !(impl_IsRow.P x)) := ⟨_, rfl⟩
  rw [← hq]
  have HQ := Aside0.mk hq
  clear hq
  cases q with
  | true =>
   have HC2 := HC'.out
   simp only [← HQ.out] at HC2
   have HC3 := Aside0.mk HC2
   clear HC2 HC'
   go_enter Try.func11, Try.ntmps11
   go_wp2_with (first | ((with_reducible refine gate_callee (f := 54) rfl ?_); refine gl _ Try.func54 #[.int .i64 (l0.length : Int), .int .i64 1, .int .i64 6] ?_; (with_reducible refine (impl_within.calls (l0.length : Int) 1 6 true _ A3.out).mono ?_); rintro e w' ⟨rfl, hb⟩; refine ⟨_, rfl, ?_⟩; first | (replace HB := bs HB hb; clear hb) | (obtain ⟨nd, rfl⟩ := hb)) | (go_at_call 55; refine (HC3.out _ (bw HB)).mono ?_; rintro e w' ⟨rfl, hb⟩; replace HB := bs HB hb; clear hb))
   go_ret
   exact ⟨rfl, bw HB⟩
  | false =>
   have HC2 := HC'.out
   simp only [← HQ.out] at HC2
   have HC3 := Aside0.mk HC2
   clear HC2 HC'
   go_enter Try.func11, Try.ntmps11
   go_wp2_with (first | ((with_reducible refine gate_callee (f := 54) rfl ?_); refine gl _ Try.func54 #[.int .i64 (l0.length : Int), .int .i64 1, .int .i64 6] ?_; (with_reducible refine (impl_within.calls (l0.length : Int) 1 6 true _ A3.out).mono ?_); rintro e w' ⟨rfl, hb⟩; refine ⟨_, rfl, ?_⟩; first | (replace HB := bs HB hb; clear hb) | (obtain ⟨nd, rfl⟩ := hb)) | (go_at_call 55; refine (HC3.out _ (bw HB)).mono ?_; rintro e w' ⟨rfl, hb⟩; replace HB := bs HB hb; clear hb))
   go_ret
   exact ⟨rfl, bw HB⟩
def impl_heldIn.l0 : Nat → Int → List (S30) → Int → Int → Option (Int)
 | 0, _, _, _, _ => none
 | k + 1, x3, x6, x7, x8 => if x8 < x7 then (if 0 ≤ x8 then (if x8 < (x6.length : Int) then (impl_heldIn.l0 k (wrap64 (x3 + ((rd_T30 x6 x8).f2))) x6 x7 (wrap64 (x8 + 1))) else (none)) else (none)) else (some x3)
def impl_heldIn.f (k : Nat) (l0 : List (S30)) : Option (Int) := impl_heldIn.l0 k 0 l0 (l0.length : Int) 0
set_option maxHeartbeats 8000000 in
set_option maxRecDepth 100000 in
theorem impl_heldIn.calls (k : Nat) (A0 : Option Addr) (c0 : Nat) (l0 : List (S30)) (r : Int) (w : World) (hr0 : Kd.C k30 w A0 l0.length l0) (hc0 : l0.length ≤ c0) (h : impl_heldIn.f k l0 = some r) :
  Calls Try.prog 49 #[.slice A0 l0.length c0] w fun e w' => e = .returned (.int .i64 r) ∧ Below w.heap.size w w' := by
 have hu30 := Try.underlying30
 have HR0 := Aside0.mk hr0
 have HC0 := Aside0.mk hc0
 clear hr0 hc0
 have HB := Aside0.mk (Below.refl w.heap.size w)
 have H : (impl_heldIn.l0 k 0 l0 (l0.length : Int) 0) = some r := h
 clear h
 have H' := Aside0.mk H
 clear H
 go_enter Try.func49, Try.ntmps49
 go_wp2
 try simp only [Act.put, List.setIfInBounds_toArray, List.set_cons_zero, List.set_cons_succ]
 go_loopg [3, 8] k (fun kq v3 v8 w' => ∃ (x3_1 : Int) (x8_1 : Int), v3 = .int .i64 x3_1 ∧ v8 = .int .i64 x8_1 ∧ Aside0 (impl_heldIn.l0 kq x3_1 l0 (l0.length : Int) x8_1 = some r) ∧ Aside0 (kq ≤ k) ∧ Aside0 (Below w.heap.size w w'))
 case atStart => exact ⟨(0), (0), (by first | rfl | (simp; done) | (simp [*]; done)), (by first | rfl | (simp; done) | (simp [*]; done)), H', ⟨Nat.le_refl _⟩, ⟨bw HB⟩⟩
 case round =>
  clear H'
  obtain ⟨x3_1, x8_1, rfl, rfl, HA, HK1, HB⟩ := hrel
  cases gk with
  | zero => exact absurd HA.out (by simp [impl_heldIn.l0])
  | succ k1 =>
   have H := HA.out
   clear HA
   simp only [impl_heldIn.l0] at H
   by_cases c2 : x8_1 < (l0.length : Int)
   rotate_left
   ·rw [if_neg c2] at H
    have c2b0 : decide (x8_1 < (l0.length : Int)) = false := decide_eq_false c2
    clear c2
    obtain rfl := Option.some.inj H
    go_wp2
    go_ret
    exact ⟨by first | rfl | (simp [errW_none, errW_some] <;> rfl) | (simp [*, errW_none, errW_some] <;> rfl), bw HB⟩
   rw [if_pos c2] at H
   have c2b0 : decide (x8_1 < (l0.length : Int)) = true := decide_eq_true c2
   clear c2
   by_cases c3 : 0 ≤ x8_1
   rotate_left
   ·rw [if_neg c3] at H
    exact absurd H (by simp)
   rw [if_pos c3] at H
   have c3b0 : decide (0 ≤ x8_1) = true := decide_eq_true c3
   clear c3
   by_cases c4 : x8_1 < (l0.length : Int)
   rotate_left
   ·rw [if_neg c4] at H
    exact absurd H (by simp)
   rw [if_pos c4] at H
   have c4b0 : decide (x8_1 < (l0.length : Int)) = true := decide_eq_true c4
   clear c4
   have H' := Aside0.mk H
   clear H
   have p105 : 0 ≤ (x8_1 : Int) := of_decide_eq_true ‹_›
   have q105 : x8_1 < (l0.length : Int) := of_decide_eq_true ‹_›
   obtain ⟨ad105, e105, hx105_0, hx105_1, hx105_2⟩ := at_T30 HR0.out x8_1 p105 q105
   cases e105
   replace hx105_0 := (HB.out.cell (World.block_lt_of_cell? w _ hx105_0)).trans hx105_0
   replace hx105_1 := (HB.out.cell (World.block_lt_of_cell? w _ hx105_1)).trans hx105_1
   replace hx105_2 := (HB.out.cell (World.block_lt_of_cell? w _ hx105_2)).trans hx105_2
   replace p105 := eq_true p105
   replace q105 := eq_true q105
   go_wp2_with (first | ((with_reducible refine gate_dst (N := 5) rfl ?_); refine bx 5 #[.int .i64 0, .int .i64 0, .int .i64 0] 30 ?_; intro gb106 hg w5 hbox hb; have BK106 := Aside0.mk (hbox); have GW106 := ge HB hg; have GE106 := ge HB hg; replace HB := bs HB hb; clear hb hbox hg; have hcz6_0 := bc0 BK106; have hcz6_1 := bc1 BK106; have hcz6_2 := bc2 BK106; have hfz6_0 := blk_frozen BK106.out 0; have hfz6_1 := blk_frozen BK106.out 1; have hfz6_2 := blk_frozen BK106.out 2))
   go_roundg k1
   case measure => have := HK1.out; omega
   case rel => exact ⟨(wrap64 (x3_1 + ((rd_T30 l0 x8_1).f2))), (wrap64 (x8_1 + 1)), (by first | rfl | (simp; done) | (simp [*]; done)), (by first | rfl | (simp; done) | (simp [*]; done)), H', ⟨by have := HK1.out; omega⟩, ⟨bw HB⟩⟩
def impl_HeldInRow.f (k : Nat) (l0 : List (S30)) : Option (Int × Bool) := (impl_IsRow.f l0).bind fun t107 => (if t107 = true then ((impl_heldIn.f k l0).bind fun t108 => (some (t108, true))) else (some (0, false)))
set_option maxHeartbeats 8000000 in
set_option maxRecDepth 100000 in
theorem impl_HeldInRow.calls (k : Nat) (A0 : Option Addr) (c0 : Nat) (l0 : List (S30)) (r1 : Int) (r2 : Bool) (w : World) (hr0 : Kd.C k30 w A0 l0.length l0) (hc0 : l0.length ≤ c0) (h : impl_HeldInRow.f k l0 = some (r1, r2)) :
  Calls Try.prog 9 #[.slice A0 l0.length c0] w fun e w' => e = .returned (.tuple #[.int .i64 r1, .bool r2]) ∧ Below w.heap.size w w' := by
 have HR0 := Aside0.mk hr0
 have HC0 := Aside0.mk hc0
 clear hr0 hc0
 have HB := Aside0.mk (Below.refl w.heap.size w)
 have H : ((impl_IsRow.f l0).bind fun t107 => (if t107 = true then ((impl_heldIn.f k l0).bind fun t108 => (some (t108, true))) else (some (0, false)))) = some (r1, r2) := h
 clear h
 replace H := Option.bind_eq_some_iff.mp H
 obtain ⟨t107, A20, H⟩ := H
 (try dsimp only at H)
 have A2 := Aside0.mk A20
 clear A20
 by_cases c3 : t107 = true
 rotate_left
 ·replace c3 := Bool.eq_false_iff.mpr c3
  subst c3
  have H1 : (some (0, false)) = some (r1, r2) := by rw [if_neg (show ¬ (false = true) by decide)] at H; exact H
  clear H
  have H := H1
  clear H1
  simp only [Option.some.injEq, Prod.mk.injEq] at H
  obtain ⟨rfl, rfl⟩ := H
  go_enter Try.func9, Try.ntmps9
  go_wp2_with (first | ((with_reducible refine gate_callee (f := 11) rfl ?_); refine gl 5 Try.func11 #[.slice A0 l0.length c0] ?_; (with_reducible refine (impl_IsRow.calls _ _ l0 false _ ?side1 ?side2 A2.out).mono ?_); (case side1 => repeat (first | exact HR0.out | (with_reducible refine Kd.C_alloc ?_ _) | (with_reducible refine Kd.C_drewN ?_ _) | (with_reducible refine Kd.C_drew ?_))); (case side2 => exact HC0.out); rintro e w7 ⟨rfl, hb⟩; refine ⟨_, rfl, ?_⟩; replace HB := bs HB hb; (try clear hb)))
  go_ret2
  exact ⟨by first | rfl | (simp [errW_none, errW_some] <;> rfl) | (simp [*, errW_none, errW_some] <;> rfl), bw HB⟩
 subst c3
 have H1 : ((impl_heldIn.f k l0).bind fun t108 => (some (t108, true))) = some (r1, r2) := by rw [if_pos rfl] at H; exact H
 clear H
 have H := H1
 clear H1
 replace H := Option.bind_eq_some_iff.mp H
 obtain ⟨t108, A40, H⟩ := H
 (try dsimp only at H)
 have A4 := Aside0.mk A40
 clear A40
 simp only [Option.some.injEq, Prod.mk.injEq] at H
 obtain ⟨rfl, rfl⟩ := H
 go_enter Try.func9, Try.ntmps9
 go_wp2_with (first | ((with_reducible refine gate_callee (f := 11) rfl ?_); refine gl 5 Try.func11 #[.slice A0 l0.length c0] ?_; (with_reducible refine (impl_IsRow.calls _ _ l0 true _ ?side1 ?side2 A2.out).mono ?_); (case side1 => repeat (first | exact HR0.out | (with_reducible refine Kd.C_alloc ?_ _) | (with_reducible refine Kd.C_drewN ?_ _) | (with_reducible refine Kd.C_drew ?_))); (case side2 => exact HC0.out); rintro e w5 ⟨rfl, hb⟩; refine ⟨_, rfl, ?_⟩; replace HB := bs HB hb; (try clear hb)) | ((with_reducible refine gate_callee (f := 49) rfl ?_); refine gl 8 Try.func49 #[.slice A0 l0.length c0] ?_; (with_reducible refine (impl_heldIn.calls k _ _ l0 t108 _ ?side1 ?side2 A4.out).mono ?_); (case side1 => exact ck HR0 HB); (case side2 => exact HC0.out); rintro e w6 ⟨rfl, hb⟩; refine ⟨_, rfl, ?_⟩; replace HB := bs HB hb; (try clear hb)))
 go_ret2
 exact ⟨by first | rfl | (simp [errW_none, errW_some] <;> rfl) | (simp [*, errW_none, errW_some] <;> rfl), bw HB⟩
theorem slices_IndexFunc_int_int.pred (w : World) : Gv.PredB 71 #[] (Value.int .i64) (fun x => decide (0 < x)) w := fun W x hb => by
 show Calls Try.prog 71 #[.int .i64 x] W _
 have HB := Aside0.mk hb
 clear hb
 by_cases c0 : 0 < x
 rotate_left
 ·have c1 : decide (0 < x) = false := decide_eq_false c0
  clear c0
  go_enter Try.func71, Try.ntmps71
  go_wp2
  go_ret
  exact ⟨by simp [c1], by first | exact HB.out | exact pw_below_drewN HB.out _⟩
 have c1 : decide (0 < x) = true := decide_eq_true c0
 clear c0
 go_enter Try.func71, Try.ntmps71
 go_wp2
 go_ret
 exact ⟨by simp [c1], by first | exact HB.out | exact pw_below_drewN HB.out _⟩
def impl_areWithin.f (l0 : List Int) (a1 : Int) (a2 : Int) : Option Bool := some (l0.all fun x => decide (a1 ≤ x ∧ x ≤ a2))
theorem impl_areWithin.calls (A0 : Option Addr) (c0 : Nat) (l0 : List Int) (a1 : Int) (a2 : Int) (r : Bool) (w : World) (hr0 : Kd.C (Kd.int .i64) w A0 l0.length l0) (hc0 : l0.length ≤ c0) (h : impl_areWithin.f l0 a1 a2 = some r) :
  Calls Try.prog 73 #[.slice A0 l0.length c0, .int .i64 a1, .int .i64 a2] w fun e w' => e = .returned (.bool r) ∧ Below w.heap.size w w' := by
 obtain rfl := Option.some.inj h
 exact Go.Proofs.Ytflbcikfphfkdaa.Gv.areWithin_calls A0 c0 l0 a1 a2 w hr0
def impl_AreFlows.f (l0 : List Int) : Option (Bool) := if (l0.length : Int) ≤ 60 then ((impl_areWithin.f l0 0 1000).bind fun t109 => (some t109)) else (some false)
set_option maxHeartbeats 8000000 in
set_option maxRecDepth 100000 in
theorem impl_AreFlows.calls (A0 : Option Addr) (c0 : Nat) (l0 : List Int) (r : Bool) (w : World) (hr0 : Kd.C (Kd.int .i64) w A0 l0.length l0) (hc0 : l0.length ≤ c0) (h : impl_AreFlows.f l0 = some r) :
  Calls Try.prog 39 #[.slice A0 l0.length c0] w fun e w' => e = .returned (.bool r) ∧ Below w.heap.size w w' := by
 have HR0 := Aside0.mk hr0
 have HC0 := Aside0.mk hc0
 clear hr0 hc0
 have HB := Aside0.mk (Below.refl w.heap.size w)
 have H : (if (l0.length : Int) ≤ 60 then ((impl_areWithin.f l0 0 1000).bind fun t109 => (some t109)) else (some false)) = some r := h
 clear h
 by_cases c2 : (l0.length : Int) ≤ 60
 rotate_left
 ·rw [if_neg c2] at H
  have c2b0 : decide ((l0.length : Int) ≤ 60) = false := decide_eq_false c2
  have c2b1 : decide (l0.length ≤ 60) = false := decide_eq_false (by omega)
  clear c2
  obtain rfl := Option.some.inj H
  go_enter Try.func39, Try.ntmps39
  go_wp2
  go_ret
  exact ⟨by first | rfl | (simp [errW_none, errW_some] <;> rfl) | (simp [*, errW_none, errW_some] <;> rfl), bw HB⟩
 rw [if_pos c2] at H
 have c2b0 : decide ((l0.length : Int) ≤ 60) = true := decide_eq_true c2
 have c2b1 : decide (l0.length ≤ 60) = true := decide_eq_true (by omega)
 clear c2
 replace H := Option.bind_eq_some_iff.mp H
 obtain ⟨t109, A30, H⟩ := H
 (try dsimp only at H)
 have A3 := Aside0.mk A30
 clear A30
 obtain rfl := Option.some.inj H
 go_enter Try.func39, Try.ntmps39
 go_wp2_with (first | (go_at_call 73; (with_reducible refine (impl_areWithin.calls _ _ l0 0 1000 t109 _ ?side1 ?side2 A3.out).mono ?_); (case side1 => repeat (first | exact HR0.out | (with_reducible refine Kd.C_alloc ?_ _) | (with_reducible refine Kd.C_drewN ?_ _) | (with_reducible refine Kd.C_drew ?_))); (case side2 => exact HC0.out); rintro e w4 ⟨rfl, hb⟩; replace HB := bs HB hb; (try clear hb)))
 go_ret
 exact ⟨by first | rfl | (simp [errW_none, errW_some] <;> rfl) | (simp [*, errW_none, errW_some] <;> rfl), bw HB⟩
def impl_Basin_63.f (l0 : List S30) : Option (List S30) := if l0.length < 5864062014805 then some l0 else none
set_option maxHeartbeats 8000000 in
set_option maxRecDepth 100000 in
theorem impl_Basin_63.calls (A0 : Option Addr) (c0 : Nat) (l0 : List S30) (r : List S30) (w : World) (hr0 : Kd.C k30 w A0 l0.length l0) (hc0 : l0.length ≤ c0) (h : impl_Basin_63.f l0 = some r) :
  Calls Try.prog 63 #[.slice A0 l0.length c0] w fun e w' => ∃ v0_ : Value, e = .returned (v0_) ∧ Kd.R k30 30 w' w.heap.size (fun _ => True) v0_ r ∧ Below w.heap.size w w' := by
 unfold impl_Basin_63.f at h
 by_cases c2 : l0.length < 5864062014805
 rotate_left
 ·rw [if_neg c2] at h
  exact absurd h (by simp)
 rw [if_pos c2] at h
 obtain rfl := Option.some.inj h
 clear h
 have LMc2 := Aside0.mk c2
 have HR0 := Aside0.mk hr0
 have HB := Aside0.mk (Below.refl w.heap.size w)
 cases A0 with
 | none =>
  have hl : l0 = [] := by
   cases l0 with
   | nil => rfl
   | cons x t => obtain ⟨ad, hd, _⟩ := hr0.2.2 (by simp); cases hd
  subst hl
  clear hr0 hc0 c2
  have hq := fun (W : World) (n : Nat) => Go.Lib.run_eql_slice_nil (P := Try.prog) W 24 30 none n c0 0 0 Try.underlying24
  simp only [Option.isNone_none] at hq
  go_enter Try.func63, Try.ntmps63
  go_wp2
  go_ret
  exact ⟨.slice none 0 0, rfl, Kd.R_nil _ _ _ _ _, HB.out⟩
 | some ad =>
  clear hr0 hc0 c2
  have hq := fun (W : World) (n : Nat) => Go.Lib.run_eql_slice_nil (P := Try.prog) W 24 30 (some ad) n c0 0 0 Try.underlying24
  simp only [Option.isNone_some] at hq
  obtain ⟨y159, hy159⟩ : ∃ y_ : List S30, y_ = ([] : List S30) := ⟨_, rfl⟩
  obtain ⟨y162, hy162⟩ : ∃ y_ : List S30, y_ = y159 ++ l0 := ⟨_, rfl⟩
  have hyl : Aside0 (y162 = l0) := ⟨by rw [hy162, hy159, List.nil_append]⟩
  have LM := Aside0.mk (show y159.length + l0.length < 5864062014805 by rw [hy159]; simpa using LMc2.out)
  have Ny159 := Aside0.mk hy159
  have Ny162 := Aside0.mk hy162
  clear hy159 hy162
  go_enter Try.func63, Try.ntmps63
  go_wp2_with (first | ((with_reducible refine gate_dst (N := 5) rfl ?_); refine Kd.R_lit k30 _ 30 ?hg (N := 5) ?hd (xs := ([] : List S30)) (inner := []) (ok := fun _ => True) (okp := fun _ => True) ?hr ?hp (fun _ hk => hk) trivial (Below.refl _ _) (Nat.le_refl _) (by simp) ?_; (case hd => rfl); (case hg => rfl); (case hr => first | (go_simp; done) | (go_simp; rfl)); (case hp => exact (Reps.none _ _)); intro v160 w3 ho4 hb hg_ hnew_; clear hg_ hnew_; (first | rw [← Ny159.out] at ho4 | (simp only [Int.reduceToNat] at ho4; rw [← Ny159.out] at ho4)); have HO161 := lo ho4 HB; replace HB := bs HB hb; clear hb ho4) | ((with_reducible refine gate_builtin (b := .append) (xs := #[.tmp 5, .tmp 6]) rfl ?_); at_builtin; refine Kd.R_append_rows k30 (w0 := w) w.heap.size rfl (.tmp 5) (.tmp 6) 24 30 (.agg #[(.int .i64 0), (.int .i64 0), (.int .i64 0)]) 24 rfl Try.underlying24 info30 rfl (by decide) (by omega) v160 y159 l0 _ _ _ (fun _ => True) (fun _ => False) rfl rfl ?aO ?aR (fun _ _ h => h) (fun _ h => h.elim) ?aF ?aB ?aS ?aL ?_; (case aR => exact ck HR0 HB); (case aB => exact (bw HB)); (case aF => exact (fun _ _ => trivial)); (case aO => exact (rk HO161)); (case aS => exact (below_size (bw HB))); (case aL => have := LM.out; omega); intro v163 w5 ho hb hg hat; rw [← Ny162.out] at ho; have n0_ := Aside0.mk (hb); have n1_ := Aside0.mk (ho); clear HB; clear HO161; have HB := n0_; have HO164 := n1_; clear n0_ n1_; clear ho hb hg hat))
  go_ret
  exact ⟨_, rfl, by rw [← hyl.out]; exact HO164.out, HB.out⟩
def impl_tickRow.l0 : Nat → Int → List (S30) → List Int → Int → Int → Option ((List (S30)) × List Int × Int)
 | 0, _, _, _, _, _ => none
 | k + 1, x1, x7, x8, x17, x18 => if x18 < x17 then (if 0 ≤ x18 then (if x18 < (x7.length : Int) then ((some (x7.set (x18 : Int).toNat (⟨(rd_T30 x7 x18).f0, (rd_T30 x7 x18).f1, wrap64 (((rd_T30 x7 x18).f2) + x1)⟩ : S30) : List (S30))).bind fun y114 => ((some (y114.set (x18 : Int).toNat (⟨(rd_T30 y114 x18).f0, (rd_T30 y114 x18).f1, wrap64 (((rd_T30 y114 x18).f2) - (mx 0 (wrap64 (((rd_T30 y114 x18).f2) - ((rd_T30 y114 x18).f0)))))⟩ : S30) : List (S30))).bind fun y118 => (if x8.length < 17592186044416 then (impl_tickRow.l0 k (wrap64 ((mx 0 (wrap64 (((rd_T30 y114 x18).f2) - ((rd_T30 y114 x18).f0)))) + (mn ((rd_T30 y118 x18).f1) ((rd_T30 y118 x18).f2)))) (y118.set (x18 : Int).toNat (⟨(rd_T30 y118 x18).f0, (rd_T30 y118 x18).f1, wrap64 (((rd_T30 y118 x18).f2) - (mn ((rd_T30 y118 x18).f1) ((rd_T30 y118 x18).f2)))⟩ : S30)) (x8 ++ [mx 0 (wrap64 (((rd_T30 y114 x18).f2) - ((rd_T30 y114 x18).f0)))]) x17 (wrap64 (x18 + 1))) else (none)))) else (none)) else (none)) else (some (x7, x8, x1))
def impl_tickRow.f (k : Nat) (l0 : List (S30)) (a1 : Int) : Option ((List (S30)) × List Int × Int) := (impl_Basin_63.f l0).bind fun t106 => (impl_tickRow.l0 k a1 t106 (([] : List Int)) (t106.length : Int) 0)
set_option maxHeartbeats 8000000 in
set_option maxRecDepth 100000 in
theorem impl_tickRow.calls (k : Nat) (A0 : Option Addr) (c0 : Nat) (l0 : List (S30)) (a1 : Int) (r1 : List (S30)) (r2 : List Int) (r3 : Int) (w : World) (hr0 : Kd.C k30 w A0 l0.length l0) (hc0 : l0.length ≤ c0) (h : impl_tickRow.f k l0 a1 = some (r1, r2, r3)) :
  Calls Try.prog 50 #[.slice A0 l0.length c0, .int .i64 a1] w fun e w' => ∃ v0_ v1_ : Value, e = .returned (.tuple #[v0_, v1_, .int .i64 r3]) ∧ Kd.R k30 30 w' w.heap.size (fun _ => True) v0_ r1 ∧ Kd.R (Kd.int .i64) 3 w' w.heap.size (fun _ => True) v1_ r2 ∧ Below w.heap.size w w' := by
 have HR0 := Aside0.mk hr0
 have HC0 := Aside0.mk hc0
 clear hr0 hc0
 have HB := Aside0.mk (Below.refl w.heap.size w)
 have H : ((impl_Basin_63.f l0).bind fun t106 => (impl_tickRow.l0 k a1 t106 (([] : List Int)) (t106.length : Int) 0)) = some (r1, r2, r3) := h
 clear h
 replace H := Option.bind_eq_some_iff.mp H
 obtain ⟨t106, A30, H⟩ := H
 (try dsimp only at H)
 have A3 := Aside0.mk A30
 clear A30
 obtain ⟨y109, hy109⟩ : ∃ y_ : List Int, y_ = (([] : List Int)) := ⟨_, rfl⟩
 replace H : (impl_tickRow.l0 k a1 t106 y109 (t106.length : Int) 0) = some (r1, r2, r3) := by first | (rw [hy109]; with_reducible exact H) | (have H2_ := (Option.bind_some _ _).symm.trans H; rw [hy109]; with_reducible exact H2_) | (have H2_ := (Option.bind_some _ _).symm.trans H; with_reducible exact H2_) | with_reducible exact H | (rw [hy109]; exact H) | exact H
 have Ny109 := Aside0.mk hy109
 clear hy109
 have H' := Aside0.mk H
 clear H
 go_enter Try.func50, Try.ntmps50
 go_wp2_with (first | (go_at_call 63; (with_reducible refine (impl_Basin_63.calls _ _ l0 t106 _ ?side1 ?side2 A3.out).mono ?_); (case side1 => repeat (first | exact HR0.out | (with_reducible refine Kd.C_alloc ?_ _) | (with_reducible refine Kd.C_drewN ?_ _) | (with_reducible refine Kd.C_drew ?_))); (case side2 => exact HC0.out); rintro e w4 ⟨v107, rfl, ho0, hb⟩; have HO108 := lo ho0 HB; replace HB := bs HB hb; (try clear hb); (try clear ho0)) | ((with_reducible refine gate_dst (N := 15) rfl ?_); refine Kd.R_lit (Kd.int .i64) _ 3 ?hg (N := 15) ?hd (xs := ([] : List Int)) (inner := []) (ok := fun _ => True) (okp := fun _ => True) ?hr ?hp (fun _ hk => hk) trivial (Below.refl _ _) (Nat.le_refl _) (by simp) ?_; (case hd => rfl); (case hg => rfl); (case hr => first | (go_simp; done) | (go_simp; rfl)); (case hp => exact (Reps.none _ _)); intro v110 w5 ho6 hb hg_ hnew_; clear hg_ hnew_; (first | rw [← Ny109.out] at ho6 | (simp only [Int.reduceToNat] at ho6; rw [← Ny109.out] at ho6)); replace HO108 := rb HO108 hb; have HO111 := lo ho6 HB; replace HB := bs HB hb; clear hb ho6; obtain ⟨Ao7, co7, eo7⟩ := Kd.R_slice HO108.out; subst eo7))
 repeat (go_quiet (first | (go_at_call 63; (with_reducible refine (impl_Basin_63.calls _ _ l0 t106 _ ?side1 ?side2 A3.out).mono ?_); (case side1 => repeat (first | exact HR0.out | (with_reducible refine Kd.C_alloc ?_ _) | (with_reducible refine Kd.C_drewN ?_ _) | (with_reducible refine Kd.C_drew ?_))); (case side2 => exact HC0.out); rintro e w4 ⟨v107, rfl, ho0, hb⟩; have n0_ := lo ho0 HB; have n1_ := bs HB hb; clear HB; have HO108 := n0_; have HB := n1_; clear n0_ n1_; (try clear hb); (try clear hb2); (try clear hk); (try clear hi); (try clear ho0)) | ((with_reducible refine gate_dst (N := 15) rfl ?_); refine Kd.R_lit (Kd.int .i64) _ 3 ?hg (N := 15) ?hd (xs := ([] : List Int)) (inner := []) (ok := fun _ => True) (okp := fun _ => True) ?hr ?hp (fun _ hk => hk) trivial (Below.refl _ _) (Nat.le_refl _) (by simp) ?_; (case hd => rfl); (case hg => rfl); (case hr => first | (go_simp; done) | (go_simp; rfl)); (case hp => exact (Reps.none _ _)); intro v110 w5 ho6 hb hg_ hnew_; clear hg_ hnew_; (first | rw [← Ny109.out] at ho6 | (simp only [Int.reduceToNat] at ho6; rw [← Ny109.out] at ho6)); have n0_ := rb HO108 hb; have n1_ := lo ho6 HB; have n2_ := bs HB hb; clear HO108; clear HB; have HO108 := n0_; have HO111 := n1_; have HB := n2_; clear n0_ n1_ n2_; clear hb ho6; obtain ⟨Ao7, co7, eo7⟩ := Kd.R_slice HO108.out; subst eo7)); try go_wp2_with (first | (go_at_call 63; (with_reducible refine (impl_Basin_63.calls _ _ l0 t106 _ ?side1 ?side2 A3.out).mono ?_); (case side1 => repeat (first | exact HR0.out | (with_reducible refine Kd.C_alloc ?_ _) | (with_reducible refine Kd.C_drewN ?_ _) | (with_reducible refine Kd.C_drew ?_))); (case side2 => exact HC0.out); rintro e w4 ⟨v107, rfl, ho0, hb⟩; have n0_ := lo ho0 HB; have n1_ := bs HB hb; clear HB; have HO108 := n0_; have HB := n1_; clear n0_ n1_; (try clear hb); (try clear hb2); (try clear hk); (try clear hi); (try clear ho0)) | ((with_reducible refine gate_dst (N := 15) rfl ?_); refine Kd.R_lit (Kd.int .i64) _ 3 ?hg (N := 15) ?hd (xs := ([] : List Int)) (inner := []) (ok := fun _ => True) (okp := fun _ => True) ?hr ?hp (fun _ hk => hk) trivial (Below.refl _ _) (Nat.le_refl _) (by simp) ?_; (case hd => rfl); (case hg => rfl); (case hr => first | (go_simp; done) | (go_simp; rfl)); (case hp => exact (Reps.none _ _)); intro v110 w5 ho6 hb hg_ hnew_; clear hg_ hnew_; (first | rw [← Ny109.out] at ho6 | (simp only [Int.reduceToNat] at ho6; rw [← Ny109.out] at ho6)); have n0_ := rb HO108 hb; have n1_ := lo ho6 HB; have n2_ := bs HB hb; clear HO108; clear HB; have HO108 := n0_; have HO111 := n1_; have HB := n2_; clear n0_ n1_ n2_; clear hb ho6; obtain ⟨Ao7, co7, eo7⟩ := Kd.R_slice HO108.out; subst eo7)))
 try simp only [Act.put, List.setIfInBounds_toArray, List.set_cons_zero, List.set_cons_succ]
 go_loopg [1, 8, 18] k (fun kq v1 v8 v18 w' => ∃ (x1_1 : Int) (x7_1 : List (S30)) (x8_1 : List Int) (x18_1 : Int), v1 = .int .i64 x1_1 ∧ v18 = .int .i64 x18_1 ∧ Aside0 (impl_tickRow.l0 kq x1_1 x7_1 x8_1 (t106.length : Int) x18_1 = some (r1, r2, r3)) ∧ Aside0 (kq ≤ k) ∧ Aside0 (Kd.R k30 30 w' w.heap.size (fun _ => True) (.slice Ao7 t106.length co7) x7_1) ∧ Aside0 (Kd.R (Kd.int .i64) 3 w' w.heap.size (fun _ => True) v8 x8_1) ∧ Aside0 (Below w.heap.size w w'))
 case atStart => exact ⟨(a1), (t106), (y109), (0), (by first | rfl | (simp; done) | (simp [*]; done)), (by first | rfl | (simp; done) | (simp [*]; done)), H', ⟨Nat.le_refl _⟩, ⟨rk HO108⟩, ⟨rk HO111⟩, ⟨bw HB⟩⟩
 case round =>
  clear H'
  (try clear p2); (try clear c5)
  obtain ⟨x1_1, x7_1, x8_1, x18_1, rfl, rfl, HA, HK1, HO_7, HO_8, HB⟩ := hrel
  have hl7_1 := (Kd.R_reads' HO_7.out).1
  rw [hl7_1] at HO_7
  (try simp only [hl7_1])
  (try simp only [hl7_1] at HO_8)
  cases gk with
  | zero => exact absurd HA.out (by simp [impl_tickRow.l0])
  | succ k1 =>
   have H := HA.out
   clear HA
   simp only [impl_tickRow.l0] at H
   by_cases c8 : x18_1 < (t106.length : Int)
   rotate_left
   ·rw [if_neg c8] at H
    have c8b0 : decide (x18_1 < (t106.length : Int)) = false := decide_eq_false c8
    (try rw [hl7_1] at c8b0)
    clear c8
    simp only [Option.some.injEq, Prod.mk.injEq] at H
    obtain ⟨rfl, rfl, rfl⟩ := H
    go_wp2
    repeat (go_quiet (fail); try go_wp2)
    go_ret3
    exact ⟨_, _, by first | rfl | (simp [errW_none, errW_some] <;> rfl) | (simp [*, errW_none, errW_some] <;> rfl), rk HO_7, rk HO_8, bw HB⟩
   rw [if_pos c8] at H
   have c8b0 : decide (x18_1 < (t106.length : Int)) = true := decide_eq_true c8
   (try rw [hl7_1] at c8b0)
   clear c8
   by_cases c9 : 0 ≤ x18_1
   rotate_left
   ·rw [if_neg c9] at H
    exact absurd H (by simp)
   rw [if_pos c9] at H
   have c9b0 : decide (0 ≤ x18_1) = true := decide_eq_true c9
   clear c9
   by_cases c10 : x18_1 < (x7_1.length : Int)
   rotate_left
   ·rw [if_neg c10] at H
    exact absurd H (by simp)
   rw [if_pos c10] at H
   have c10b0 : decide (x18_1 < (x7_1.length : Int)) = true := decide_eq_true c10
   (try rw [hl7_1] at c10b0)
   clear c10
   obtain ⟨y114, hy114⟩ : ∃ y_ : List (S30), y_ = (x7_1.set (x18_1 : Int).toNat (⟨(rd_T30 x7_1 x18_1).f0, (rd_T30 x7_1 x18_1).f1, wrap64 (((rd_T30 x7_1 x18_1).f2) + x1_1)⟩ : S30)) := ⟨_, rfl⟩
   replace H : ((some (y114.set (x18_1 : Int).toNat (⟨(rd_T30 y114 x18_1).f0, (rd_T30 y114 x18_1).f1, wrap64 (((rd_T30 y114 x18_1).f2) - (mx 0 (wrap64 (((rd_T30 y114 x18_1).f2) - ((rd_T30 y114 x18_1).f0)))))⟩ : S30) : List (S30))).bind fun y118 => (if x8_1.length < 17592186044416 then (impl_tickRow.l0 k1 (wrap64 ((mx 0 (wrap64 (((rd_T30 y114 x18_1).f2) - ((rd_T30 y114 x18_1).f0)))) + (mn ((rd_T30 y118 x18_1).f1) ((rd_T30 y118 x18_1).f2)))) (y118.set (x18_1 : Int).toNat (⟨(rd_T30 y118 x18_1).f0, (rd_T30 y118 x18_1).f1, wrap64 (((rd_T30 y118 x18_1).f2) - (mn ((rd_T30 y118 x18_1).f1) ((rd_T30 y118 x18_1).f2)))⟩ : S30)) (x8_1 ++ [mx 0 (wrap64 (((rd_T30 y114 x18_1).f2) - ((rd_T30 y114 x18_1).f0)))]) (t106.length : Int) (wrap64 (x18_1 + 1))) else (none))) = some (r1, r2, r3) := by first | (rw [hy114]; with_reducible exact H) | (have H2_ := (Option.bind_some _ _).symm.trans H; rw [hy114]; with_reducible exact H2_) | (have H2_ := (Option.bind_some _ _).symm.trans H; with_reducible exact H2_) | with_reducible exact H | (rw [hy114]; exact H) | exact H
   have Ny114 := Aside0.mk hy114
   clear hy114
   obtain ⟨ji12, hji12⟩ : ∃ j_ : Int, (mx 0 (wrap64 (((rd_T30 y114 x18_1).f2) - ((rd_T30 y114 x18_1).f0)))) = j_ := ⟨_, rfl⟩
   replace H : ((some (y114.set (x18_1 : Int).toNat (⟨(rd_T30 y114 x18_1).f0, (rd_T30 y114 x18_1).f1, wrap64 (((rd_T30 y114 x18_1).f2) - (ji12))⟩ : S30) : List (S30))).bind fun y118 => (if x8_1.length < 17592186044416 then (impl_tickRow.l0 k1 (wrap64 ((ji12) + (mn ((rd_T30 y118 x18_1).f1) ((rd_T30 y118 x18_1).f2)))) (y118.set (x18_1 : Int).toNat (⟨(rd_T30 y118 x18_1).f0, (rd_T30 y118 x18_1).f1, wrap64 (((rd_T30 y118 x18_1).f2) - (mn ((rd_T30 y118 x18_1).f1) ((rd_T30 y118 x18_1).f2)))⟩ : S30)) (x8_1 ++ [ji12]) (t106.length : Int) (wrap64 (x18_1 + 1))) else (none))) = some (r1, r2, r3) := by first | (rw [hji12] at H; exact H) | (simp only [hji12] at H ⊢; exact H)
   have hji12_ : (if 0 < (wrap64 (((rd_T30 y114 x18_1).f2) - ((rd_T30 y114 x18_1).f0))) then (wrap64 (((rd_T30 y114 x18_1).f2) - ((rd_T30 y114 x18_1).f0))) else 0) = ji12 := hji12
   obtain ⟨y118, hy118⟩ : ∃ y_ : List (S30), y_ = (y114.set (x18_1 : Int).toNat (⟨(rd_T30 y114 x18_1).f0, (rd_T30 y114 x18_1).f1, wrap64 (((rd_T30 y114 x18_1).f2) - (ji12))⟩ : S30)) := ⟨_, rfl⟩
   replace H : (if x8_1.length < 17592186044416 then (impl_tickRow.l0 k1 (wrap64 ((ji12) + (mn ((rd_T30 y118 x18_1).f1) ((rd_T30 y118 x18_1).f2)))) (y118.set (x18_1 : Int).toNat (⟨(rd_T30 y118 x18_1).f0, (rd_T30 y118 x18_1).f1, wrap64 (((rd_T30 y118 x18_1).f2) - (mn ((rd_T30 y118 x18_1).f1) ((rd_T30 y118 x18_1).f2)))⟩ : S30)) (x8_1 ++ [ji12]) (t106.length : Int) (wrap64 (x18_1 + 1))) else (none)) = some (r1, r2, r3) := by first | (rw [hy118]; with_reducible exact H) | (have H2_ := (Option.bind_some _ _).symm.trans H; rw [hy118]; with_reducible exact H2_) | (have H2_ := (Option.bind_some _ _).symm.trans H; with_reducible exact H2_) | with_reducible exact H | (rw [hy118]; exact H) | exact H
   have Ny118 := Aside0.mk hy118
   clear hy118
   obtain ⟨ji14, hji14⟩ : ∃ j_ : Int, (mn ((rd_T30 y118 x18_1).f1) ((rd_T30 y118 x18_1).f2)) = j_ := ⟨_, rfl⟩
   replace H : (if x8_1.length < 17592186044416 then (impl_tickRow.l0 k1 (wrap64 ((ji12) + (ji14))) (y118.set (x18_1 : Int).toNat (⟨(rd_T30 y118 x18_1).f0, (rd_T30 y118 x18_1).f1, wrap64 (((rd_T30 y118 x18_1).f2) - (ji14))⟩ : S30)) (x8_1 ++ [ji12]) (t106.length : Int) (wrap64 (x18_1 + 1))) else (none)) = some (r1, r2, r3) := by first | (rw [hji14] at H; exact H) | (simp only [hji14] at H ⊢; exact H)
   have hji14_ : (if ((rd_T30 y118 x18_1).f2) < ((rd_T30 y118 x18_1).f1) then ((rd_T30 y118 x18_1).f2) else ((rd_T30 y118 x18_1).f1)) = ji14 := hji14
   obtain ⟨y122, hy122⟩ : ∃ y_ : List (S30), y_ = (y118.set (x18_1 : Int).toNat (⟨(rd_T30 y118 x18_1).f0, (rd_T30 y118 x18_1).f1, wrap64 (((rd_T30 y118 x18_1).f2) - (ji14))⟩ : S30)) := ⟨_, rfl⟩
   replace H : (if x8_1.length < 17592186044416 then (impl_tickRow.l0 k1 (wrap64 ((ji12) + (ji14))) y122 (x8_1 ++ [ji12]) (t106.length : Int) (wrap64 (x18_1 + 1))) else (none)) = some (r1, r2, r3) := by first | (rw [hy122]; with_reducible exact H) | (have H2_ := (Option.bind_some _ _).symm.trans H; rw [hy122]; with_reducible exact H2_) | (have H2_ := (Option.bind_some _ _).symm.trans H; with_reducible exact H2_) | with_reducible exact H | (rw [hy122]; exact H) | exact H
   have Ny122 := Aside0.mk hy122
   clear hy122
   by_cases c16 : x8_1.length < 17592186044416
   rotate_left
   ·rw [if_neg c16] at H
    exact absurd H (by simp)
   rw [if_pos c16] at H
   have LMc16 := Aside0.mk c16
   clear c16
   obtain ⟨y123, hy123⟩ : ∃ y_ : List Int, y_ = (x8_1 ++ [ji12]) := ⟨_, rfl⟩
   replace H : (impl_tickRow.l0 k1 (wrap64 ((ji12) + (ji14))) y122 y123 (t106.length : Int) (wrap64 (x18_1 + 1))) = some (r1, r2, r3) := by first | (rw [hy123]; with_reducible exact H) | (have H2_ := (Option.bind_some _ _).symm.trans H; rw [hy123]; with_reducible exact H2_) | (have H2_ := (Option.bind_some _ _).symm.trans H; with_reducible exact H2_) | with_reducible exact H | (rw [hy123]; exact H) | exact H
   have Ny123 := Aside0.mk hy123
   clear hy123
   have H' := Aside0.mk H
   clear H
   have p112 : 0 ≤ (x18_1 : Int) := of_decide_eq_true ‹_›
   have q112 : x18_1 < (x7_1.length : Int) := of_decide_eq_true ‹_›
   obtain ⟨ad112, e112, hx112_0, hx112_1, hx112_2⟩ := at_T30 (Kd.R_reads' HO_7.out).2.2 x18_1 p112 q112
   cases e112
   replace p112 := eq_true p112
   replace q112 := eq_true q112
   have p113 : 0 ≤ (x18_1 : Int) := of_decide_eq_true ‹_›
   have q113 : x18_1 < (x7_1.length : Int) := of_decide_eq_true ‹_›
   obtain ⟨ad113, e113, hx113_0, hx113_1, hx113_2⟩ := at_T30 (Kd.R_reads' HO_7.out).2.2 x18_1 p113 q113
   obtain rfl : ad112 = ad113 := (by injection e113)
   replace p113 := eq_true p113
   replace q113 := eq_true q113
   have p11 : 0 ≤ (x18_1 : Int) := of_decide_eq_true ‹_›
   have q11 : (x18_1 : Int) < ((x7_1.length : Int) : Int) := of_decide_eq_true ‹_›
   obtain ⟨go11, co11, eo11, gb11, gl11, cl11, HG11⟩ := Kd.R_form HO_7.out (by omega)
   (first | cases eo11 | (injection eo11 with ea_ en_ ec_; (first | subst ea_ | (injection ea_ with ea_; subst ea_)); subst ec_; clear en_))
   have GB11 := Aside0.mk gb11
   have GG11 := Aside0.mk HG11
   clear gb11 gl11 HG11
   (first | simp only [add_plain] at hx112_0 | skip)
   (first | simp only [add_plain] at hx112_1 | skip)
   (first | simp only [add_plain] at hx112_2 | skip)
   (first | simp only [add_plain] at hx113_0 | skip)
   (first | simp only [add_plain] at hx113_1 | skip)
   (first | simp only [add_plain] at hx113_2 | skip)
   obtain ⟨ce11, hcl11, hM11, hcc11, hfr11⟩ := Kd.R_elem HO_7.out z30 (x18_1 : Int) p11 q11
   obtain rfl := k30_openM hM11
   have hx11_0 : wr.cell? ⟨go11, (x18_1 : Int).toNat * 3, none⟩ = some (.int .i64 ((rd_T30 x7_1 x18_1).f0)) := hcc11 0 _ rfl
   have hx11_1 : wr.cell? ⟨go11, (x18_1 : Int).toNat * 3 + 1, none⟩ = some (.int .i64 ((rd_T30 x7_1 x18_1).f1)) := hcc11 1 _ rfl
   have hx11_2 : wr.cell? ⟨go11, (x18_1 : Int).toNat * 3 + 2, none⟩ = some (.int .i64 ((rd_T30 x7_1 x18_1).f2)) := hcc11 2 _ rfl
   have hf11_0 : wr.frozen? ⟨go11, (x18_1 : Int).toNat * 3, none⟩ = false := hfr11 0
   have hf11_1 : wr.frozen? ⟨go11, (x18_1 : Int).toNat * 3 + 1, none⟩ = false := hfr11 1
   have hf11_2 : wr.frozen? ⟨go11, (x18_1 : Int).toNat * 3 + 2, none⟩ = false := hfr11 2
   clear hcl11 hcc11 hfr11 hM11
   replace p11 := eq_true p11
   replace q11 := eq_true q11
   have HX17 := Aside0.mk (show Kd.R k30 30 wr w.heap.size (fun _ => True) (.slice (some ⟨go11, 0, none⟩) x7_1.length co7) x7_1 from (rk HO_7))
   obtain ⟨ce17, hcl17, hM17, hcc17, hfr17⟩ := Kd.R_elem HX17.out z30 (x18_1 : Int) (of_decide_eq_true ‹_›) (by have h_ : (x18_1 : Int) < ((x7_1.length : Int) : Int) := of_decide_eq_true ‹_›; first | exact h_ | (have e_ := (Kd.R_reads' HO_7.out).1; omega) | simpa using h_)
   obtain rfl := k30_openM hM17
   have HP17 := Kd.R_seg HX17.out (x18_1 : Int) (of_decide_eq_true ‹_›) (by have h_ : (x18_1 : Int) < ((x7_1.length : Int) : Int) := of_decide_eq_true ‹_›; first | exact h_ | (have e_ := (Kd.R_reads' HO_7.out).1; omega) | simpa using h_) (seg := [.int .i64 (wrap64 (((rd_T30 x7_1 x18_1).f2) + x1_1))]) (j := 2) hcl17 hcc17 (show 3 ≤ 3 from by decide) (x' := (⟨(rd_T30 x7_1 x18_1).f0, (rd_T30 x7_1 x18_1).f1, wrap64 (((rd_T30 x7_1 x18_1).f2) + x1_1)⟩ : S30)) (k30_mkM _ _ _ (⟨(rd_T30 x7_1 x18_1).f0, (rd_T30 x7_1 x18_1).f1, wrap64 (((rd_T30 x7_1 x18_1).f2) + x1_1)⟩ : S30) ) (fun _ hk => hk)
   have hx17_2 := hcc17 2 _ rfl
   (try simp only [show (k30).sz = 3 from rfl, Nat.mul_one, Nat.add_zero] at hx17_2)
   have hf17_2 := hfr17 2
   (try simp only [show (k30).sz = 3 from rfl, Nat.mul_one, Nat.add_zero] at hf17_2)
   clear hcl17 hcc17 hfr17 hM17
   go_wp2_with (first | ((with_reducible refine gate_store (t := 3) (p := 31) rfl ?_); (try (rw [drewN_self wr]; generalize hq_ : World.drewN wr _ = wr; have n0_ := Aside0.mk (Kd.R_at hq_ HO_7.out); have n1_ := Aside0.mk (Kd.R_at hq_ HO_8.out); have n2_ := Aside0.mk (below_at hq_ HB.out); clear hq_ HO_7 HO_8 HB; have HO_7 := n0_; have HO_8 := n1_; have HB := n2_; clear n0_ n1_ n2_; (try (have HX17 := Aside0.mk (show Kd.R k30 30 wr w.heap.size (fun _ => True) (.slice (some ⟨go11, 0, none⟩) x7_1.length co7) x7_1 from (rk HO_7)))); (try (obtain ⟨ce17, hcl17, hM17, hcc17, hfr17⟩ := Kd.R_elem HX17.out z30 (x18_1 : Int) (of_decide_eq_true ‹_›) (by have h_ : (x18_1 : Int) < ((x7_1.length : Int) : Int) := of_decide_eq_true ‹_›; first | exact h_ | (have e_ := (Kd.R_reads' HO_7.out).1; omega) | simpa using h_))); (try (obtain rfl := k30_openM hM17)); (try (have HP17 := Kd.R_seg HX17.out (x18_1 : Int) (of_decide_eq_true ‹_›) (by have h_ : (x18_1 : Int) < ((x7_1.length : Int) : Int) := of_decide_eq_true ‹_›; first | exact h_ | (have e_ := (Kd.R_reads' HO_7.out).1; omega) | simpa using h_) (seg := [.int .i64 (wrap64 (((rd_T30 x7_1 x18_1).f2) + x1_1))]) (j := 2) hcl17 hcc17 (show 3 ≤ 3 from by decide) (x' := (⟨(rd_T30 x7_1 x18_1).f0, (rd_T30 x7_1 x18_1).f1, wrap64 (((rd_T30 x7_1 x18_1).f2) + x1_1)⟩ : S30)) (k30_mkM _ _ _ (⟨(rd_T30 x7_1 x18_1).f0, (rd_T30 x7_1 x18_1).f1, wrap64 (((rd_T30 x7_1 x18_1).f2) + x1_1)⟩ : S30) ) (fun _ hk => hk))); (try (have hx17_2 := hcc17 2 _ rfl)); (try (try simp only [show (k30).sz = 3 from rfl, Nat.mul_one, Nat.add_zero] at hx17_2)); (try (have hf17_2 := hfr17 2)); (try (try simp only [show (k30).sz = 3 from rfl, Nat.mul_one, Nat.add_zero] at hf17_2)); (try (clear hcl17 hcc17 hfr17 hM17)))); refine store_event (t := 3) (p := 31) (v := ?vo_w18) (w1 := (wr.setCell ⟨go11, (x18_1 : Int).toNat * 3 + 2, none⟩ (.int .i64 (wrap64 (((rd_T30 x7_1 x18_1).f2) + x1_1))))) ?hg ?ho ?hn ?hr ?_; (case ho => rfl); (case hg => rfl); (case hn => rfl); (case hr => first | (go_simp; done) | (go_simp; rfl)); intro w18 hw; have hg : wr.grownBy w18 (some go11) := (by rw [hw]; exact HP17.2); have hp_ : Kd.R k30 30 w18 w.heap.size (fun _ => True) (.slice (some ⟨go11, 0, none⟩) x7_1.length co7) y114 := (by rw [hw, Ny114.out]; exact HP17.1); clear HP17; replace HO_8 := Aside0.mk (Kd.R_over' (v := (.slice (some ⟨go11, 0, none⟩) x7_1.length co7)) (rk HO_8) (Kd.R_typed HO_7.out) (by decide) hg); replace HO_7 := Aside0.mk (hp_); replace HB := Aside0.mk ((by rw [hw]; exact below_set (HB.out) GB11.out : Below w.heap.size w w18)); clear hg hw hp_; have p115 : 0 ≤ (x18_1 : Int) := of_decide_eq_true ‹_›; have q115 : x18_1 < (y114.length : Int) := (by have h_ : (x18_1 : Int) < ((x7_1.length : Int) : Int) := of_decide_eq_true ‹_›; first | (have e_ := (Kd.R_reads' HO_7.out).1; omega) | simpa only [Ny114.out, List.length_set] using h_); have ql115 : ((x18_1 : Int) < ((x7_1.length : Int) : Int)) = True := eq_true (of_decide_eq_true ‹_›); obtain ⟨ad115, e115, hx115_0, hx115_1, hx115_2⟩ := at_T30 (Kd.R_reads' HO_7.out).2.2 x18_1 p115 q115; obtain rfl : (⟨go11, 0, none⟩ : Addr) = ad115 := (by injection e115); (first | simp only [add_plain] at hx115_0 | simp only [add_at] at hx115_0 | simp only [Addr.add, Nat.zero_add] at hx115_0 | skip); (first | simp only [add_plain] at hx115_1 | simp only [add_at] at hx115_1 | simp only [Addr.add, Nat.zero_add] at hx115_1 | skip); (first | simp only [add_plain] at hx115_2 | simp only [add_at] at hx115_2 | simp only [Addr.add, Nat.zero_add] at hx115_2 | skip); replace p115 := eq_true p115; replace q115 := eq_true q115; have p116 : 0 ≤ (x18_1 : Int) := of_decide_eq_true ‹_›; have q116 : x18_1 < (y114.length : Int) := (by have h_ : (x18_1 : Int) < ((x7_1.length : Int) : Int) := of_decide_eq_true ‹_›; first | (have e_ := (Kd.R_reads' HO_7.out).1; omega) | simpa only [Ny114.out, List.length_set] using h_); have ql116 : ((x18_1 : Int) < ((x7_1.length : Int) : Int)) = True := eq_true (of_decide_eq_true ‹_›); obtain ⟨ad116, e116, hx116_0, hx116_1, hx116_2⟩ := at_T30 (Kd.R_reads' HO_7.out).2.2 x18_1 p116 q116; obtain rfl : (⟨go11, 0, none⟩ : Addr) = ad116 := (by injection e116); (first | simp only [add_plain] at hx116_0 | simp only [add_at] at hx116_0 | simp only [Addr.add, Nat.zero_add] at hx116_0 | skip); (first | simp only [add_plain] at hx116_1 | simp only [add_at] at hx116_1 | simp only [Addr.add, Nat.zero_add] at hx116_1 | skip); (first | simp only [add_plain] at hx116_2 | simp only [add_at] at hx116_2 | simp only [Addr.add, Nat.zero_add] at hx116_2 | skip); replace p116 := eq_true p116; replace q116 := eq_true q116; have p117 : 0 ≤ (x18_1 : Int) := of_decide_eq_true ‹_›; have q117 : x18_1 < (y114.length : Int) := (by have h_ : (x18_1 : Int) < ((x7_1.length : Int) : Int) := of_decide_eq_true ‹_›; first | (have e_ := (Kd.R_reads' HO_7.out).1; omega) | simpa only [Ny114.out, List.length_set] using h_); have ql117 : ((x18_1 : Int) < ((x7_1.length : Int) : Int)) = True := eq_true (of_decide_eq_true ‹_›); obtain ⟨ad117, e117, hx117_0, hx117_1, hx117_2⟩ := at_T30 (Kd.R_reads' HO_7.out).2.2 x18_1 p117 q117; obtain rfl : (⟨go11, 0, none⟩ : Addr) = ad117 := (by injection e117); (first | simp only [add_plain] at hx117_0 | simp only [add_at] at hx117_0 | simp only [Addr.add, Nat.zero_add] at hx117_0 | skip); (first | simp only [add_plain] at hx117_1 | simp only [add_at] at hx117_1 | simp only [Addr.add, Nat.zero_add] at hx117_1 | skip); (first | simp only [add_plain] at hx117_2 | simp only [add_at] at hx117_2 | simp only [Addr.add, Nat.zero_add] at hx117_2 | skip); replace p117 := eq_true p117; replace q117 := eq_true q117; have p13 : 0 ≤ (x18_1 : Int) := of_decide_eq_true ‹_›; have q13 : (x18_1 : Int) < ((x7_1.length : Int) : Int) := of_decide_eq_true ‹_›; obtain ⟨ce13, hcl13, hM13, hcc13, hfr13⟩ := Kd.R_elem HO_7.out z30 (x18_1 : Int) p13 q13; obtain rfl := k30_openM hM13; have hx13_0 : w18.cell? ⟨go11, (x18_1 : Int).toNat * 3, none⟩ = some (.int .i64 ((rd_T30 y114 x18_1).f0)) := hcc13 0 _ rfl; have hx13_1 : w18.cell? ⟨go11, (x18_1 : Int).toNat * 3 + 1, none⟩ = some (.int .i64 ((rd_T30 y114 x18_1).f1)) := hcc13 1 _ rfl; have hx13_2 : w18.cell? ⟨go11, (x18_1 : Int).toNat * 3 + 2, none⟩ = some (.int .i64 ((rd_T30 y114 x18_1).f2)) := hcc13 2 _ rfl; have hf13_0 : w18.frozen? ⟨go11, (x18_1 : Int).toNat * 3, none⟩ = false := hfr13 0; have hf13_1 : w18.frozen? ⟨go11, (x18_1 : Int).toNat * 3 + 1, none⟩ = false := hfr13 1; have hf13_2 : w18.frozen? ⟨go11, (x18_1 : Int).toNat * 3 + 2, none⟩ = false := hfr13 2; clear hcl13 hcc13 hfr13 hM13; replace p13 := eq_true p13; replace q13 := eq_true q13; have HX19 := Aside0.mk (show Kd.R k30 30 w18 w.heap.size (fun _ => True) (.slice (some ⟨go11, 0, none⟩) x7_1.length co7) y114 from (rk HO_7)); obtain ⟨ce19, hcl19, hM19, hcc19, hfr19⟩ := Kd.R_elem HX19.out z30 (x18_1 : Int) (of_decide_eq_true ‹_›) (by have h_ : (x18_1 : Int) < ((x7_1.length : Int) : Int) := of_decide_eq_true ‹_›; first | exact h_ | (have e_ := (Kd.R_reads' HO_7.out).1; omega) | simpa using h_); obtain rfl := k30_openM hM19; have HP19 := Kd.R_seg HX19.out (x18_1 : Int) (of_decide_eq_true ‹_›) (by have h_ : (x18_1 : Int) < ((x7_1.length : Int) : Int) := of_decide_eq_true ‹_›; first | exact h_ | (have e_ := (Kd.R_reads' HO_7.out).1; omega) | simpa using h_) (seg := [.int .i64 (wrap64 (((rd_T30 y114 x18_1).f2) - (ji12)))]) (j := 2) hcl19 hcc19 (show 3 ≤ 3 from by decide) (x' := (⟨(rd_T30 y114 x18_1).f0, (rd_T30 y114 x18_1).f1, wrap64 (((rd_T30 y114 x18_1).f2) - (ji12))⟩ : S30)) (k30_mkM _ _ _ (⟨(rd_T30 y114 x18_1).f0, (rd_T30 y114 x18_1).f1, wrap64 (((rd_T30 y114 x18_1).f2) - (ji12))⟩ : S30) ) (fun _ hk => hk); have hx19_2 := hcc19 2 _ rfl; (try simp only [show (k30).sz = 3 from rfl, Nat.mul_one, Nat.add_zero] at hx19_2); have hf19_2 := hfr19 2; (try simp only [show (k30).sz = 3 from rfl, Nat.mul_one, Nat.add_zero] at hf19_2); clear hcl19 hcc19 hfr19 hM19) | ((with_reducible refine gate_store (t := 3) (p := 49) rfl ?_); (try (rw [drewN_self w18]; generalize hq_ : World.drewN w18 _ = w18; have n0_ := Aside0.mk (Kd.R_at hq_ HO_7.out); have n1_ := Aside0.mk (Kd.R_at hq_ HO_8.out); have n2_ := Aside0.mk (below_at hq_ HB.out); clear hq_ HO_7 HO_8 HB; have HO_7 := n0_; have HO_8 := n1_; have HB := n2_; clear n0_ n1_ n2_; (try (have HX19 := Aside0.mk (show Kd.R k30 30 w18 w.heap.size (fun _ => True) (.slice (some ⟨go11, 0, none⟩) x7_1.length co7) y114 from (rk HO_7)))); (try (obtain ⟨ce19, hcl19, hM19, hcc19, hfr19⟩ := Kd.R_elem HX19.out z30 (x18_1 : Int) (of_decide_eq_true ‹_›) (by have h_ : (x18_1 : Int) < ((x7_1.length : Int) : Int) := of_decide_eq_true ‹_›; first | exact h_ | (have e_ := (Kd.R_reads' HO_7.out).1; omega) | simpa using h_))); (try (obtain rfl := k30_openM hM19)); (try (have HP19 := Kd.R_seg HX19.out (x18_1 : Int) (of_decide_eq_true ‹_›) (by have h_ : (x18_1 : Int) < ((x7_1.length : Int) : Int) := of_decide_eq_true ‹_›; first | exact h_ | (have e_ := (Kd.R_reads' HO_7.out).1; omega) | simpa using h_) (seg := [.int .i64 (wrap64 (((rd_T30 y114 x18_1).f2) - (ji12)))]) (j := 2) hcl19 hcc19 (show 3 ≤ 3 from by decide) (x' := (⟨(rd_T30 y114 x18_1).f0, (rd_T30 y114 x18_1).f1, wrap64 (((rd_T30 y114 x18_1).f2) - (ji12))⟩ : S30)) (k30_mkM _ _ _ (⟨(rd_T30 y114 x18_1).f0, (rd_T30 y114 x18_1).f1, wrap64 (((rd_T30 y114 x18_1).f2) - (ji12))⟩ : S30) ) (fun _ hk => hk))); (try (have hx19_2 := hcc19 2 _ rfl)); (try (try simp only [show (k30).sz = 3 from rfl, Nat.mul_one, Nat.add_zero] at hx19_2)); (try (have hf19_2 := hfr19 2)); (try (try simp only [show (k30).sz = 3 from rfl, Nat.mul_one, Nat.add_zero] at hf19_2)); (try (clear hcl19 hcc19 hfr19 hM19)))); refine store_event (t := 3) (p := 49) (v := ?vo_w20) (w1 := (w18.setCell ⟨go11, (x18_1 : Int).toNat * 3 + 2, none⟩ (.int .i64 (wrap64 (((rd_T30 y114 x18_1).f2) - (ji12)))))) ?hg ?ho ?hn ?hr ?_; (case ho => rfl); (case hg => rfl); (case hn => rfl); (case hr => first | (go_simp; done) | (go_simp; rfl)); intro w20 hw; have hg : w18.grownBy w20 (some go11) := (by rw [hw]; exact HP19.2); have hp_ : Kd.R k30 30 w20 w.heap.size (fun _ => True) (.slice (some ⟨go11, 0, none⟩) x7_1.length co7) y118 := (by rw [hw, Ny118.out]; exact HP19.1); clear HP19; replace HO_8 := Aside0.mk (Kd.R_over' (v := (.slice (some ⟨go11, 0, none⟩) x7_1.length co7)) (rk HO_8) (Kd.R_typed HO_7.out) (by decide) hg); replace HO_7 := Aside0.mk (hp_); replace HB := Aside0.mk ((by rw [hw]; exact below_set (HB.out) GB11.out : Below w.heap.size w w20)); clear hg hw hp_; have p119 : 0 ≤ (x18_1 : Int) := of_decide_eq_true ‹_›; have q119 : x18_1 < (y118.length : Int) := (by have h_ : (x18_1 : Int) < ((x7_1.length : Int) : Int) := of_decide_eq_true ‹_›; first | (have e_ := (Kd.R_reads' HO_7.out).1; omega) | simpa only [Ny114.out, Ny118.out, List.length_set] using h_); have ql119 : ((x18_1 : Int) < ((x7_1.length : Int) : Int)) = True := eq_true (of_decide_eq_true ‹_›); obtain ⟨ad119, e119, hx119_0, hx119_1, hx119_2⟩ := at_T30 (Kd.R_reads' HO_7.out).2.2 x18_1 p119 q119; obtain rfl : (⟨go11, 0, none⟩ : Addr) = ad119 := (by injection e119); (first | simp only [add_plain] at hx119_0 | simp only [add_at] at hx119_0 | simp only [Addr.add, Nat.zero_add] at hx119_0 | skip); (first | simp only [add_plain] at hx119_1 | simp only [add_at] at hx119_1 | simp only [Addr.add, Nat.zero_add] at hx119_1 | skip); (first | simp only [add_plain] at hx119_2 | simp only [add_at] at hx119_2 | simp only [Addr.add, Nat.zero_add] at hx119_2 | skip); replace p119 := eq_true p119; replace q119 := eq_true q119; have p120 : 0 ≤ (x18_1 : Int) := of_decide_eq_true ‹_›; have q120 : x18_1 < (y118.length : Int) := (by have h_ : (x18_1 : Int) < ((x7_1.length : Int) : Int) := of_decide_eq_true ‹_›; first | (have e_ := (Kd.R_reads' HO_7.out).1; omega) | simpa only [Ny114.out, Ny118.out, List.length_set] using h_); have ql120 : ((x18_1 : Int) < ((x7_1.length : Int) : Int)) = True := eq_true (of_decide_eq_true ‹_›); obtain ⟨ad120, e120, hx120_0, hx120_1, hx120_2⟩ := at_T30 (Kd.R_reads' HO_7.out).2.2 x18_1 p120 q120; obtain rfl : (⟨go11, 0, none⟩ : Addr) = ad120 := (by injection e120); (first | simp only [add_plain] at hx120_0 | simp only [add_at] at hx120_0 | simp only [Addr.add, Nat.zero_add] at hx120_0 | skip); (first | simp only [add_plain] at hx120_1 | simp only [add_at] at hx120_1 | simp only [Addr.add, Nat.zero_add] at hx120_1 | skip); (first | simp only [add_plain] at hx120_2 | simp only [add_at] at hx120_2 | simp only [Addr.add, Nat.zero_add] at hx120_2 | skip); replace p120 := eq_true p120; replace q120 := eq_true q120; have p121 : 0 ≤ (x18_1 : Int) := of_decide_eq_true ‹_›; have q121 : x18_1 < (y118.length : Int) := (by have h_ : (x18_1 : Int) < ((x7_1.length : Int) : Int) := of_decide_eq_true ‹_›; first | (have e_ := (Kd.R_reads' HO_7.out).1; omega) | simpa only [Ny114.out, Ny118.out, List.length_set] using h_); have ql121 : ((x18_1 : Int) < ((x7_1.length : Int) : Int)) = True := eq_true (of_decide_eq_true ‹_›); obtain ⟨ad121, e121, hx121_0, hx121_1, hx121_2⟩ := at_T30 (Kd.R_reads' HO_7.out).2.2 x18_1 p121 q121; obtain rfl : (⟨go11, 0, none⟩ : Addr) = ad121 := (by injection e121); (first | simp only [add_plain] at hx121_0 | simp only [add_at] at hx121_0 | simp only [Addr.add, Nat.zero_add] at hx121_0 | skip); (first | simp only [add_plain] at hx121_1 | simp only [add_at] at hx121_1 | simp only [Addr.add, Nat.zero_add] at hx121_1 | skip); (first | simp only [add_plain] at hx121_2 | simp only [add_at] at hx121_2 | simp only [Addr.add, Nat.zero_add] at hx121_2 | skip); replace p121 := eq_true p121; replace q121 := eq_true q121; have p15 : 0 ≤ (x18_1 : Int) := of_decide_eq_true ‹_›; have q15 : (x18_1 : Int) < ((x7_1.length : Int) : Int) := of_decide_eq_true ‹_›; obtain ⟨ce15, hcl15, hM15, hcc15, hfr15⟩ := Kd.R_elem HO_7.out z30 (x18_1 : Int) p15 q15; obtain rfl := k30_openM hM15; have hx15_0 : w20.cell? ⟨go11, (x18_1 : Int).toNat * 3, none⟩ = some (.int .i64 ((rd_T30 y118 x18_1).f0)) := hcc15 0 _ rfl; have hx15_1 : w20.cell? ⟨go11, (x18_1 : Int).toNat * 3 + 1, none⟩ = some (.int .i64 ((rd_T30 y118 x18_1).f1)) := hcc15 1 _ rfl; have hx15_2 : w20.cell? ⟨go11, (x18_1 : Int).toNat * 3 + 2, none⟩ = some (.int .i64 ((rd_T30 y118 x18_1).f2)) := hcc15 2 _ rfl; have hf15_0 : w20.frozen? ⟨go11, (x18_1 : Int).toNat * 3, none⟩ = false := hfr15 0; have hf15_1 : w20.frozen? ⟨go11, (x18_1 : Int).toNat * 3 + 1, none⟩ = false := hfr15 1; have hf15_2 : w20.frozen? ⟨go11, (x18_1 : Int).toNat * 3 + 2, none⟩ = false := hfr15 2; clear hcl15 hcc15 hfr15 hM15; replace p15 := eq_true p15; replace q15 := eq_true q15; have HX21 := Aside0.mk (show Kd.R k30 30 w20 w.heap.size (fun _ => True) (.slice (some ⟨go11, 0, none⟩) x7_1.length co7) y118 from (rk HO_7)); obtain ⟨ce21, hcl21, hM21, hcc21, hfr21⟩ := Kd.R_elem HX21.out z30 (x18_1 : Int) (of_decide_eq_true ‹_›) (by have h_ : (x18_1 : Int) < ((x7_1.length : Int) : Int) := of_decide_eq_true ‹_›; first | exact h_ | (have e_ := (Kd.R_reads' HO_7.out).1; omega) | simpa using h_); obtain rfl := k30_openM hM21; have HP21 := Kd.R_seg HX21.out (x18_1 : Int) (of_decide_eq_true ‹_›) (by have h_ : (x18_1 : Int) < ((x7_1.length : Int) : Int) := of_decide_eq_true ‹_›; first | exact h_ | (have e_ := (Kd.R_reads' HO_7.out).1; omega) | simpa using h_) (seg := [.int .i64 (wrap64 (((rd_T30 y118 x18_1).f2) - (ji14)))]) (j := 2) hcl21 hcc21 (show 3 ≤ 3 from by decide) (x' := (⟨(rd_T30 y118 x18_1).f0, (rd_T30 y118 x18_1).f1, wrap64 (((rd_T30 y118 x18_1).f2) - (ji14))⟩ : S30)) (k30_mkM _ _ _ (⟨(rd_T30 y118 x18_1).f0, (rd_T30 y118 x18_1).f1, wrap64 (((rd_T30 y118 x18_1).f2) - (ji14))⟩ : S30) ) (fun _ hk => hk); have hx21_2 := hcc21 2 _ rfl; (try simp only [show (k30).sz = 3 from rfl, Nat.mul_one, Nat.add_zero] at hx21_2); have hf21_2 := hfr21 2; (try simp only [show (k30).sz = 3 from rfl, Nat.mul_one, Nat.add_zero] at hf21_2); clear hcl21 hcc21 hfr21 hM21) | ((with_reducible refine gate_store (t := 3) (p := 66) rfl ?_); (try (rw [drewN_self w20]; generalize hq_ : World.drewN w20 _ = w20; have n0_ := Aside0.mk (Kd.R_at hq_ HO_7.out); have n1_ := Aside0.mk (Kd.R_at hq_ HO_8.out); have n2_ := Aside0.mk (below_at hq_ HB.out); clear hq_ HO_7 HO_8 HB; have HO_7 := n0_; have HO_8 := n1_; have HB := n2_; clear n0_ n1_ n2_; (try (have HX21 := Aside0.mk (show Kd.R k30 30 w20 w.heap.size (fun _ => True) (.slice (some ⟨go11, 0, none⟩) x7_1.length co7) y118 from (rk HO_7)))); (try (obtain ⟨ce21, hcl21, hM21, hcc21, hfr21⟩ := Kd.R_elem HX21.out z30 (x18_1 : Int) (of_decide_eq_true ‹_›) (by have h_ : (x18_1 : Int) < ((x7_1.length : Int) : Int) := of_decide_eq_true ‹_›; first | exact h_ | (have e_ := (Kd.R_reads' HO_7.out).1; omega) | simpa using h_))); (try (obtain rfl := k30_openM hM21)); (try (have HP21 := Kd.R_seg HX21.out (x18_1 : Int) (of_decide_eq_true ‹_›) (by have h_ : (x18_1 : Int) < ((x7_1.length : Int) : Int) := of_decide_eq_true ‹_›; first | exact h_ | (have e_ := (Kd.R_reads' HO_7.out).1; omega) | simpa using h_) (seg := [.int .i64 (wrap64 (((rd_T30 y118 x18_1).f2) - (ji14)))]) (j := 2) hcl21 hcc21 (show 3 ≤ 3 from by decide) (x' := (⟨(rd_T30 y118 x18_1).f0, (rd_T30 y118 x18_1).f1, wrap64 (((rd_T30 y118 x18_1).f2) - (ji14))⟩ : S30)) (k30_mkM _ _ _ (⟨(rd_T30 y118 x18_1).f0, (rd_T30 y118 x18_1).f1, wrap64 (((rd_T30 y118 x18_1).f2) - (ji14))⟩ : S30) ) (fun _ hk => hk))); (try (have hx21_2 := hcc21 2 _ rfl)); (try (try simp only [show (k30).sz = 3 from rfl, Nat.mul_one, Nat.add_zero] at hx21_2)); (try (have hf21_2 := hfr21 2)); (try (try simp only [show (k30).sz = 3 from rfl, Nat.mul_one, Nat.add_zero] at hf21_2)); (try (clear hcl21 hcc21 hfr21 hM21)))); refine store_event (t := 3) (p := 66) (v := ?vo_w22) (w1 := (w20.setCell ⟨go11, (x18_1 : Int).toNat * 3 + 2, none⟩ (.int .i64 (wrap64 (((rd_T30 y118 x18_1).f2) - (ji14)))))) ?hg ?ho ?hn ?hr ?_; (case ho => rfl); (case hg => rfl); (case hn => rfl); (case hr => first | (go_simp; done) | (go_simp; rfl)); intro w22 hw; have hg : w20.grownBy w22 (some go11) := (by rw [hw]; exact HP21.2); have hp_ : Kd.R k30 30 w22 w.heap.size (fun _ => True) (.slice (some ⟨go11, 0, none⟩) x7_1.length co7) y122 := (by rw [hw, Ny122.out]; exact HP21.1); clear HP21; replace HO_8 := Aside0.mk (Kd.R_over' (v := (.slice (some ⟨go11, 0, none⟩) x7_1.length co7)) (rk HO_8) (Kd.R_typed HO_7.out) (by decide) hg); replace HO_7 := Aside0.mk (hp_); replace HB := Aside0.mk ((by rw [hw]; exact below_set (HB.out) GB11.out : Below w.heap.size w w22)); clear hg hw hp_) | ((with_reducible refine gate_builtin (b := .append) (xs := #[.tmp 67, .tmp 69]) rfl ?_); at_builtin; refine Kd.R_append (Kd.int .i64) (w0 := w) w.heap.size rfl (.tmp 67) (.tmp 69) 33 3 (.int .i64 0) 8 rfl Try.underlying33 info3 rfl (by decide) (by omega) u8 x8_1 ji12 [.int .i64 ji12] (fun _ => True) (fun _ => False) rfl rfl ?aP (fun _ hk => hk.elim) ?aF ?aO ?aB ?aS ?aL ?_; (case aP => exact rfl); (case aB => exact (bw HB)); (case aF => exact (fun _ _ => trivial)); (case aO => exact (rk HO_8)); (case aS => exact (below_size (bw HB))); (case aL => have := LMc16.out; omega); intro v124 w23 ho hb hg hat; rw [← Ny123.out] at ho; have n0_ := Aside0.mk (Kd.R_over' (rk HO_7) (Kd.R_typed (rk HO_8)) (by decide) hg); have n1_ := Aside0.mk (hb); have n2_ := Aside0.mk (ho); clear HO_7; clear HB; clear HO_8; have HO_7 := n0_; have HB := n1_; have HO125 := n2_; clear n0_ n1_ n2_; clear ho hb hg hat))
   repeat (go_quiet (first | ((with_reducible refine gate_store (t := 3) (p := 31) rfl ?_); (try (rw [drewN_self wr]; generalize hq_ : World.drewN wr _ = wr; have n0_ := Aside0.mk (Kd.R_at hq_ HO_7.out); have n1_ := Aside0.mk (Kd.R_at hq_ HO_8.out); have n2_ := Aside0.mk (below_at hq_ HB.out); clear hq_ HO_7 HO_8 HB; have HO_7 := n0_; have HO_8 := n1_; have HB := n2_; clear n0_ n1_ n2_; (try (have HX17 := Aside0.mk (show Kd.R k30 30 wr w.heap.size (fun _ => True) (.slice (some ⟨go11, 0, none⟩) x7_1.length co7) x7_1 from (rk HO_7)))); (try (obtain ⟨ce17, hcl17, hM17, hcc17, hfr17⟩ := Kd.R_elem HX17.out z30 (x18_1 : Int) (of_decide_eq_true ‹_›) (by have h_ : (x18_1 : Int) < ((x7_1.length : Int) : Int) := of_decide_eq_true ‹_›; first | exact h_ | (have e_ := (Kd.R_reads' HO_7.out).1; omega) | simpa using h_))); (try (obtain rfl := k30_openM hM17)); (try (have HP17 := Kd.R_seg HX17.out (x18_1 : Int) (of_decide_eq_true ‹_›) (by have h_ : (x18_1 : Int) < ((x7_1.length : Int) : Int) := of_decide_eq_true ‹_›; first | exact h_ | (have e_ := (Kd.R_reads' HO_7.out).1; omega) | simpa using h_) (seg := [.int .i64 (wrap64 (((rd_T30 x7_1 x18_1).f2) + x1_1))]) (j := 2) hcl17 hcc17 (show 3 ≤ 3 from by decide) (x' := (⟨(rd_T30 x7_1 x18_1).f0, (rd_T30 x7_1 x18_1).f1, wrap64 (((rd_T30 x7_1 x18_1).f2) + x1_1)⟩ : S30)) (k30_mkM _ _ _ (⟨(rd_T30 x7_1 x18_1).f0, (rd_T30 x7_1 x18_1).f1, wrap64 (((rd_T30 x7_1 x18_1).f2) + x1_1)⟩ : S30) ) (fun _ hk => hk))); (try (have hx17_2 := hcc17 2 _ rfl)); (try (try simp only [show (k30).sz = 3 from rfl, Nat.mul_one, Nat.add_zero] at hx17_2)); (try (have hf17_2 := hfr17 2)); (try (try simp only [show (k30).sz = 3 from rfl, Nat.mul_one, Nat.add_zero] at hf17_2)); (try (clear hcl17 hcc17 hfr17 hM17)))); refine store_event (t := 3) (p := 31) (v := ?vo_w18) (w1 := (wr.setCell ⟨go11, (x18_1 : Int).toNat * 3 + 2, none⟩ (.int .i64 (wrap64 (((rd_T30 x7_1 x18_1).f2) + x1_1))))) ?hg ?ho ?hn ?hr ?_; (case ho => rfl); (case hg => rfl); (case hn => rfl); (case hr => first | (go_simp; done) | (go_simp; rfl)); intro w18 hw; have hg : wr.grownBy w18 (some go11) := (by rw [hw]; exact HP17.2); have hp_ : Kd.R k30 30 w18 w.heap.size (fun _ => True) (.slice (some ⟨go11, 0, none⟩) x7_1.length co7) y114 := (by rw [hw, Ny114.out]; exact HP17.1); clear HP17; have n0_ := Aside0.mk (hp_); have n1_ := Aside0.mk (Kd.R_over' (v := (.slice (some ⟨go11, 0, none⟩) x7_1.length co7)) (rk HO_8) (Kd.R_typed HO_7.out) (by decide) hg); have n2_ := Aside0.mk ((by rw [hw]; exact below_set (HB.out) GB11.out : Below w.heap.size w w18)); clear HO_7; clear HO_8; clear HB; have HO_7 := n0_; have HO_8 := n1_; have HB := n2_; clear n0_ n1_ n2_; clear hg hw hp_; have p115 : 0 ≤ (x18_1 : Int) := of_decide_eq_true ‹_›; have q115 : x18_1 < (y114.length : Int) := (by have h_ : (x18_1 : Int) < ((x7_1.length : Int) : Int) := of_decide_eq_true ‹_›; first | (have e_ := (Kd.R_reads' HO_7.out).1; omega) | simpa only [Ny114.out, List.length_set] using h_); have ql115 : ((x18_1 : Int) < ((x7_1.length : Int) : Int)) = True := eq_true (of_decide_eq_true ‹_›); obtain ⟨ad115, e115, hx115_0, hx115_1, hx115_2⟩ := at_T30 (Kd.R_reads' HO_7.out).2.2 x18_1 p115 q115; obtain rfl : (⟨go11, 0, none⟩ : Addr) = ad115 := (by injection e115); (first | simp only [add_plain] at hx115_0 | simp only [add_at] at hx115_0 | simp only [Addr.add, Nat.zero_add] at hx115_0 | skip); (first | simp only [add_plain] at hx115_1 | simp only [add_at] at hx115_1 | simp only [Addr.add, Nat.zero_add] at hx115_1 | skip); (first | simp only [add_plain] at hx115_2 | simp only [add_at] at hx115_2 | simp only [Addr.add, Nat.zero_add] at hx115_2 | skip); replace p115 := eq_true p115; replace q115 := eq_true q115; have p116 : 0 ≤ (x18_1 : Int) := of_decide_eq_true ‹_›; have q116 : x18_1 < (y114.length : Int) := (by have h_ : (x18_1 : Int) < ((x7_1.length : Int) : Int) := of_decide_eq_true ‹_›; first | (have e_ := (Kd.R_reads' HO_7.out).1; omega) | simpa only [Ny114.out, List.length_set] using h_); have ql116 : ((x18_1 : Int) < ((x7_1.length : Int) : Int)) = True := eq_true (of_decide_eq_true ‹_›); obtain ⟨ad116, e116, hx116_0, hx116_1, hx116_2⟩ := at_T30 (Kd.R_reads' HO_7.out).2.2 x18_1 p116 q116; obtain rfl : (⟨go11, 0, none⟩ : Addr) = ad116 := (by injection e116); (first | simp only [add_plain] at hx116_0 | simp only [add_at] at hx116_0 | simp only [Addr.add, Nat.zero_add] at hx116_0 | skip); (first | simp only [add_plain] at hx116_1 | simp only [add_at] at hx116_1 | simp only [Addr.add, Nat.zero_add] at hx116_1 | skip); (first | simp only [add_plain] at hx116_2 | simp only [add_at] at hx116_2 | simp only [Addr.add, Nat.zero_add] at hx116_2 | skip); replace p116 := eq_true p116; replace q116 := eq_true q116; have p117 : 0 ≤ (x18_1 : Int) := of_decide_eq_true ‹_›; have q117 : x18_1 < (y114.length : Int) := (by have h_ : (x18_1 : Int) < ((x7_1.length : Int) : Int) := of_decide_eq_true ‹_›; first | (have e_ := (Kd.R_reads' HO_7.out).1; omega) | simpa only [Ny114.out, List.length_set] using h_); have ql117 : ((x18_1 : Int) < ((x7_1.length : Int) : Int)) = True := eq_true (of_decide_eq_true ‹_›); obtain ⟨ad117, e117, hx117_0, hx117_1, hx117_2⟩ := at_T30 (Kd.R_reads' HO_7.out).2.2 x18_1 p117 q117; obtain rfl : (⟨go11, 0, none⟩ : Addr) = ad117 := (by injection e117); (first | simp only [add_plain] at hx117_0 | simp only [add_at] at hx117_0 | simp only [Addr.add, Nat.zero_add] at hx117_0 | skip); (first | simp only [add_plain] at hx117_1 | simp only [add_at] at hx117_1 | simp only [Addr.add, Nat.zero_add] at hx117_1 | skip); (first | simp only [add_plain] at hx117_2 | simp only [add_at] at hx117_2 | simp only [Addr.add, Nat.zero_add] at hx117_2 | skip); replace p117 := eq_true p117; replace q117 := eq_true q117; have p13 : 0 ≤ (x18_1 : Int) := of_decide_eq_true ‹_›; have q13 : (x18_1 : Int) < ((x7_1.length : Int) : Int) := of_decide_eq_true ‹_›; obtain ⟨ce13, hcl13, hM13, hcc13, hfr13⟩ := Kd.R_elem HO_7.out z30 (x18_1 : Int) p13 q13; obtain rfl := k30_openM hM13; have hx13_0 : w18.cell? ⟨go11, (x18_1 : Int).toNat * 3, none⟩ = some (.int .i64 ((rd_T30 y114 x18_1).f0)) := hcc13 0 _ rfl; have hx13_1 : w18.cell? ⟨go11, (x18_1 : Int).toNat * 3 + 1, none⟩ = some (.int .i64 ((rd_T30 y114 x18_1).f1)) := hcc13 1 _ rfl; have hx13_2 : w18.cell? ⟨go11, (x18_1 : Int).toNat * 3 + 2, none⟩ = some (.int .i64 ((rd_T30 y114 x18_1).f2)) := hcc13 2 _ rfl; have hf13_0 : w18.frozen? ⟨go11, (x18_1 : Int).toNat * 3, none⟩ = false := hfr13 0; have hf13_1 : w18.frozen? ⟨go11, (x18_1 : Int).toNat * 3 + 1, none⟩ = false := hfr13 1; have hf13_2 : w18.frozen? ⟨go11, (x18_1 : Int).toNat * 3 + 2, none⟩ = false := hfr13 2; clear hcl13 hcc13 hfr13 hM13; replace p13 := eq_true p13; replace q13 := eq_true q13; have HX19 := Aside0.mk (show Kd.R k30 30 w18 w.heap.size (fun _ => True) (.slice (some ⟨go11, 0, none⟩) x7_1.length co7) y114 from (rk HO_7)); obtain ⟨ce19, hcl19, hM19, hcc19, hfr19⟩ := Kd.R_elem HX19.out z30 (x18_1 : Int) (of_decide_eq_true ‹_›) (by have h_ : (x18_1 : Int) < ((x7_1.length : Int) : Int) := of_decide_eq_true ‹_›; first | exact h_ | (have e_ := (Kd.R_reads' HO_7.out).1; omega) | simpa using h_); obtain rfl := k30_openM hM19; have HP19 := Kd.R_seg HX19.out (x18_1 : Int) (of_decide_eq_true ‹_›) (by have h_ : (x18_1 : Int) < ((x7_1.length : Int) : Int) := of_decide_eq_true ‹_›; first | exact h_ | (have e_ := (Kd.R_reads' HO_7.out).1; omega) | simpa using h_) (seg := [.int .i64 (wrap64 (((rd_T30 y114 x18_1).f2) - (ji12)))]) (j := 2) hcl19 hcc19 (show 3 ≤ 3 from by decide) (x' := (⟨(rd_T30 y114 x18_1).f0, (rd_T30 y114 x18_1).f1, wrap64 (((rd_T30 y114 x18_1).f2) - (ji12))⟩ : S30)) (k30_mkM _ _ _ (⟨(rd_T30 y114 x18_1).f0, (rd_T30 y114 x18_1).f1, wrap64 (((rd_T30 y114 x18_1).f2) - (ji12))⟩ : S30) ) (fun _ hk => hk); have hx19_2 := hcc19 2 _ rfl; (try simp only [show (k30).sz = 3 from rfl, Nat.mul_one, Nat.add_zero] at hx19_2); have hf19_2 := hfr19 2; (try simp only [show (k30).sz = 3 from rfl, Nat.mul_one, Nat.add_zero] at hf19_2); clear hcl19 hcc19 hfr19 hM19) | ((with_reducible refine gate_store (t := 3) (p := 49) rfl ?_); (try (rw [drewN_self w18]; generalize hq_ : World.drewN w18 _ = w18; have n0_ := Aside0.mk (Kd.R_at hq_ HO_7.out); have n1_ := Aside0.mk (Kd.R_at hq_ HO_8.out); have n2_ := Aside0.mk (below_at hq_ HB.out); clear hq_ HO_7 HO_8 HB; have HO_7 := n0_; have HO_8 := n1_; have HB := n2_; clear n0_ n1_ n2_; (try (have HX19 := Aside0.mk (show Kd.R k30 30 w18 w.heap.size (fun _ => True) (.slice (some ⟨go11, 0, none⟩) x7_1.length co7) y114 from (rk HO_7)))); (try (obtain ⟨ce19, hcl19, hM19, hcc19, hfr19⟩ := Kd.R_elem HX19.out z30 (x18_1 : Int) (of_decide_eq_true ‹_›) (by have h_ : (x18_1 : Int) < ((x7_1.length : Int) : Int) := of_decide_eq_true ‹_›; first | exact h_ | (have e_ := (Kd.R_reads' HO_7.out).1; omega) | simpa using h_))); (try (obtain rfl := k30_openM hM19)); (try (have HP19 := Kd.R_seg HX19.out (x18_1 : Int) (of_decide_eq_true ‹_›) (by have h_ : (x18_1 : Int) < ((x7_1.length : Int) : Int) := of_decide_eq_true ‹_›; first | exact h_ | (have e_ := (Kd.R_reads' HO_7.out).1; omega) | simpa using h_) (seg := [.int .i64 (wrap64 (((rd_T30 y114 x18_1).f2) - (ji12)))]) (j := 2) hcl19 hcc19 (show 3 ≤ 3 from by decide) (x' := (⟨(rd_T30 y114 x18_1).f0, (rd_T30 y114 x18_1).f1, wrap64 (((rd_T30 y114 x18_1).f2) - (ji12))⟩ : S30)) (k30_mkM _ _ _ (⟨(rd_T30 y114 x18_1).f0, (rd_T30 y114 x18_1).f1, wrap64 (((rd_T30 y114 x18_1).f2) - (ji12))⟩ : S30) ) (fun _ hk => hk))); (try (have hx19_2 := hcc19 2 _ rfl)); (try (try simp only [show (k30).sz = 3 from rfl, Nat.mul_one, Nat.add_zero] at hx19_2)); (try (have hf19_2 := hfr19 2)); (try (try simp only [show (k30).sz = 3 from rfl, Nat.mul_one, Nat.add_zero] at hf19_2)); (try (clear hcl19 hcc19 hfr19 hM19)))); refine store_event (t := 3) (p := 49) (v := ?vo_w20) (w1 := (w18.setCell ⟨go11, (x18_1 : Int).toNat * 3 + 2, none⟩ (.int .i64 (wrap64 (((rd_T30 y114 x18_1).f2) - (ji12)))))) ?hg ?ho ?hn ?hr ?_; (case ho => rfl); (case hg => rfl); (case hn => rfl); (case hr => first | (go_simp; done) | (go_simp; rfl)); intro w20 hw; have hg : w18.grownBy w20 (some go11) := (by rw [hw]; exact HP19.2); have hp_ : Kd.R k30 30 w20 w.heap.size (fun _ => True) (.slice (some ⟨go11, 0, none⟩) x7_1.length co7) y118 := (by rw [hw, Ny118.out]; exact HP19.1); clear HP19; have n0_ := Aside0.mk (hp_); have n1_ := Aside0.mk (Kd.R_over' (v := (.slice (some ⟨go11, 0, none⟩) x7_1.length co7)) (rk HO_8) (Kd.R_typed HO_7.out) (by decide) hg); have n2_ := Aside0.mk ((by rw [hw]; exact below_set (HB.out) GB11.out : Below w.heap.size w w20)); clear HO_7; clear HO_8; clear HB; have HO_7 := n0_; have HO_8 := n1_; have HB := n2_; clear n0_ n1_ n2_; clear hg hw hp_; have p119 : 0 ≤ (x18_1 : Int) := of_decide_eq_true ‹_›; have q119 : x18_1 < (y118.length : Int) := (by have h_ : (x18_1 : Int) < ((x7_1.length : Int) : Int) := of_decide_eq_true ‹_›; first | (have e_ := (Kd.R_reads' HO_7.out).1; omega) | simpa only [Ny114.out, Ny118.out, List.length_set] using h_); have ql119 : ((x18_1 : Int) < ((x7_1.length : Int) : Int)) = True := eq_true (of_decide_eq_true ‹_›); obtain ⟨ad119, e119, hx119_0, hx119_1, hx119_2⟩ := at_T30 (Kd.R_reads' HO_7.out).2.2 x18_1 p119 q119; obtain rfl : (⟨go11, 0, none⟩ : Addr) = ad119 := (by injection e119); (first | simp only [add_plain] at hx119_0 | simp only [add_at] at hx119_0 | simp only [Addr.add, Nat.zero_add] at hx119_0 | skip); (first | simp only [add_plain] at hx119_1 | simp only [add_at] at hx119_1 | simp only [Addr.add, Nat.zero_add] at hx119_1 | skip); (first | simp only [add_plain] at hx119_2 | simp only [add_at] at hx119_2 | simp only [Addr.add, Nat.zero_add] at hx119_2 | skip); replace p119 := eq_true p119; replace q119 := eq_true q119; have p120 : 0 ≤ (x18_1 : Int) := of_decide_eq_true ‹_›; have q120 : x18_1 < (y118.length : Int) := (by have h_ : (x18_1 : Int) < ((x7_1.length : Int) : Int) := of_decide_eq_true ‹_›; first | (have e_ := (Kd.R_reads' HO_7.out).1; omega) | simpa only [Ny114.out, Ny118.out, List.length_set] using h_); have ql120 : ((x18_1 : Int) < ((x7_1.length : Int) : Int)) = True := eq_true (of_decide_eq_true ‹_›); obtain ⟨ad120, e120, hx120_0, hx120_1, hx120_2⟩ := at_T30 (Kd.R_reads' HO_7.out).2.2 x18_1 p120 q120; obtain rfl : (⟨go11, 0, none⟩ : Addr) = ad120 := (by injection e120); (first | simp only [add_plain] at hx120_0 | simp only [add_at] at hx120_0 | simp only [Addr.add, Nat.zero_add] at hx120_0 | skip); (first | simp only [add_plain] at hx120_1 | simp only [add_at] at hx120_1 | simp only [Addr.add, Nat.zero_add] at hx120_1 | skip); (first | simp only [add_plain] at hx120_2 | simp only [add_at] at hx120_2 | simp only [Addr.add, Nat.zero_add] at hx120_2 | skip); replace p120 := eq_true p120; replace q120 := eq_true q120; have p121 : 0 ≤ (x18_1 : Int) := of_decide_eq_true ‹_›; have q121 : x18_1 < (y118.length : Int) := (by have h_ : (x18_1 : Int) < ((x7_1.length : Int) : Int) := of_decide_eq_true ‹_›; first | (have e_ := (Kd.R_reads' HO_7.out).1; omega) | simpa only [Ny114.out, Ny118.out, List.length_set] using h_); have ql121 : ((x18_1 : Int) < ((x7_1.length : Int) : Int)) = True := eq_true (of_decide_eq_true ‹_›); obtain ⟨ad121, e121, hx121_0, hx121_1, hx121_2⟩ := at_T30 (Kd.R_reads' HO_7.out).2.2 x18_1 p121 q121; obtain rfl : (⟨go11, 0, none⟩ : Addr) = ad121 := (by injection e121); (first | simp only [add_plain] at hx121_0 | simp only [add_at] at hx121_0 | simp only [Addr.add, Nat.zero_add] at hx121_0 | skip); (first | simp only [add_plain] at hx121_1 | simp only [add_at] at hx121_1 | simp only [Addr.add, Nat.zero_add] at hx121_1 | skip); (first | simp only [add_plain] at hx121_2 | simp only [add_at] at hx121_2 | simp only [Addr.add, Nat.zero_add] at hx121_2 | skip); replace p121 := eq_true p121; replace q121 := eq_true q121; have p15 : 0 ≤ (x18_1 : Int) := of_decide_eq_true ‹_›; have q15 : (x18_1 : Int) < ((x7_1.length : Int) : Int) := of_decide_eq_true ‹_›; obtain ⟨ce15, hcl15, hM15, hcc15, hfr15⟩ := Kd.R_elem HO_7.out z30 (x18_1 : Int) p15 q15; obtain rfl := k30_openM hM15; have hx15_0 : w20.cell? ⟨go11, (x18_1 : Int).toNat * 3, none⟩ = some (.int .i64 ((rd_T30 y118 x18_1).f0)) := hcc15 0 _ rfl; have hx15_1 : w20.cell? ⟨go11, (x18_1 : Int).toNat * 3 + 1, none⟩ = some (.int .i64 ((rd_T30 y118 x18_1).f1)) := hcc15 1 _ rfl; have hx15_2 : w20.cell? ⟨go11, (x18_1 : Int).toNat * 3 + 2, none⟩ = some (.int .i64 ((rd_T30 y118 x18_1).f2)) := hcc15 2 _ rfl; have hf15_0 : w20.frozen? ⟨go11, (x18_1 : Int).toNat * 3, none⟩ = false := hfr15 0; have hf15_1 : w20.frozen? ⟨go11, (x18_1 : Int).toNat * 3 + 1, none⟩ = false := hfr15 1; have hf15_2 : w20.frozen? ⟨go11, (x18_1 : Int).toNat * 3 + 2, none⟩ = false := hfr15 2; clear hcl15 hcc15 hfr15 hM15; replace p15 := eq_true p15; replace q15 := eq_true q15; have HX21 := Aside0.mk (show Kd.R k30 30 w20 w.heap.size (fun _ => True) (.slice (some ⟨go11, 0, none⟩) x7_1.length co7) y118 from (rk HO_7)); obtain ⟨ce21, hcl21, hM21, hcc21, hfr21⟩ := Kd.R_elem HX21.out z30 (x18_1 : Int) (of_decide_eq_true ‹_›) (by have h_ : (x18_1 : Int) < ((x7_1.length : Int) : Int) := of_decide_eq_true ‹_›; first | exact h_ | (have e_ := (Kd.R_reads' HO_7.out).1; omega) | simpa using h_); obtain rfl := k30_openM hM21; have HP21 := Kd.R_seg HX21.out (x18_1 : Int) (of_decide_eq_true ‹_›) (by have h_ : (x18_1 : Int) < ((x7_1.length : Int) : Int) := of_decide_eq_true ‹_›; first | exact h_ | (have e_ := (Kd.R_reads' HO_7.out).1; omega) | simpa using h_) (seg := [.int .i64 (wrap64 (((rd_T30 y118 x18_1).f2) - (ji14)))]) (j := 2) hcl21 hcc21 (show 3 ≤ 3 from by decide) (x' := (⟨(rd_T30 y118 x18_1).f0, (rd_T30 y118 x18_1).f1, wrap64 (((rd_T30 y118 x18_1).f2) - (ji14))⟩ : S30)) (k30_mkM _ _ _ (⟨(rd_T30 y118 x18_1).f0, (rd_T30 y118 x18_1).f1, wrap64 (((rd_T30 y118 x18_1).f2) - (ji14))⟩ : S30) ) (fun _ hk => hk); have hx21_2 := hcc21 2 _ rfl; (try simp only [show (k30).sz = 3 from rfl, Nat.mul_one, Nat.add_zero] at hx21_2); have hf21_2 := hfr21 2; (try simp only [show (k30).sz = 3 from rfl, Nat.mul_one, Nat.add_zero] at hf21_2); clear hcl21 hcc21 hfr21 hM21) | ((with_reducible refine gate_store (t := 3) (p := 66) rfl ?_); (try (rw [drewN_self w20]; generalize hq_ : World.drewN w20 _ = w20; have n0_ := Aside0.mk (Kd.R_at hq_ HO_7.out); have n1_ := Aside0.mk (Kd.R_at hq_ HO_8.out); have n2_ := Aside0.mk (below_at hq_ HB.out); clear hq_ HO_7 HO_8 HB; have HO_7 := n0_; have HO_8 := n1_; have HB := n2_; clear n0_ n1_ n2_; (try (have HX21 := Aside0.mk (show Kd.R k30 30 w20 w.heap.size (fun _ => True) (.slice (some ⟨go11, 0, none⟩) x7_1.length co7) y118 from (rk HO_7)))); (try (obtain ⟨ce21, hcl21, hM21, hcc21, hfr21⟩ := Kd.R_elem HX21.out z30 (x18_1 : Int) (of_decide_eq_true ‹_›) (by have h_ : (x18_1 : Int) < ((x7_1.length : Int) : Int) := of_decide_eq_true ‹_›; first | exact h_ | (have e_ := (Kd.R_reads' HO_7.out).1; omega) | simpa using h_))); (try (obtain rfl := k30_openM hM21)); (try (have HP21 := Kd.R_seg HX21.out (x18_1 : Int) (of_decide_eq_true ‹_›) (by have h_ : (x18_1 : Int) < ((x7_1.length : Int) : Int) := of_decide_eq_true ‹_›; first | exact h_ | (have e_ := (Kd.R_reads' HO_7.out).1; omega) | simpa using h_) (seg := [.int .i64 (wrap64 (((rd_T30 y118 x18_1).f2) - (ji14)))]) (j := 2) hcl21 hcc21 (show 3 ≤ 3 from by decide) (x' := (⟨(rd_T30 y118 x18_1).f0, (rd_T30 y118 x18_1).f1, wrap64 (((rd_T30 y118 x18_1).f2) - (ji14))⟩ : S30)) (k30_mkM _ _ _ (⟨(rd_T30 y118 x18_1).f0, (rd_T30 y118 x18_1).f1, wrap64 (((rd_T30 y118 x18_1).f2) - (ji14))⟩ : S30) ) (fun _ hk => hk))); (try (have hx21_2 := hcc21 2 _ rfl)); (try (try simp only [show (k30).sz = 3 from rfl, Nat.mul_one, Nat.add_zero] at hx21_2)); (try (have hf21_2 := hfr21 2)); (try (try simp only [show (k30).sz = 3 from rfl, Nat.mul_one, Nat.add_zero] at hf21_2)); (try (clear hcl21 hcc21 hfr21 hM21)))); refine store_event (t := 3) (p := 66) (v := ?vo_w22) (w1 := (w20.setCell ⟨go11, (x18_1 : Int).toNat * 3 + 2, none⟩ (.int .i64 (wrap64 (((rd_T30 y118 x18_1).f2) - (ji14)))))) ?hg ?ho ?hn ?hr ?_; (case ho => rfl); (case hg => rfl); (case hn => rfl); (case hr => first | (go_simp; done) | (go_simp; rfl)); intro w22 hw; have hg : w20.grownBy w22 (some go11) := (by rw [hw]; exact HP21.2); have hp_ : Kd.R k30 30 w22 w.heap.size (fun _ => True) (.slice (some ⟨go11, 0, none⟩) x7_1.length co7) y122 := (by rw [hw, Ny122.out]; exact HP21.1); clear HP21; have n0_ := Aside0.mk (hp_); have n1_ := Aside0.mk (Kd.R_over' (v := (.slice (some ⟨go11, 0, none⟩) x7_1.length co7)) (rk HO_8) (Kd.R_typed HO_7.out) (by decide) hg); have n2_ := Aside0.mk ((by rw [hw]; exact below_set (HB.out) GB11.out : Below w.heap.size w w22)); clear HO_7; clear HO_8; clear HB; have HO_7 := n0_; have HO_8 := n1_; have HB := n2_; clear n0_ n1_ n2_; clear hg hw hp_) | ((with_reducible refine gate_builtin (b := .append) (xs := #[.tmp 67, .tmp 69]) rfl ?_); at_builtin; refine Kd.R_append (Kd.int .i64) (w0 := w) w.heap.size rfl (.tmp 67) (.tmp 69) 33 3 (.int .i64 0) 8 rfl Try.underlying33 info3 rfl (by decide) (by omega) u8 x8_1 ji12 [.int .i64 ji12] (fun _ => True) (fun _ => False) rfl rfl ?aP (fun _ hk => hk.elim) ?aF ?aO ?aB ?aS ?aL ?_; (case aP => exact rfl); (case aB => exact (bw HB)); (case aF => exact (fun _ _ => trivial)); (case aO => exact (rk HO_8)); (case aS => exact (below_size (bw HB))); (case aL => have := LMc16.out; omega); intro v124 w23 ho hb hg hat; rw [← Ny123.out] at ho; have n0_ := Aside0.mk (Kd.R_over' (rk HO_7) (Kd.R_typed (rk HO_8)) (by decide) hg); have n1_ := Aside0.mk (hb); have n2_ := Aside0.mk (ho); clear HO_7; clear HB; clear HO_8; have HO_7 := n0_; have HB := n1_; have HO125 := n2_; clear n0_ n1_ n2_; clear ho hb hg hat)); try go_wp2_with (first | ((with_reducible refine gate_store (t := 3) (p := 31) rfl ?_); (try (rw [drewN_self wr]; generalize hq_ : World.drewN wr _ = wr; have n0_ := Aside0.mk (Kd.R_at hq_ HO_7.out); have n1_ := Aside0.mk (Kd.R_at hq_ HO_8.out); have n2_ := Aside0.mk (below_at hq_ HB.out); clear hq_ HO_7 HO_8 HB; have HO_7 := n0_; have HO_8 := n1_; have HB := n2_; clear n0_ n1_ n2_; (try (have HX17 := Aside0.mk (show Kd.R k30 30 wr w.heap.size (fun _ => True) (.slice (some ⟨go11, 0, none⟩) x7_1.length co7) x7_1 from (rk HO_7)))); (try (obtain ⟨ce17, hcl17, hM17, hcc17, hfr17⟩ := Kd.R_elem HX17.out z30 (x18_1 : Int) (of_decide_eq_true ‹_›) (by have h_ : (x18_1 : Int) < ((x7_1.length : Int) : Int) := of_decide_eq_true ‹_›; first | exact h_ | (have e_ := (Kd.R_reads' HO_7.out).1; omega) | simpa using h_))); (try (obtain rfl := k30_openM hM17)); (try (have HP17 := Kd.R_seg HX17.out (x18_1 : Int) (of_decide_eq_true ‹_›) (by have h_ : (x18_1 : Int) < ((x7_1.length : Int) : Int) := of_decide_eq_true ‹_›; first | exact h_ | (have e_ := (Kd.R_reads' HO_7.out).1; omega) | simpa using h_) (seg := [.int .i64 (wrap64 (((rd_T30 x7_1 x18_1).f2) + x1_1))]) (j := 2) hcl17 hcc17 (show 3 ≤ 3 from by decide) (x' := (⟨(rd_T30 x7_1 x18_1).f0, (rd_T30 x7_1 x18_1).f1, wrap64 (((rd_T30 x7_1 x18_1).f2) + x1_1)⟩ : S30)) (k30_mkM _ _ _ (⟨(rd_T30 x7_1 x18_1).f0, (rd_T30 x7_1 x18_1).f1, wrap64 (((rd_T30 x7_1 x18_1).f2) + x1_1)⟩ : S30) ) (fun _ hk => hk))); (try (have hx17_2 := hcc17 2 _ rfl)); (try (try simp only [show (k30).sz = 3 from rfl, Nat.mul_one, Nat.add_zero] at hx17_2)); (try (have hf17_2 := hfr17 2)); (try (try simp only [show (k30).sz = 3 from rfl, Nat.mul_one, Nat.add_zero] at hf17_2)); (try (clear hcl17 hcc17 hfr17 hM17)))); refine store_event (t := 3) (p := 31) (v := ?vo_w18) (w1 := (wr.setCell ⟨go11, (x18_1 : Int).toNat * 3 + 2, none⟩ (.int .i64 (wrap64 (((rd_T30 x7_1 x18_1).f2) + x1_1))))) ?hg ?ho ?hn ?hr ?_; (case ho => rfl); (case hg => rfl); (case hn => rfl); (case hr => first | (go_simp; done) | (go_simp; rfl)); intro w18 hw; have hg : wr.grownBy w18 (some go11) := (by rw [hw]; exact HP17.2); have hp_ : Kd.R k30 30 w18 w.heap.size (fun _ => True) (.slice (some ⟨go11, 0, none⟩) x7_1.length co7) y114 := (by rw [hw, Ny114.out]; exact HP17.1); clear HP17; have n0_ := Aside0.mk (hp_); have n1_ := Aside0.mk (Kd.R_over' (v := (.slice (some ⟨go11, 0, none⟩) x7_1.length co7)) (rk HO_8) (Kd.R_typed HO_7.out) (by decide) hg); have n2_ := Aside0.mk ((by rw [hw]; exact below_set (HB.out) GB11.out : Below w.heap.size w w18)); clear HO_7; clear HO_8; clear HB; have HO_7 := n0_; have HO_8 := n1_; have HB := n2_; clear n0_ n1_ n2_; clear hg hw hp_; have p115 : 0 ≤ (x18_1 : Int) := of_decide_eq_true ‹_›; have q115 : x18_1 < (y114.length : Int) := (by have h_ : (x18_1 : Int) < ((x7_1.length : Int) : Int) := of_decide_eq_true ‹_›; first | (have e_ := (Kd.R_reads' HO_7.out).1; omega) | simpa only [Ny114.out, List.length_set] using h_); have ql115 : ((x18_1 : Int) < ((x7_1.length : Int) : Int)) = True := eq_true (of_decide_eq_true ‹_›); obtain ⟨ad115, e115, hx115_0, hx115_1, hx115_2⟩ := at_T30 (Kd.R_reads' HO_7.out).2.2 x18_1 p115 q115; obtain rfl : (⟨go11, 0, none⟩ : Addr) = ad115 := (by injection e115); (first | simp only [add_plain] at hx115_0 | simp only [add_at] at hx115_0 | simp only [Addr.add, Nat.zero_add] at hx115_0 | skip); (first | simp only [add_plain] at hx115_1 | simp only [add_at] at hx115_1 | simp only [Addr.add, Nat.zero_add] at hx115_1 | skip); (first | simp only [add_plain] at hx115_2 | simp only [add_at] at hx115_2 | simp only [Addr.add, Nat.zero_add] at hx115_2 | skip); replace p115 := eq_true p115; replace q115 := eq_true q115; have p116 : 0 ≤ (x18_1 : Int) := of_decide_eq_true ‹_›; have q116 : x18_1 < (y114.length : Int) := (by have h_ : (x18_1 : Int) < ((x7_1.length : Int) : Int) := of_decide_eq_true ‹_›; first | (have e_ := (Kd.R_reads' HO_7.out).1; omega) | simpa only [Ny114.out, List.length_set] using h_); have ql116 : ((x18_1 : Int) < ((x7_1.length : Int) : Int)) = True := eq_true (of_decide_eq_true ‹_›); obtain ⟨ad116, e116, hx116_0, hx116_1, hx116_2⟩ := at_T30 (Kd.R_reads' HO_7.out).2.2 x18_1 p116 q116; obtain rfl : (⟨go11, 0, none⟩ : Addr) = ad116 := (by injection e116); (first | simp only [add_plain] at hx116_0 | simp only [add_at] at hx116_0 | simp only [Addr.add, Nat.zero_add] at hx116_0 | skip); (first | simp only [add_plain] at hx116_1 | simp only [add_at] at hx116_1 | simp only [Addr.add, Nat.zero_add] at hx116_1 | skip); (first | simp only [add_plain] at hx116_2 | simp only [add_at] at hx116_2 | simp only [Addr.add, Nat.zero_add] at hx116_2 | skip); replace p116 := eq_true p116; replace q116 := eq_true q116; have p117 : 0 ≤ (x18_1 : Int) := of_decide_eq_true ‹_›; have q117 : x18_1 < (y114.length : Int) := (by have h_ : (x18_1 : Int) < ((x7_1.length : Int) : Int) := of_decide_eq_true ‹_›; first | (have e_ := (Kd.R_reads' HO_7.out).1; omega) | simpa only [Ny114.out, List.length_set] using h_); have ql117 : ((x18_1 : Int) < ((x7_1.length : Int) : Int)) = True := eq_true (of_decide_eq_true ‹_›); obtain ⟨ad117, e117, hx117_0, hx117_1, hx117_2⟩ := at_T30 (Kd.R_reads' HO_7.out).2.2 x18_1 p117 q117; obtain rfl : (⟨go11, 0, none⟩ : Addr) = ad117 := (by injection e117); (first | simp only [add_plain] at hx117_0 | simp only [add_at] at hx117_0 | simp only [Addr.add, Nat.zero_add] at hx117_0 | skip); (first | simp only [add_plain] at hx117_1 | simp only [add_at] at hx117_1 | simp only [Addr.add, Nat.zero_add] at hx117_1 | skip); (first | simp only [add_plain] at hx117_2 | simp only [add_at] at hx117_2 | simp only [Addr.add, Nat.zero_add] at hx117_2 | skip); replace p117 := eq_true p117; replace q117 := eq_true q117; have p13 : 0 ≤ (x18_1 : Int) := of_decide_eq_true ‹_›; have q13 : (x18_1 : Int) < ((x7_1.length : Int) : Int) := of_decide_eq_true ‹_›; obtain ⟨ce13, hcl13, hM13, hcc13, hfr13⟩ := Kd.R_elem HO_7.out z30 (x18_1 : Int) p13 q13; obtain rfl := k30_openM hM13; have hx13_0 : w18.cell? ⟨go11, (x18_1 : Int).toNat * 3, none⟩ = some (.int .i64 ((rd_T30 y114 x18_1).f0)) := hcc13 0 _ rfl; have hx13_1 : w18.cell? ⟨go11, (x18_1 : Int).toNat * 3 + 1, none⟩ = some (.int .i64 ((rd_T30 y114 x18_1).f1)) := hcc13 1 _ rfl; have hx13_2 : w18.cell? ⟨go11, (x18_1 : Int).toNat * 3 + 2, none⟩ = some (.int .i64 ((rd_T30 y114 x18_1).f2)) := hcc13 2 _ rfl; have hf13_0 : w18.frozen? ⟨go11, (x18_1 : Int).toNat * 3, none⟩ = false := hfr13 0; have hf13_1 : w18.frozen? ⟨go11, (x18_1 : Int).toNat * 3 + 1, none⟩ = false := hfr13 1; have hf13_2 : w18.frozen? ⟨go11, (x18_1 : Int).toNat * 3 + 2, none⟩ = false := hfr13 2; clear hcl13 hcc13 hfr13 hM13; replace p13 := eq_true p13; replace q13 := eq_true q13; have HX19 := Aside0.mk (show Kd.R k30 30 w18 w.heap.size (fun _ => True) (.slice (some ⟨go11, 0, none⟩) x7_1.length co7) y114 from (rk HO_7)); obtain ⟨ce19, hcl19, hM19, hcc19, hfr19⟩ := Kd.R_elem HX19.out z30 (x18_1 : Int) (of_decide_eq_true ‹_›) (by have h_ : (x18_1 : Int) < ((x7_1.length : Int) : Int) := of_decide_eq_true ‹_›; first | exact h_ | (have e_ := (Kd.R_reads' HO_7.out).1; omega) | simpa using h_); obtain rfl := k30_openM hM19; have HP19 := Kd.R_seg HX19.out (x18_1 : Int) (of_decide_eq_true ‹_›) (by have h_ : (x18_1 : Int) < ((x7_1.length : Int) : Int) := of_decide_eq_true ‹_›; first | exact h_ | (have e_ := (Kd.R_reads' HO_7.out).1; omega) | simpa using h_) (seg := [.int .i64 (wrap64 (((rd_T30 y114 x18_1).f2) - (ji12)))]) (j := 2) hcl19 hcc19 (show 3 ≤ 3 from by decide) (x' := (⟨(rd_T30 y114 x18_1).f0, (rd_T30 y114 x18_1).f1, wrap64 (((rd_T30 y114 x18_1).f2) - (ji12))⟩ : S30)) (k30_mkM _ _ _ (⟨(rd_T30 y114 x18_1).f0, (rd_T30 y114 x18_1).f1, wrap64 (((rd_T30 y114 x18_1).f2) - (ji12))⟩ : S30) ) (fun _ hk => hk); have hx19_2 := hcc19 2 _ rfl; (try simp only [show (k30).sz = 3 from rfl, Nat.mul_one, Nat.add_zero] at hx19_2); have hf19_2 := hfr19 2; (try simp only [show (k30).sz = 3 from rfl, Nat.mul_one, Nat.add_zero] at hf19_2); clear hcl19 hcc19 hfr19 hM19) | ((with_reducible refine gate_store (t := 3) (p := 49) rfl ?_); (try (rw [drewN_self w18]; generalize hq_ : World.drewN w18 _ = w18; have n0_ := Aside0.mk (Kd.R_at hq_ HO_7.out); have n1_ := Aside0.mk (Kd.R_at hq_ HO_8.out); have n2_ := Aside0.mk (below_at hq_ HB.out); clear hq_ HO_7 HO_8 HB; have HO_7 := n0_; have HO_8 := n1_; have HB := n2_; clear n0_ n1_ n2_; (try (have HX19 := Aside0.mk (show Kd.R k30 30 w18 w.heap.size (fun _ => True) (.slice (some ⟨go11, 0, none⟩) x7_1.length co7) y114 from (rk HO_7)))); (try (obtain ⟨ce19, hcl19, hM19, hcc19, hfr19⟩ := Kd.R_elem HX19.out z30 (x18_1 : Int) (of_decide_eq_true ‹_›) (by have h_ : (x18_1 : Int) < ((x7_1.length : Int) : Int) := of_decide_eq_true ‹_›; first | exact h_ | (have e_ := (Kd.R_reads' HO_7.out).1; omega) | simpa using h_))); (try (obtain rfl := k30_openM hM19)); (try (have HP19 := Kd.R_seg HX19.out (x18_1 : Int) (of_decide_eq_true ‹_›) (by have h_ : (x18_1 : Int) < ((x7_1.length : Int) : Int) := of_decide_eq_true ‹_›; first | exact h_ | (have e_ := (Kd.R_reads' HO_7.out).1; omega) | simpa using h_) (seg := [.int .i64 (wrap64 (((rd_T30 y114 x18_1).f2) - (ji12)))]) (j := 2) hcl19 hcc19 (show 3 ≤ 3 from by decide) (x' := (⟨(rd_T30 y114 x18_1).f0, (rd_T30 y114 x18_1).f1, wrap64 (((rd_T30 y114 x18_1).f2) - (ji12))⟩ : S30)) (k30_mkM _ _ _ (⟨(rd_T30 y114 x18_1).f0, (rd_T30 y114 x18_1).f1, wrap64 (((rd_T30 y114 x18_1).f2) - (ji12))⟩ : S30) ) (fun _ hk => hk))); (try (have hx19_2 := hcc19 2 _ rfl)); (try (try simp only [show (k30).sz = 3 from rfl, Nat.mul_one, Nat.add_zero] at hx19_2)); (try (have hf19_2 := hfr19 2)); (try (try simp only [show (k30).sz = 3 from rfl, Nat.mul_one, Nat.add_zero] at hf19_2)); (try (clear hcl19 hcc19 hfr19 hM19)))); refine store_event (t := 3) (p := 49) (v := ?vo_w20) (w1 := (w18.setCell ⟨go11, (x18_1 : Int).toNat * 3 + 2, none⟩ (.int .i64 (wrap64 (((rd_T30 y114 x18_1).f2) - (ji12)))))) ?hg ?ho ?hn ?hr ?_; (case ho => rfl); (case hg => rfl); (case hn => rfl); (case hr => first | (go_simp; done) | (go_simp; rfl)); intro w20 hw; have hg : w18.grownBy w20 (some go11) := (by rw [hw]; exact HP19.2); have hp_ : Kd.R k30 30 w20 w.heap.size (fun _ => True) (.slice (some ⟨go11, 0, none⟩) x7_1.length co7) y118 := (by rw [hw, Ny118.out]; exact HP19.1); clear HP19; have n0_ := Aside0.mk (hp_); have n1_ := Aside0.mk (Kd.R_over' (v := (.slice (some ⟨go11, 0, none⟩) x7_1.length co7)) (rk HO_8) (Kd.R_typed HO_7.out) (by decide) hg); have n2_ := Aside0.mk ((by rw [hw]; exact below_set (HB.out) GB11.out : Below w.heap.size w w20)); clear HO_7; clear HO_8; clear HB; have HO_7 := n0_; have HO_8 := n1_; have HB := n2_; clear n0_ n1_ n2_; clear hg hw hp_; have p119 : 0 ≤ (x18_1 : Int) := of_decide_eq_true ‹_›; have q119 : x18_1 < (y118.length : Int) := (by have h_ : (x18_1 : Int) < ((x7_1.length : Int) : Int) := of_decide_eq_true ‹_›; first | (have e_ := (Kd.R_reads' HO_7.out).1; omega) | simpa only [Ny114.out, Ny118.out, List.length_set] using h_); have ql119 : ((x18_1 : Int) < ((x7_1.length : Int) : Int)) = True := eq_true (of_decide_eq_true ‹_›); obtain ⟨ad119, e119, hx119_0, hx119_1, hx119_2⟩ := at_T30 (Kd.R_reads' HO_7.out).2.2 x18_1 p119 q119; obtain rfl : (⟨go11, 0, none⟩ : Addr) = ad119 := (by injection e119); (first | simp only [add_plain] at hx119_0 | simp only [add_at] at hx119_0 | simp only [Addr.add, Nat.zero_add] at hx119_0 | skip); (first | simp only [add_plain] at hx119_1 | simp only [add_at] at hx119_1 | simp only [Addr.add, Nat.zero_add] at hx119_1 | skip); (first | simp only [add_plain] at hx119_2 | simp only [add_at] at hx119_2 | simp only [Addr.add, Nat.zero_add] at hx119_2 | skip); replace p119 := eq_true p119; replace q119 := eq_true q119; have p120 : 0 ≤ (x18_1 : Int) := of_decide_eq_true ‹_›; have q120 : x18_1 < (y118.length : Int) := (by have h_ : (x18_1 : Int) < ((x7_1.length : Int) : Int) := of_decide_eq_true ‹_›; first | (have e_ := (Kd.R_reads' HO_7.out).1; omega) | simpa only [Ny114.out, Ny118.out, List.length_set] using h_); have ql120 : ((x18_1 : Int) < ((x7_1.length : Int) : Int)) = True := eq_true (of_decide_eq_true ‹_›); obtain ⟨ad120, e120, hx120_0, hx120_1, hx120_2⟩ := at_T30 (Kd.R_reads' HO_7.out).2.2 x18_1 p120 q120; obtain rfl : (⟨go11, 0, none⟩ : Addr) = ad120 := (by injection e120); (first | simp only [add_plain] at hx120_0 | simp only [add_at] at hx120_0 | simp only [Addr.add, Nat.zero_add] at hx120_0 | skip); (first | simp only [add_plain] at hx120_1 | simp only [add_at] at hx120_1 | simp only [Addr.add, Nat.zero_add] at hx120_1 | skip); (first | simp only [add_plain] at hx120_2 | simp only [add_at] at hx120_2 | simp only [Addr.add, Nat.zero_add] at hx120_2 | skip); replace p120 := eq_true p120; replace q120 := eq_true q120; have p121 : 0 ≤ (x18_1 : Int) := of_decide_eq_true ‹_›; have q121 : x18_1 < (y118.length : Int) := (by have h_ : (x18_1 : Int) < ((x7_1.length : Int) : Int) := of_decide_eq_true ‹_›; first | (have e_ := (Kd.R_reads' HO_7.out).1; omega) | simpa only [Ny114.out, Ny118.out, List.length_set] using h_); have ql121 : ((x18_1 : Int) < ((x7_1.length : Int) : Int)) = True := eq_true (of_decide_eq_true ‹_›); obtain ⟨ad121, e121, hx121_0, hx121_1, hx121_2⟩ := at_T30 (Kd.R_reads' HO_7.out).2.2 x18_1 p121 q121; obtain rfl : (⟨go11, 0, none⟩ : Addr) = ad121 := (by injection e121); (first | simp only [add_plain] at hx121_0 | simp only [add_at] at hx121_0 | simp only [Addr.add, Nat.zero_add] at hx121_0 | skip); (first | simp only [add_plain] at hx121_1 | simp only [add_at] at hx121_1 | simp only [Addr.add, Nat.zero_add] at hx121_1 | skip); (first | simp only [add_plain] at hx121_2 | simp only [add_at] at hx121_2 | simp only [Addr.add, Nat.zero_add] at hx121_2 | skip); replace p121 := eq_true p121; replace q121 := eq_true q121; have p15 : 0 ≤ (x18_1 : Int) := of_decide_eq_true ‹_›; have q15 : (x18_1 : Int) < ((x7_1.length : Int) : Int) := of_decide_eq_true ‹_›; obtain ⟨ce15, hcl15, hM15, hcc15, hfr15⟩ := Kd.R_elem HO_7.out z30 (x18_1 : Int) p15 q15; obtain rfl := k30_openM hM15; have hx15_0 : w20.cell? ⟨go11, (x18_1 : Int).toNat * 3, none⟩ = some (.int .i64 ((rd_T30 y118 x18_1).f0)) := hcc15 0 _ rfl; have hx15_1 : w20.cell? ⟨go11, (x18_1 : Int).toNat * 3 + 1, none⟩ = some (.int .i64 ((rd_T30 y118 x18_1).f1)) := hcc15 1 _ rfl; have hx15_2 : w20.cell? ⟨go11, (x18_1 : Int).toNat * 3 + 2, none⟩ = some (.int .i64 ((rd_T30 y118 x18_1).f2)) := hcc15 2 _ rfl; have hf15_0 : w20.frozen? ⟨go11, (x18_1 : Int).toNat * 3, none⟩ = false := hfr15 0; have hf15_1 : w20.frozen? ⟨go11, (x18_1 : Int).toNat * 3 + 1, none⟩ = false := hfr15 1; have hf15_2 : w20.frozen? ⟨go11, (x18_1 : Int).toNat * 3 + 2, none⟩ = false := hfr15 2; clear hcl15 hcc15 hfr15 hM15; replace p15 := eq_true p15; replace q15 := eq_true q15; have HX21 := Aside0.mk (show Kd.R k30 30 w20 w.heap.size (fun _ => True) (.slice (some ⟨go11, 0, none⟩) x7_1.length co7) y118 from (rk HO_7)); obtain ⟨ce21, hcl21, hM21, hcc21, hfr21⟩ := Kd.R_elem HX21.out z30 (x18_1 : Int) (of_decide_eq_true ‹_›) (by have h_ : (x18_1 : Int) < ((x7_1.length : Int) : Int) := of_decide_eq_true ‹_›; first | exact h_ | (have e_ := (Kd.R_reads' HO_7.out).1; omega) | simpa using h_); obtain rfl := k30_openM hM21; have HP21 := Kd.R_seg HX21.out (x18_1 : Int) (of_decide_eq_true ‹_›) (by have h_ : (x18_1 : Int) < ((x7_1.length : Int) : Int) := of_decide_eq_true ‹_›; first | exact h_ | (have e_ := (Kd.R_reads' HO_7.out).1; omega) | simpa using h_) (seg := [.int .i64 (wrap64 (((rd_T30 y118 x18_1).f2) - (ji14)))]) (j := 2) hcl21 hcc21 (show 3 ≤ 3 from by decide) (x' := (⟨(rd_T30 y118 x18_1).f0, (rd_T30 y118 x18_1).f1, wrap64 (((rd_T30 y118 x18_1).f2) - (ji14))⟩ : S30)) (k30_mkM _ _ _ (⟨(rd_T30 y118 x18_1).f0, (rd_T30 y118 x18_1).f1, wrap64 (((rd_T30 y118 x18_1).f2) - (ji14))⟩ : S30) ) (fun _ hk => hk); have hx21_2 := hcc21 2 _ rfl; (try simp only [show (k30).sz = 3 from rfl, Nat.mul_one, Nat.add_zero] at hx21_2); have hf21_2 := hfr21 2; (try simp only [show (k30).sz = 3 from rfl, Nat.mul_one, Nat.add_zero] at hf21_2); clear hcl21 hcc21 hfr21 hM21) | ((with_reducible refine gate_store (t := 3) (p := 66) rfl ?_); (try (rw [drewN_self w20]; generalize hq_ : World.drewN w20 _ = w20; have n0_ := Aside0.mk (Kd.R_at hq_ HO_7.out); have n1_ := Aside0.mk (Kd.R_at hq_ HO_8.out); have n2_ := Aside0.mk (below_at hq_ HB.out); clear hq_ HO_7 HO_8 HB; have HO_7 := n0_; have HO_8 := n1_; have HB := n2_; clear n0_ n1_ n2_; (try (have HX21 := Aside0.mk (show Kd.R k30 30 w20 w.heap.size (fun _ => True) (.slice (some ⟨go11, 0, none⟩) x7_1.length co7) y118 from (rk HO_7)))); (try (obtain ⟨ce21, hcl21, hM21, hcc21, hfr21⟩ := Kd.R_elem HX21.out z30 (x18_1 : Int) (of_decide_eq_true ‹_›) (by have h_ : (x18_1 : Int) < ((x7_1.length : Int) : Int) := of_decide_eq_true ‹_›; first | exact h_ | (have e_ := (Kd.R_reads' HO_7.out).1; omega) | simpa using h_))); (try (obtain rfl := k30_openM hM21)); (try (have HP21 := Kd.R_seg HX21.out (x18_1 : Int) (of_decide_eq_true ‹_›) (by have h_ : (x18_1 : Int) < ((x7_1.length : Int) : Int) := of_decide_eq_true ‹_›; first | exact h_ | (have e_ := (Kd.R_reads' HO_7.out).1; omega) | simpa using h_) (seg := [.int .i64 (wrap64 (((rd_T30 y118 x18_1).f2) - (ji14)))]) (j := 2) hcl21 hcc21 (show 3 ≤ 3 from by decide) (x' := (⟨(rd_T30 y118 x18_1).f0, (rd_T30 y118 x18_1).f1, wrap64 (((rd_T30 y118 x18_1).f2) - (ji14))⟩ : S30)) (k30_mkM _ _ _ (⟨(rd_T30 y118 x18_1).f0, (rd_T30 y118 x18_1).f1, wrap64 (((rd_T30 y118 x18_1).f2) - (ji14))⟩ : S30) ) (fun _ hk => hk))); (try (have hx21_2 := hcc21 2 _ rfl)); (try (try simp only [show (k30).sz = 3 from rfl, Nat.mul_one, Nat.add_zero] at hx21_2)); (try (have hf21_2 := hfr21 2)); (try (try simp only [show (k30).sz = 3 from rfl, Nat.mul_one, Nat.add_zero] at hf21_2)); (try (clear hcl21 hcc21 hfr21 hM21)))); refine store_event (t := 3) (p := 66) (v := ?vo_w22) (w1 := (w20.setCell ⟨go11, (x18_1 : Int).toNat * 3 + 2, none⟩ (.int .i64 (wrap64 (((rd_T30 y118 x18_1).f2) - (ji14)))))) ?hg ?ho ?hn ?hr ?_; (case ho => rfl); (case hg => rfl); (case hn => rfl); (case hr => first | (go_simp; done) | (go_simp; rfl)); intro w22 hw; have hg : w20.grownBy w22 (some go11) := (by rw [hw]; exact HP21.2); have hp_ : Kd.R k30 30 w22 w.heap.size (fun _ => True) (.slice (some ⟨go11, 0, none⟩) x7_1.length co7) y122 := (by rw [hw, Ny122.out]; exact HP21.1); clear HP21; have n0_ := Aside0.mk (hp_); have n1_ := Aside0.mk (Kd.R_over' (v := (.slice (some ⟨go11, 0, none⟩) x7_1.length co7)) (rk HO_8) (Kd.R_typed HO_7.out) (by decide) hg); have n2_ := Aside0.mk ((by rw [hw]; exact below_set (HB.out) GB11.out : Below w.heap.size w w22)); clear HO_7; clear HO_8; clear HB; have HO_7 := n0_; have HO_8 := n1_; have HB := n2_; clear n0_ n1_ n2_; clear hg hw hp_) | ((with_reducible refine gate_builtin (b := .append) (xs := #[.tmp 67, .tmp 69]) rfl ?_); at_builtin; refine Kd.R_append (Kd.int .i64) (w0 := w) w.heap.size rfl (.tmp 67) (.tmp 69) 33 3 (.int .i64 0) 8 rfl Try.underlying33 info3 rfl (by decide) (by omega) u8 x8_1 ji12 [.int .i64 ji12] (fun _ => True) (fun _ => False) rfl rfl ?aP (fun _ hk => hk.elim) ?aF ?aO ?aB ?aS ?aL ?_; (case aP => exact rfl); (case aB => exact (bw HB)); (case aF => exact (fun _ _ => trivial)); (case aO => exact (rk HO_8)); (case aS => exact (below_size (bw HB))); (case aL => have := LMc16.out; omega); intro v124 w23 ho hb hg hat; rw [← Ny123.out] at ho; have n0_ := Aside0.mk (Kd.R_over' (rk HO_7) (Kd.R_typed (rk HO_8)) (by decide) hg); have n1_ := Aside0.mk (hb); have n2_ := Aside0.mk (ho); clear HO_7; clear HB; clear HO_8; have HO_7 := n0_; have HB := n1_; have HO125 := n2_; clear n0_ n1_ n2_; clear ho hb hg hat)))
   (try simp only [← hl7_1])
   go_roundg k1
   case measure => have := HK1.out; omega
   case rel => exact ⟨(wrap64 ((ji12) + (ji14))), (y122), (y123), (wrap64 (x18_1 + 1)), (by first | rfl | (simp; done) | (simp only [← hji12, ← hji14] <;> (first | rfl | simp)) | (simp [*]; done)), (by first | rfl | (simp; done) | (simp [*]; done)), H', ⟨by have := HK1.out; omega⟩, ⟨by (try simp only [hl7_1]); exact HO_7.out⟩, ⟨by (try simp only [hl7_1]); exact HO125.out⟩, ⟨bw HB⟩⟩
end Go.Proofs.Ytflbcikfphfkdaa.R
