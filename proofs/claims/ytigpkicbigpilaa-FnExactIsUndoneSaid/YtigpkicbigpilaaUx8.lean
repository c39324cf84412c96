-- Functions of the program as plain functions, and that the calls come to them. Written by a program (ownprint.py); nothing here is trusted: Lean checks it.
import Derived.Test.YtigpkicbigpilaaUx0
import Derived.Test.YtigpkicbigpilaaUx2
import Derived.Test.YtigpkicbigpilaaUx3
import Derived.Test.YtigpkicbigpilaaUx4
import Derived.Test.YtigpkicbigpilaaUx5
namespace Go.Proofs.Ytigpkicbigpilaa.U
open Go.RowKit Go.Proofs.YtigpkicbigpilaaW.PrintWords Go.Proofs.YtigpkicbigpilaaW.PrintLast Go.Proofs.YtigpkicbigpilaaW.PrintMore Go.Proofs.Ytigpkicbigpilaa.Sq
attribute [local go_sem] max2_int min2_int max_two min_two max_three min_three max_four min_four   -- for this text's walks alone
set_option linter.unusedVariables false
set_option linter.unusedSimpArgs false

-- NOT PRINTED: function 69 (impl_keyOf)

-- NOT PRINTED: function 64 (impl_reachOf)

-- NOT PRINTED: function 68 (impl_find)

-- NOT PRINTED: function 32 (impl_IsReached)

-- NOT PRINTED: function 7 (laws_FnExactIsReached)

/-! ### spec_veAsked: function 54 -/
def spec_veAsked.f (k : Nat) (l0_0 : List Int) (l0_1 : List Int) (a1_0 : Int) (a1_1 : Int) : Option (Bool) := (spec_veGood.f k l0_0 l0_1).bind fun t277 => (if t277 = true then ((spec_veMove.f (l0_0.length : Int) a1_0 a1_1).bind fun t278 => (some t278)) else (some false))
theorem spec_veAsked.mono : ∀ a0 a1 a2 a3 k, LeO (spec_veAsked.f k a0 a1 a2 a3) (spec_veAsked.f (k + 1) a0 a1 a2 a3) := by
 intro a0 a1 a2 a3 k
 unfold spec_veAsked.f
 repeat' first
   | (with_reducible exact spec_veGood.mono _ _ _)
   | (with_reducible exact LeO.refl _)
   | (with_reducible exact LeO.none _)
   | (with_reducible refine LeO.ite ?_ ?_)
   | (with_reducible refine LeO.bind ?_ (fun _ => ?_))
   | exact spec_veGood.mono _ _ _
   | exact LeO.none _
   | refine LeO.ite ?_ ?_
   | refine LeO.bind ?_ (fun _ => ?_)
set_option maxHeartbeats 8000000 in
set_option maxRecDepth 100000 in
theorem spec_veAsked.calls (k : Nat) (A0_0 : Option Addr) (c0_0 : Nat) (l0_0 : List Int) (A0_1 : Option Addr) (c0_1 : Nat) (l0_1 : List Int) (a1_0 : Int) (a1_1 : Int) (r : Bool) (w : World) (hr0_0 : Kd.C (Kd.int .i64) w A0_0 l0_0.length l0_0) (hc0_0 : l0_0.length ≤ c0_0) (hr0_1 : Kd.C (Kd.int .i64) w A0_1 l0_1.length l0_1) (hc0_1 : l0_1.length ≤ c0_1) (h : spec_veAsked.f k l0_0 l0_1 a1_0 a1_1 = some r) :
  Calls Try.prog 54 #[.agg #[.slice A0_0 l0_0.length c0_0, .slice A0_1 l0_1.length c0_1], .agg #[.int .i64 a1_0, .int .i64 a1_1]] w fun e w' => e = .returned (.bool r) ∧ Below w.heap.size w w' := by
 have hu29 := Try.underlying29
 have hu49 := Try.underlying49
 have HR0_0 := Aside0.mk hr0_0
 have HC0_0 := Aside0.mk hc0_0
 clear hr0_0 hc0_0
 have HR0_1 := Aside0.mk hr0_1
 have HC0_1 := Aside0.mk hc0_1
 clear hr0_1 hc0_1
 have HB := Aside0.mk (Below.refl w.heap.size w)
 have H : ((spec_veGood.f k l0_0 l0_1).bind fun t277 => (if t277 = true then ((spec_veMove.f (l0_0.length : Int) a1_0 a1_1).bind fun t278 => (some t278)) else (some false))) = some r := h
 clear h
 replace H := Option.bind_eq_some_iff.mp H
 obtain ⟨t277, A30, H⟩ := H
 replace H : (if t277 = true then ((spec_veMove.f (l0_0.length : Int) a1_0 a1_1).bind fun t278 => (some t278)) else (some false)) = some r := H
 have A3 := Aside0.mk A30
 clear A30
 by_cases c4 : t277 = true
 ·subst c4
  have H1 : ((spec_veMove.f (l0_0.length : Int) a1_0 a1_1).bind fun t278 => (some t278)) = some r := by rw [if_pos rfl] at H; exact H
  clear H
  have H := H1
  clear H1
  replace H := Option.bind_eq_some_iff.mp H
  obtain ⟨t278, A50, H⟩ := H
  replace H : (some t278) = some r := H
  have A5 := Aside0.mk A50
  clear A50
  obtain rfl := Option.some.inj H
  go_enter Try.func54, Try.ntmps54
  go_wp2_with (first | ((with_reducible refine gate_dst (N := 2) rfl ?_); (try (refine gate_guard (by rfl) ?_; dsimp only)); refine bx 2 #[.slice A0_0 l0_0.length c0_0, .slice A0_1 l0_1.length c0_1] 29 ?_; intro gb275 hg w6 hbox hb; have BK275 := Aside0.mk (hbox); have GW275 := ge HB hg; have GE275 := ge HB hg; replace HB := bs HB hb; clear hb hbox hg) | ((with_reducible refine gate_dst (N := 3) rfl ?_); (try (refine gate_guard (by rfl) ?_; dsimp only)); refine bx 3 #[.int .i64 a1_0, .int .i64 a1_1] 49 ?_; intro gb276 hg w7 hbox hb; have BK276 := Aside0.mk (hbox); have GW276 := ge HB hg; have GE276 := ge HB hg; replace HB := bs HB hb; have NB275_276 := nl BK275 hg; have NB276_275 := nr BK275 hg; replace BK275 := bb BK275 hb; clear hb hbox hg; have hnb8 := NB275_276.out; have hnc8 := NB276_275.out; have hcz9_0 := bc0 BK275; have hcz9_1 := bc1 BK275; have hfz9_0 := blk_frozen BK275.out 0; have hfz9_1 := blk_frozen BK275.out 1) | ((with_reducible refine gate_callee (f := 49) rfl ?_); refine gl 6 Try.func49 #[.agg #[.slice A0_0 l0_0.length c0_0, .slice A0_1 l0_1.length c0_1]] ?_; (with_reducible refine (spec_veGood.calls k _ _ l0_0 _ _ l0_1 true _ ?side1 ?side2 ?side3 ?side4 A3.out).mono ?_); (case side1 => exact ck HR0_0 HB); (case side2 => exact HC0_0.out); (case side3 => exact ck HR0_1 HB); (case side4 => exact HC0_1.out); rintro e w10 ⟨rfl, hb⟩; refine ⟨_, rfl, ?_⟩; replace BK275 := bb BK275 hb; replace BK276 := bb BK276 hb; replace HB := bs HB hb; (try clear hb); have hcz11_0 := bc0 BK275; have hcz11_1 := bc1 BK275; have hfz11_0 := blk_frozen BK275.out 0; have hfz11_1 := blk_frozen BK275.out 1; have hcz12_0 := bc0 BK276; have hcz12_1 := bc1 BK276; have hfz12_0 := blk_frozen BK276.out 0; have hfz12_1 := blk_frozen BK276.out 1) | (go_at_call 77; (with_reducible refine (spec_veMove.calls (l0_0.length : Int) a1_0 a1_1 t278 _ A5.out).mono ?_); rintro e w13 ⟨rfl, hb⟩; replace BK275 := bb BK275 hb; replace BK276 := bb BK276 hb; replace HB := bs HB hb; (try clear hb)))
  go_ret
  exact ⟨by first | rfl | (simp [errW_none, errW_some] <;> rfl) | (simp [*, errW_none, errW_some] <;> rfl), bw HB⟩
 ·replace c4 := Bool.eq_false_iff.mpr c4
  subst c4
  have H1 : (some false) = some r := by rw [if_neg (show ¬ (false = true) by decide)] at H; exact H
  clear H
  have H := H1
  clear H1
  obtain rfl := Option.some.inj H
  go_enter Try.func54, Try.ntmps54
  go_wp2_with (first | ((with_reducible refine gate_dst (N := 2) rfl ?_); (try (refine gate_guard (by rfl) ?_; dsimp only)); refine bx 2 #[.slice A0_0 l0_0.length c0_0, .slice A0_1 l0_1.length c0_1] 29 ?_; intro gb275 hg w14 hbox hb; have BK275 := Aside0.mk (hbox); have GW275 := ge HB hg; have GE275 := ge HB hg; replace HB := bs HB hb; clear hb hbox hg) | ((with_reducible refine gate_dst (N := 3) rfl ?_); (try (refine gate_guard (by rfl) ?_; dsimp only)); refine bx 3 #[.int .i64 a1_0, .int .i64 a1_1] 49 ?_; intro gb276 hg w15 hbox hb; have BK276 := Aside0.mk (hbox); have GW276 := ge HB hg; have GE276 := ge HB hg; replace HB := bs HB hb; have NB275_276 := nl BK275 hg; have NB276_275 := nr BK275 hg; replace BK275 := bb BK275 hb; clear hb hbox hg; have hnb16 := NB275_276.out; have hnc16 := NB276_275.out; have hcz17_0 := bc0 BK275; have hcz17_1 := bc1 BK275; have hfz17_0 := blk_frozen BK275.out 0; have hfz17_1 := blk_frozen BK275.out 1) | ((with_reducible refine gate_callee (f := 49) rfl ?_); refine gl 6 Try.func49 #[.agg #[.slice A0_0 l0_0.length c0_0, .slice A0_1 l0_1.length c0_1]] ?_; (with_reducible refine (spec_veGood.calls k _ _ l0_0 _ _ l0_1 false _ ?side1 ?side2 ?side3 ?side4 A3.out).mono ?_); (case side1 => exact ck HR0_0 HB); (case side2 => exact HC0_0.out); (case side3 => exact ck HR0_1 HB); (case side4 => exact HC0_1.out); rintro e w18 ⟨rfl, hb⟩; refine ⟨_, rfl, ?_⟩; replace BK275 := bb BK275 hb; replace BK276 := bb BK276 hb; replace HB := bs HB hb; (try clear hb)))
  go_ret
  exact ⟨by first | rfl | (simp [errW_none, errW_some] <;> rfl) | (simp [*, errW_none, errW_some] <;> rfl), bw HB⟩

/-! ### spec_IsUndone: function 26 -/
def spec_IsUndone.l0 : Nat → List (S49) → Int → Int → List Int → List Int → List Int → List Int → Option (Bool × Bool)
 | 0, _, _, _, _, _, _, _ => none
 | k + 1, x20, x21, x22, x280000, x280001, x289000, x289001 => if x22 < x21 then (if 0 ≤ x22 then (if x22 < (x20.length : Int) then ((spec_veMake.f x289000 x289001 ((rd_T49 x20 x22).f0) ((rd_T49 x20 x22).f1)).bind fun bt295 => ((spec_veSame.f k bt295.1 bt295.2 x280000 x280001).bind fun t301 => (if t301 = true then (some (true, true)) else (spec_IsUndone.l0 k x20 x21 (wrap64 (x22 + 1)) x280000 x280001 x289000 x289001)))) else (none)) else (none)) else (some (false, true))
def spec_IsUndone.f (k : Nat) (l0_0 : List Int) (l0_1 : List Int) (a1_0 : Int) (a1_1 : Int) : Option (Bool × Bool) := (spec_veAsked.f k l0_0 l0_1 a1_0 a1_1).bind fun t281 => (if t281 = true then ((spec_veMake.f l0_0 l0_1 a1_0 a1_1).bind fun bt282 => ((spec_veSame.f k bt282.1 bt282.2 l0_0 l0_1).bind fun t289 => (if t289 = true then (some (true, true)) else ((spec_veOn.f k bt282.1 bt282.2 false).bind fun t290 => (spec_IsUndone.l0 k t290 (t290.length : Int) 0 l0_0 l0_1 bt282.1 bt282.2))))) else (some (false, false)))
theorem spec_IsUndone.mono_l : ∀ k, (∀ y0 y1 y2 y3 y4 y5 y6, LeO (spec_IsUndone.l0 k y0 y1 y2 y3 y4 y5 y6) (spec_IsUndone.l0 (k + 1) y0 y1 y2 y3 y4 y5 y6))
 | 0 => fun _ _ _ _ _ _ _ r h => by simp [spec_IsUndone.l0] at h
 | k + 1 => by
  have ih0 := spec_IsUndone.mono_l k
  ·intro y0 y1 y2 y3 y4 y5 y6
   unfold spec_IsUndone.l0
   repeat' first
   | (with_reducible exact ih0 _ _ _ _ _ _ _)
   | (with_reducible exact spec_veAsked.mono _ _ _ _ _)
   | (with_reducible exact spec_veOn.mono _ _ _ _)
   | (with_reducible exact spec_veSame.mono _ _ _ _ _)
   | (with_reducible exact LeO.refl _)
   | (with_reducible exact LeO.none _)
   | (with_reducible refine LeO.ite ?_ ?_)
   | (with_reducible refine LeO.bind ?_ (fun _ => ?_))
   | exact ih0 _ _ _ _ _ _ _
   | exact spec_veAsked.mono _ _ _ _ _
   | exact spec_veOn.mono _ _ _ _
   | exact spec_veSame.mono _ _ _ _ _
   | exact LeO.none _
   | refine LeO.ite ?_ ?_
   | refine LeO.bind ?_ (fun _ => ?_)
theorem spec_IsUndone.mono : ∀ a0 a1 a2 a3 k, LeO (spec_IsUndone.f k a0 a1 a2 a3) (spec_IsUndone.f (k + 1) a0 a1 a2 a3) := by
 intro a0 a1 a2 a3 k
 have ih0 := spec_IsUndone.mono_l k
 unfold spec_IsUndone.f
 repeat' first
   | (with_reducible exact ih0 _ _ _ _ _ _ _)
   | (with_reducible exact spec_veAsked.mono _ _ _ _ _)
   | (with_reducible exact spec_veOn.mono _ _ _ _)
   | (with_reducible exact spec_veSame.mono _ _ _ _ _)
   | (with_reducible exact LeO.refl _)
   | (with_reducible exact LeO.none _)
   | (with_reducible refine LeO.ite ?_ ?_)
   | (with_reducible refine LeO.bind ?_ (fun _ => ?_))
   | exact ih0 _ _ _ _ _ _ _
   | exact spec_veAsked.mono _ _ _ _ _
   | exact spec_veOn.mono _ _ _ _
   | exact spec_veSame.mono _ _ _ _ _
   | exact LeO.none _
   | refine LeO.ite ?_ ?_
   | refine LeO.bind ?_ (fun _ => ?_)
set_option maxHeartbeats 8000000 in
set_option maxRecDepth 100000 in
theorem spec_IsUndone.calls (k : Nat) (A0_0 : Option Addr) (c0_0 : Nat) (l0_0 : List Int) (A0_1 : Option Addr) (c0_1 : Nat) (l0_1 : List Int) (a1_0 : Int) (a1_1 : Int) (r1 : Bool) (r2 : Bool) (w : World) (hr0_0 : Kd.C (Kd.int .i64) w A0_0 l0_0.length l0_0) (hc0_0 : l0_0.length ≤ c0_0) (hr0_1 : Kd.C (Kd.int .i64) w A0_1 l0_1.length l0_1) (hc0_1 : l0_1.length ≤ c0_1) (h : spec_IsUndone.f k l0_0 l0_1 a1_0 a1_1 = some (r1, r2)) :
  Calls Try.prog 26 #[.agg #[.slice A0_0 l0_0.length c0_0, .slice A0_1 l0_1.length c0_1], .agg #[.int .i64 a1_0, .int .i64 a1_1]] w fun e w' => e = .returned (.tuple #[.bool r1, .bool r2]) ∧ Below w.heap.size w w' := by
 have hu29 := Try.underlying29
 have hu49 := Try.underlying49
 have HR0_0 := Aside0.mk hr0_0
 have HC0_0 := Aside0.mk hc0_0
 clear hr0_0 hc0_0
 have HR0_1 := Aside0.mk hr0_1
 have HC0_1 := Aside0.mk hc0_1
 clear hr0_1 hc0_1
 have HB := Aside0.mk (Below.refl w.heap.size w)
 have H : ((spec_veAsked.f k l0_0 l0_1 a1_0 a1_1).bind fun t281 => (if t281 = true then ((spec_veMake.f l0_0 l0_1 a1_0 a1_1).bind fun bt282 => ((spec_veSame.f k bt282.1 bt282.2 l0_0 l0_1).bind fun t289 => (if t289 = true then (some (true, true)) else ((spec_veOn.f k bt282.1 bt282.2 false).bind fun t290 => (spec_IsUndone.l0 k t290 (t290.length : Int) 0 l0_0 l0_1 bt282.1 bt282.2))))) else (some (false, false)))) = some (r1, r2) := h
 clear h
 replace H := Option.bind_eq_some_iff.mp H
 obtain ⟨t281, A30, H⟩ := H
 replace H : (if t281 = true then ((spec_veMake.f l0_0 l0_1 a1_0 a1_1).bind fun bt282 => ((spec_veSame.f k bt282.1 bt282.2 l0_0 l0_1).bind fun t289 => (if t289 = true then (some (true, true)) else ((spec_veOn.f k bt282.1 bt282.2 false).bind fun t290 => (spec_IsUndone.l0 k t290 (t290.length : Int) 0 l0_0 l0_1 bt282.1 bt282.2))))) else (some (false, false))) = some (r1, r2) := H
 have A3 := Aside0.mk A30
 clear A30
 by_cases c4 : t281 = true
 ·subst c4
  have H1 : ((spec_veMake.f l0_0 l0_1 a1_0 a1_1).bind fun bt282 => ((spec_veSame.f k bt282.1 bt282.2 l0_0 l0_1).bind fun t289 => (if t289 = true then (some (true, true)) else ((spec_veOn.f k bt282.1 bt282.2 false).bind fun t290 => (spec_IsUndone.l0 k t290 (t290.length : Int) 0 l0_0 l0_1 bt282.1 bt282.2))))) = some (r1, r2) := by rw [if_pos rfl] at H; exact H
  clear H
  have H := H1
  clear H1
  replace H := Option.bind_eq_some_iff.mp H
  obtain ⟨⟨t282, t285⟩, A50, H⟩ := H
  replace H : ((spec_veSame.f k t282 t285 l0_0 l0_1).bind fun t289 => (if t289 = true then (some (true, true)) else ((spec_veOn.f k t282 t285 false).bind fun t290 => (spec_IsUndone.l0 k t290 (t290.length : Int) 0 l0_0 l0_1 t282 t285)))) = some (r1, r2) := H
  have A5 := Aside0.mk A50
  clear A50
  replace H := Option.bind_eq_some_iff.mp H
  obtain ⟨t289, A60, H⟩ := H
  replace H : (if t289 = true then (some (true, true)) else ((spec_veOn.f k t282 t285 false).bind fun t290 => (spec_IsUndone.l0 k t290 (t290.length : Int) 0 l0_0 l0_1 t282 t285))) = some (r1, r2) := H
  have A6 := Aside0.mk A60
  clear A60
  by_cases c7 : t289 = true
  ·subst c7
   have H1 : (some (true, true)) = some (r1, r2) := by rw [if_pos rfl] at H; exact H
   clear H
   have H := H1
   clear H1
   simp only [Option.some.injEq, Prod.mk.injEq] at H
   obtain ⟨rfl, rfl⟩ := H
   go_enter Try.func26, Try.ntmps26
   go_wp2_with (first | ((with_reducible refine gate_dst (N := 2) rfl ?_); refine bx 2 #[.slice A0_0 l0_0.length c0_0, .slice A0_1 l0_1.length c0_1] 29 ?_; intro gb279 hg w8 hbox hb; have BK279 := Aside0.mk (hbox); have GW279 := ge HB hg; have GE279 := ge HB hg; replace HB := bs HB hb; clear hb hbox hg) | ((with_reducible refine gate_dst (N := 3) rfl ?_); refine bx 3 #[.int .i64 a1_0, .int .i64 a1_1] 49 ?_; intro gb280 hg w9 hbox hb; have BK280 := Aside0.mk (hbox); have GW280 := ge HB hg; have GE280 := ge HB hg; replace HB := bs HB hb; have NB279_280 := nl BK279 hg; have NB280_279 := nr BK279 hg; replace BK279 := bb BK279 hb; clear hb hbox hg; have hnb10 := NB279_280.out; have hnc10 := NB280_279.out; have hcz11_0 := bc0 BK279; have hcz11_1 := bc1 BK279; have hfz11_0 := blk_frozen BK279.out 0; have hfz11_1 := blk_frozen BK279.out 1; have hcz12_0 := bc0 BK280; have hcz12_1 := bc1 BK280; have hfz12_0 := blk_frozen BK280.out 0; have hfz12_1 := blk_frozen BK280.out 1) | ((with_reducible refine gate_callee (f := 54) rfl ?_); refine gl 11 Try.func54 #[.agg #[.slice A0_0 l0_0.length c0_0, .slice A0_1 l0_1.length c0_1], .agg #[.int .i64 a1_0, .int .i64 a1_1]] ?_; (with_reducible refine (spec_veAsked.calls k _ _ l0_0 _ _ l0_1 a1_0 a1_1 true _ ?side1 ?side2 ?side3 ?side4 A3.out).mono ?_); (case side1 => exact ck HR0_0 HB); (case side2 => exact HC0_0.out); (case side3 => exact ck HR0_1 HB); (case side4 => exact HC0_1.out); rintro e w13 ⟨rfl, hb⟩; refine ⟨_, rfl, ?_⟩; replace BK279 := bb BK279 hb; replace BK280 := bb BK280 hb; replace HB := bs HB hb; (try clear hb); have hcz14_0 := bc0 BK279; have hcz14_1 := bc1 BK279; have hfz14_0 := blk_frozen BK279.out 0; have hfz14_1 := blk_frozen BK279.out 1; have hcz15_0 := bc0 BK280; have hcz15_1 := bc1 BK280; have hfz15_0 := blk_frozen BK280.out 0; have hfz15_1 := blk_frozen BK280.out 1) | ((with_reducible refine gate_callee (f := 55) rfl ?_); refine gl 15 Try.func55 #[.agg #[.slice A0_0 l0_0.length c0_0, .slice A0_1 l0_1.length c0_1], .agg #[.int .i64 a1_0, .int .i64 a1_1]] ?_; (with_reducible refine (spec_veMake.calls _ _ l0_0 _ _ l0_1 a1_0 a1_1 t282 t285 _ ?side1 ?side2 ?side3 ?side4 A5.out).mono ?_); (case side1 => exact ck HR0_0 HB); (case side2 => exact HC0_0.out); (case side3 => exact ck HR0_1 HB); (case side4 => exact HC0_1.out); rintro e w16 ⟨v283, v286, rfl, ho0, ho1, hb⟩; refine ⟨_, rfl, ?_⟩; have HO284 := lo ho0 HB; have HO287 := lo ho1 HB; replace BK279 := bb BK279 hb; replace BK280 := bb BK280 hb; replace HB := bs HB hb; (try clear hb); (try clear ho0); (try clear ho1)) | ((with_reducible refine gate_dst (N := 6) rfl ?_); refine bx 6 #[.slice none 0 0, .slice none 0 0] 29 ?_; intro gb288 hg w17 hbox hb; replace HO284 := rb HO284 hb; replace HO287 := rb HO287 hb; have BK288 := Aside0.mk (hbox); have GW288 := ge HB hg; have GE288 := ge HB hg; replace HB := bs HB hb; have NB279_288 := nl BK279 hg; have NB288_279 := nr BK279 hg; replace BK279 := bb BK279 hb; have NB280_288 := nl BK280 hg; have NB288_280 := nr BK280 hg; replace BK280 := bb BK280 hb; clear hb hbox hg; obtain ⟨Ao18, co18, eo18⟩ := Kd.R_slice HO284.out; subst eo18; have hnb19 := NB288_279.out; have hnc19 := NB279_288.out; have hnb20 := NB288_280.out; have hnc20 := NB280_288.out; have hcz21_0 := bc0 BK288; have hcz21_1 := bc1 BK288; have hfz21_0 := blk_frozen BK288.out 0; have hfz21_1 := blk_frozen BK288.out 1; obtain ⟨Ao22, co22, eo22⟩ := Kd.R_slice HO287.out; subst eo22; have hcz23_0 := bc0 BK279; have hcz23_1 := bc1 BK279; have hfz23_0 := blk_frozen BK279.out 0; have hfz23_1 := blk_frozen BK279.out 1) | ((with_reducible refine gate_callee (f := 56) rfl ?_); refine gl 18 Try.func56 #[.agg #[.slice Ao18 t282.length co18, .slice Ao22 t285.length co22], .agg #[.slice A0_0 l0_0.length c0_0, .slice A0_1 l0_1.length c0_1]] ?_; (with_reducible refine (spec_veSame.calls k _ _ t282 _ _ t285 _ _ l0_0 _ _ l0_1 true _ ?side1 ?side2 ?side3 ?side4 ?side5 ?side6 ?side7 ?side8 A6.out).mono ?_); (case side1 => refine (Kd.R_reads' (e := 3) (base := w.heap.size) (ok := fun k_ => some k_ ≠ (.slice Ao22 t285.length co22 : Value).ownBlock) (n := t282.length) (c := co18) ?_).2.2; exact (by (with_reducible repeat (first | apply Kd.R_alloc | apply Kd.R_drewN | apply Kd.R_drew)); exact (Kd.R_mono (Kd.R_far (p := ⟨gb288, 1, none⟩) (Kd.R_far (p := ⟨gb288, 0, none⟩) (Kd.R_types HO284.out BK288.out (by decide)) (fun _ hk => hk.2) (.slice Ao18 t282.length co18)) (fun _ hk => hk.2) (.slice Ao22 t285.length co22)) (fun _ h_ => h_.1)))); (case side2 => exact (Kd.R_reads' HO284.out).2.1); (case side3 => refine (Kd.R_reads' (e := 3) (base := w.heap.size) (ok := fun k_ => some k_ ≠ (.slice Ao18 t282.length co18 : Value).ownBlock) (n := t285.length) (c := co22) ?_).2.2; exact (by (with_reducible repeat (first | apply Kd.R_alloc | apply Kd.R_drewN | apply Kd.R_drew)); exact (Kd.R_mono (Kd.R_far (p := ⟨gb288, 1, none⟩) (Kd.R_far (p := ⟨gb288, 0, none⟩) (Kd.R_types HO287.out BK288.out (by decide)) (fun _ hk => hk.2) (.slice Ao18 t282.length co18)) (fun _ hk => hk.2) (.slice Ao22 t285.length co22)) (fun _ h_ => h_.1)))); (case side4 => exact (Kd.R_reads' HO287.out).2.1); (case side5 => exact Kd.C_below HR0_0.out (bw HB)); (case side6 => exact HC0_0.out); (case side7 => exact Kd.C_below HR0_1.out (bw HB)); (case side8 => exact HC0_1.out); rintro e w24 ⟨rfl, hb⟩; refine ⟨_, rfl, ?_⟩; replace HO284 := Aside0.mk (Kd.R_below (by (with_reducible repeat (first | apply Kd.R_alloc | apply Kd.R_drewN | apply Kd.R_drew)); exact (Kd.R_mono (Kd.R_far (p := ⟨gb288, 1, none⟩) (Kd.R_far (p := ⟨gb288, 0, none⟩) (Kd.R_types HO284.out BK288.out (by decide)) (fun _ hk => hk.2) (.slice Ao18 t282.length co18)) (fun _ hk => hk.2) (.slice Ao22 t285.length co22)) (fun _ h_ => h_.1))) hb); replace HO287 := Aside0.mk (Kd.R_below (by (with_reducible repeat (first | apply Kd.R_alloc | apply Kd.R_drewN | apply Kd.R_drew)); exact (Kd.R_mono (Kd.R_far (p := ⟨gb288, 1, none⟩) (Kd.R_far (p := ⟨gb288, 0, none⟩) (Kd.R_types HO287.out BK288.out (by decide)) (fun _ hk => hk.2) (.slice Ao18 t282.length co18)) (fun _ hk => hk.2) (.slice Ao22 t285.length co22)) (fun _ h_ => h_.1))) hb); replace BK279 := bb BK279 hb; replace BK280 := bb BK280 hb; replace BK288 := Aside0.mk (blk_below (g := gb288) (o := .cells #[.slice Ao18 t282.length co18, .slice Ao22 t285.length co22] 29 (0, 0)) (by (with_reducible repeat (first | refine blk_drewN ?_ _ | refine blk_drew ?_ | refine blk_alloc ?_ _)); refine blk_put (cs := #[.slice Ao18 t282.length co18, .slice none 0 0]) ?_ 1 _ rfl; (with_reducible repeat (first | refine blk_drewN ?_ _ | refine blk_drew ?_ | refine blk_alloc ?_ _)); refine blk_put (cs := #[.slice none 0 0, .slice none 0 0]) ?_ 0 _ rfl; exact bk BK288) hb); replace HB := bs HB hb; (try clear hb)))
   go_ret2
   exact ⟨by first | rfl | (simp [errW_none, errW_some] <;> rfl) | (simp [*, errW_none, errW_some] <;> rfl), bw HB⟩
  ·replace c7 := Bool.eq_false_iff.mpr c7
   subst c7
   have H1 : ((spec_veOn.f k t282 t285 false).bind fun t290 => (spec_IsUndone.l0 k t290 (t290.length : Int) 0 l0_0 l0_1 t282 t285)) = some (r1, r2) := by rw [if_neg (show ¬ (false = true) by decide)] at H; exact H
   clear H
   have H := H1
   clear H1
   replace H := Option.bind_eq_some_iff.mp H
   obtain ⟨t290, A250, H⟩ := H
   replace H : (spec_IsUndone.l0 k t290 (t290.length : Int) 0 l0_0 l0_1 t282 t285) = some (r1, r2) := H
   have A25 := Aside0.mk A250
   clear A250
   have H' := Aside0.mk H
   clear H
   go_enter Try.func26, Try.ntmps26
   go_wp2_with (first | ((with_reducible refine gate_dst (N := 2) rfl ?_); refine bx 2 #[.slice A0_0 l0_0.length c0_0, .slice A0_1 l0_1.length c0_1] 29 ?_; intro gb279 hg w26 hbox hb; have BK279 := Aside0.mk (hbox); have GW279 := ge HB hg; have GE279 := ge HB hg; replace HB := bs HB hb; clear hb hbox hg) | ((with_reducible refine gate_dst (N := 3) rfl ?_); refine bx 3 #[.int .i64 a1_0, .int .i64 a1_1] 49 ?_; intro gb280 hg w27 hbox hb; have BK280 := Aside0.mk (hbox); have GW280 := ge HB hg; have GE280 := ge HB hg; replace HB := bs HB hb; have NB279_280 := nl BK279 hg; have NB280_279 := nr BK279 hg; replace BK279 := bb BK279 hb; clear hb hbox hg; have hnb28 := NB279_280.out; have hnc28 := NB280_279.out; have hcz29_0 := bc0 BK279; have hcz29_1 := bc1 BK279; have hfz29_0 := blk_frozen BK279.out 0; have hfz29_1 := blk_frozen BK279.out 1; have hcz30_0 := bc0 BK280; have hcz30_1 := bc1 BK280; have hfz30_0 := blk_frozen BK280.out 0; have hfz30_1 := blk_frozen BK280.out 1) | ((with_reducible refine gate_callee (f := 54) rfl ?_); refine gl 11 Try.func54 #[.agg #[.slice A0_0 l0_0.length c0_0, .slice A0_1 l0_1.length c0_1], .agg #[.int .i64 a1_0, .int .i64 a1_1]] ?_; (with_reducible refine (spec_veAsked.calls k _ _ l0_0 _ _ l0_1 a1_0 a1_1 true _ ?side1 ?side2 ?side3 ?side4 A3.out).mono ?_); (case side1 => exact ck HR0_0 HB); (case side2 => exact HC0_0.out); (case side3 => exact ck HR0_1 HB); (case side4 => exact HC0_1.out); rintro e w31 ⟨rfl, hb⟩; refine ⟨_, rfl, ?_⟩; replace BK279 := bb BK279 hb; replace BK280 := bb BK280 hb; replace HB := bs HB hb; (try clear hb); have hcz32_0 := bc0 BK279; have hcz32_1 := bc1 BK279; have hfz32_0 := blk_frozen BK279.out 0; have hfz32_1 := blk_frozen BK279.out 1; have hcz33_0 := bc0 BK280; have hcz33_1 := bc1 BK280; have hfz33_0 := blk_frozen BK280.out 0; have hfz33_1 := blk_frozen BK280.out 1) | ((with_reducible refine gate_callee (f := 55) rfl ?_); refine gl 15 Try.func55 #[.agg #[.slice A0_0 l0_0.length c0_0, .slice A0_1 l0_1.length c0_1], .agg #[.int .i64 a1_0, .int .i64 a1_1]] ?_; (with_reducible refine (spec_veMake.calls _ _ l0_0 _ _ l0_1 a1_0 a1_1 t282 t285 _ ?side1 ?side2 ?side3 ?side4 A5.out).mono ?_); (case side1 => exact ck HR0_0 HB); (case side2 => exact HC0_0.out); (case side3 => exact ck HR0_1 HB); (case side4 => exact HC0_1.out); rintro e w34 ⟨v283, v286, rfl, ho0, ho1, hb⟩; refine ⟨_, rfl, ?_⟩; have HO284 := lo ho0 HB; have HO287 := lo ho1 HB; replace BK279 := bb BK279 hb; replace BK280 := bb BK280 hb; replace HB := bs HB hb; (try clear hb); (try clear ho0); (try clear ho1)) | ((with_reducible refine gate_dst (N := 6) rfl ?_); refine bx 6 #[.slice none 0 0, .slice none 0 0] 29 ?_; intro gb288 hg w35 hbox hb; replace HO284 := rb HO284 hb; replace HO287 := rb HO287 hb; have BK288 := Aside0.mk (hbox); have GW288 := ge HB hg; have GE288 := ge HB hg; replace HB := bs HB hb; have NB279_288 := nl BK279 hg; have NB288_279 := nr BK279 hg; replace BK279 := bb BK279 hb; have NB280_288 := nl BK280 hg; have NB288_280 := nr BK280 hg; replace BK280 := bb BK280 hb; clear hb hbox hg; obtain ⟨Ao36, co36, eo36⟩ := Kd.R_slice HO284.out; subst eo36; have hnb37 := NB288_279.out; have hnc37 := NB279_288.out; have hnb38 := NB288_280.out; have hnc38 := NB280_288.out; have hcz39_0 := bc0 BK288; have hcz39_1 := bc1 BK288; have hfz39_0 := blk_frozen BK288.out 0; have hfz39_1 := blk_frozen BK288.out 1; obtain ⟨Ao40, co40, eo40⟩ := Kd.R_slice HO287.out; subst eo40; have hcz41_0 := bc0 BK279; have hcz41_1 := bc1 BK279; have hfz41_0 := blk_frozen BK279.out 0; have hfz41_1 := blk_frozen BK279.out 1) | ((with_reducible refine gate_callee (f := 56) rfl ?_); refine gl 18 Try.func56 #[.agg #[.slice Ao36 t282.length co36, .slice Ao40 t285.length co40], .agg #[.slice A0_0 l0_0.length c0_0, .slice A0_1 l0_1.length c0_1]] ?_; (with_reducible refine (spec_veSame.calls k _ _ t282 _ _ t285 _ _ l0_0 _ _ l0_1 false _ ?side1 ?side2 ?side3 ?side4 ?side5 ?side6 ?side7 ?side8 A6.out).mono ?_); (case side1 => refine (Kd.R_reads' (e := 3) (base := w.heap.size) (ok := fun k_ => some k_ ≠ (.slice Ao40 t285.length co40 : Value).ownBlock) (n := t282.length) (c := co36) ?_).2.2; exact (by (with_reducible repeat (first | apply Kd.R_alloc | apply Kd.R_drewN | apply Kd.R_drew)); exact (Kd.R_mono (Kd.R_far (p := ⟨gb288, 1, none⟩) (Kd.R_far (p := ⟨gb288, 0, none⟩) (Kd.R_types HO284.out BK288.out (by decide)) (fun _ hk => hk.2) (.slice Ao36 t282.length co36)) (fun _ hk => hk.2) (.slice Ao40 t285.length co40)) (fun _ h_ => h_.1)))); (case side2 => exact (Kd.R_reads' HO284.out).2.1); (case side3 => refine (Kd.R_reads' (e := 3) (base := w.heap.size) (ok := fun k_ => some k_ ≠ (.slice Ao36 t282.length co36 : Value).ownBlock) (n := t285.length) (c := co40) ?_).2.2; exact (by (with_reducible repeat (first | apply Kd.R_alloc | apply Kd.R_drewN | apply Kd.R_drew)); exact (Kd.R_mono (Kd.R_far (p := ⟨gb288, 1, none⟩) (Kd.R_far (p := ⟨gb288, 0, none⟩) (Kd.R_types HO287.out BK288.out (by decide)) (fun _ hk => hk.2) (.slice Ao36 t282.length co36)) (fun _ hk => hk.2) (.slice Ao40 t285.length co40)) (fun _ h_ => h_.1)))); (case side4 => exact (Kd.R_reads' HO287.out).2.1); (case side5 => exact Kd.C_below HR0_0.out (bw HB)); (case side6 => exact HC0_0.out); (case side7 => exact Kd.C_below HR0_1.out (bw HB)); (case side8 => exact HC0_1.out); rintro e w42 ⟨rfl, hb⟩; refine ⟨_, rfl, ?_⟩; replace HO284 := Aside0.mk (Kd.R_below (by (with_reducible repeat (first | apply Kd.R_alloc | apply Kd.R_drewN | apply Kd.R_drew)); exact (Kd.R_mono (Kd.R_far (p := ⟨gb288, 1, none⟩) (Kd.R_far (p := ⟨gb288, 0, none⟩) (Kd.R_types HO284.out BK288.out (by decide)) (fun _ hk => hk.2) (.slice Ao36 t282.length co36)) (fun _ hk => hk.2) (.slice Ao40 t285.length co40)) (fun _ h_ => h_.1))) hb); replace HO287 := Aside0.mk (Kd.R_below (by (with_reducible repeat (first | apply Kd.R_alloc | apply Kd.R_drewN | apply Kd.R_drew)); exact (Kd.R_mono (Kd.R_far (p := ⟨gb288, 1, none⟩) (Kd.R_far (p := ⟨gb288, 0, none⟩) (Kd.R_types HO287.out BK288.out (by decide)) (fun _ hk => hk.2) (.slice Ao36 t282.length co36)) (fun _ hk => hk.2) (.slice Ao40 t285.length co40)) (fun _ h_ => h_.1))) hb); replace BK279 := bb BK279 hb; replace BK280 := bb BK280 hb; replace BK288 := Aside0.mk (blk_below (g := gb288) (o := .cells #[.slice Ao36 t282.length co36, .slice Ao40 t285.length co40] 29 (0, 0)) (by (with_reducible repeat (first | refine blk_drewN ?_ _ | refine blk_drew ?_ | refine blk_alloc ?_ _)); refine blk_put (cs := #[.slice Ao36 t282.length co36, .slice none 0 0]) ?_ 1 _ rfl; (with_reducible repeat (first | refine blk_drewN ?_ _ | refine blk_drew ?_ | refine blk_alloc ?_ _)); refine blk_put (cs := #[.slice none 0 0, .slice none 0 0]) ?_ 0 _ rfl; exact bk BK288) hb); replace HB := bs HB hb; (try clear hb); have hcz43_0 := bc0 BK288; have hcz43_1 := bc1 BK288; have hfz43_0 := blk_frozen BK288.out 0; have hfz43_1 := blk_frozen BK288.out 1) | ((with_reducible refine gate_callee (f := 50) rfl ?_); refine gl 20 Try.func50 #[.agg #[.slice Ao36 t282.length co36, .slice Ao40 t285.length co40], .bool false] ?_; (with_reducible refine (spec_veOn.calls k _ _ t282 _ _ t285 false t290 _ ?side1 ?side2 ?side3 ?side4 A25.out).mono ?_); (case side1 => exact cr HO284); (case side2 => exact (Kd.R_reads' HO284.out).2.1); (case side3 => exact cr HO287); (case side4 => exact (Kd.R_reads' HO287.out).2.1); rintro e w44 ⟨v291, rfl, ho0, hb⟩; refine ⟨_, rfl, ?_⟩; replace HO284 := rb HO284 hb; replace HO287 := rb HO287 hb; have HO292 := Aside0.mk (Kd.R_lower (Kd.R_newB ho0 (g := gb280) (o := .cells #[.int .i64 a1_0, .int .i64 a1_1] 49 (0, 0)) (bk BK280)) (below_size (bw HB))); replace BK279 := bb BK279 hb; replace BK280 := bb BK280 hb; replace BK288 := bb BK288 hb; replace HB := bs HB hb; (try clear hb); (try clear ho0); obtain ⟨Ao45, co45, eo45⟩ := Kd.R_slice HO292.out; subst eo45))
   try simp only [Act.put, List.setIfInBounds_toArray, List.set_cons_zero, List.set_cons_succ]
   go_loopg [22] k (fun kq v22 w' => ∃ (x22_1 : Int), v22 = .int .i64 x22_1 ∧ Aside0 (spec_IsUndone.l0 kq t290 (t290.length : Int) x22_1 l0_0 l0_1 t282 t285 = some (r1, r2)) ∧ Aside0 (kq ≤ k) ∧ Aside0 (Kd.R k49 49 w' w.heap.size (fun k_ => k_ ≠ gb280) (.slice Ao45 t290.length co45) t290) ∧ Aside0 (Kd.R (Kd.int .i64) 3 w' w.heap.size (fun k_ => some k_ ≠ ((.slice Ao40 t285.length co40) : Value).ownBlock) (.slice Ao36 t282.length co36) t282) ∧ Aside0 (Kd.R (Kd.int .i64) 3 w' w.heap.size (fun k_ => some k_ ≠ ((.slice Ao36 t282.length co36) : Value).ownBlock) (.slice Ao40 t285.length co40) t285) ∧ Aside0 (w'.heap[gb279]? = some (.cells #[(.slice A0_0 l0_0.length c0_0), (.slice A0_1 l0_1.length c0_1)] 29 (0, 0))) ∧ Aside0 (w'.heap[gb280]? = some (.cells #[.int .i64 a1_0, .int .i64 a1_1] 49 (0, 0))) ∧ Aside0 (w'.heap[gb288]? = some (.cells #[(.slice Ao36 t282.length co36), (.slice Ao40 t285.length co40)] 29 (0, 0))) ∧ Aside0 (Below w.heap.size w w'))
   case atStart => exact ⟨(0), (by first | rfl | (simp; done) | (simp [*]; done)), H', ⟨Nat.le_refl _⟩, ⟨by (with_reducible repeat (first | apply Kd.R_alloc | apply Kd.R_drewN | apply Kd.R_drew)); exact Kd.R_mono HO292.out (fun _ hk => hk.2)⟩, ⟨rk HO284⟩, ⟨rk HO287⟩, ⟨bk BK279⟩, ⟨bk BK280⟩, ⟨bk BK288⟩, ⟨bw HB⟩⟩
   case round =>
    clear H'
    try clear c1
    try clear c2
    try clear p2
    try clear c3
    try clear c4
    try clear c5
    try clear c7
    try clear c10
    try clear c19
    try clear c20
    try clear c26
    try clear c28
    try clear c37
    try clear c38
    try clear hcz11_0
    try clear hcz11_1
    try clear hcz12_0
    try clear hcz12_1
    try clear hcz14_0
    try clear hcz14_1
    try clear hcz15_0
    try clear hcz15_1
    try clear hcz21_0
    try clear hcz21_1
    try clear hcz23_0
    try clear hcz23_1
    try clear hcz29_0
    try clear hcz29_1
    try clear hcz30_0
    try clear hcz30_1
    try clear hcz32_0
    try clear hcz32_1
    try clear hcz33_0
    try clear hcz33_1
    try clear hcz39_0
    try clear hcz39_1
    try clear hcz41_0
    try clear hcz41_1
    try clear hcz43_0
    try clear hcz43_1
    try clear hfz11_0
    try clear hfz11_1
    try clear hfz12_0
    try clear hfz12_1
    try clear hfz14_0
    try clear hfz14_1
    try clear hfz15_0
    try clear hfz15_1
    try clear hfz21_0
    try clear hfz21_1
    try clear hfz23_0
    try clear hfz23_1
    try clear hfz29_0
    try clear hfz29_1
    try clear hfz30_0
    try clear hfz30_1
    try clear hfz32_0
    try clear hfz32_1
    try clear hfz33_0
    try clear hfz33_1
    try clear hfz39_0
    try clear hfz39_1
    try clear hfz41_0
    try clear hfz41_1
    try clear hfz43_0
    try clear hfz43_1
    obtain ⟨x22_1, rfl, HA, HK1, HO_20, HO_289000, HO_289001, BK279, BK280, BK288, HB⟩ := hrel
    cases gk with
    | zero => exact absurd HA.out (by simp [spec_IsUndone.l0])
    | succ k1 =>
     have H := HA.out
     clear HA
     simp only [spec_IsUndone.l0] at H
     by_cases c46 : x22_1 < (t290.length : Int)
     ·rw [if_pos c46] at H
      have c46b0 : decide (x22_1 < (t290.length : Int)) = true := decide_eq_true c46
      clear c46
      by_cases c47 : 0 ≤ x22_1
      ·rw [if_pos c47] at H
       have c47b0 : decide (0 ≤ x22_1) = true := decide_eq_true c47
       clear c47
       by_cases c48 : x22_1 < (t290.length : Int)
       ·rw [if_pos c48] at H
        have c48b0 : decide (x22_1 < (t290.length : Int)) = true := decide_eq_true c48
        clear c48
        replace H := Option.bind_eq_some_iff.mp H
        obtain ⟨⟨t295, t298⟩, A490, H⟩ := H
        replace H : ((spec_veSame.f k1 t295 t298 l0_0 l0_1).bind fun t301 => (if t301 = true then (some (true, true)) else (spec_IsUndone.l0 k1 t290 (t290.length : Int) (wrap64 (x22_1 + 1)) l0_0 l0_1 t282 t285))) = some (r1, r2) := H
        have A49 := Aside0.mk A490
        clear A490
        replace H := Option.bind_eq_some_iff.mp H
        obtain ⟨t301, A500, H⟩ := H
        replace H : (if t301 = true then (some (true, true)) else (spec_IsUndone.l0 k1 t290 (t290.length : Int) (wrap64 (x22_1 + 1)) l0_0 l0_1 t282 t285)) = some (r1, r2) := H
        have A50 := Aside0.mk A500
        clear A500
        by_cases c51 : t301 = true
        ·subst c51
         have H1 : (some (true, true)) = some (r1, r2) := by rw [if_pos rfl] at H; exact H
         clear H
         have H := H1
         clear H1
         simp only [Option.some.injEq, Prod.mk.injEq] at H
         obtain ⟨rfl, rfl⟩ := H
         have p293 : 0 ≤ (x22_1 : Int) := of_decide_eq_true (by first | (with_reducible assumption) | assumption)
         have q293 : x22_1 < (t290.length : Int) := of_decide_eq_true (by first | (with_reducible assumption) | assumption)
         obtain ⟨ad293, e293, hx293_0, hx293_1⟩ := at_T49 (Kd.R_reads' HO_20.out).2.2 x22_1 p293 q293
         cases e293
         replace p293 := eq_true p293
         replace q293 := eq_true q293
         try go_wp2_with (first | ((with_reducible refine gate_dst (N := 8) rfl ?_); refine bx 8 #[.int .i64 0, .int .i64 0] 49 ?_; intro gb294 hg w52 hbox hb; replace HO_20 := Aside0.mk (Kd.R_below (Kd.R_elderB (rk HO_20) gb294 (Nat.le_of_eq hg.symm)) hb); replace HO_289000 := rb HO_289000 hb; replace HO_289001 := rb HO_289001 hb; have BK294 := Aside0.mk (hbox); have GW294 := ge HB hg; have GE294 := ge HB hg; replace HB := bs HB hb; have NB279_294 := nl BK279 hg; have NB294_279 := nr BK279 hg; replace BK279 := bb BK279 hb; have NB280_294 := nl BK280 hg; have NB294_280 := nr BK280 hg; replace BK280 := bb BK280 hb; have NB288_294 := nl BK288 hg; have NB294_288 := nr BK288 hg; replace BK288 := bb BK288 hb; clear hb hbox hg; have hnb53 := NB294_279.out; have hnc53 := NB279_294.out; have hnb54 := NB294_280.out; have hnc54 := NB280_294.out; have hnb55 := NB294_288.out; have hnc55 := NB288_294.out; have hcz56_0 := bc0 BK294; have hcz56_1 := bc1 BK294; have hfz56_0 := blk_frozen BK294.out 0; have hfz56_1 := blk_frozen BK294.out 1))
         have n0_ : Aside0 (Kd.R k49 49 ((w52.setCell ⟨gb294, 0, none⟩ (.int .i64 ((rd_T49 t290 x22_1).f0))).setCell ⟨gb294, 1, none⟩ (.int .i64 ((rd_T49 t290 x22_1).f1))) w.heap.size (fun k_ => k_ ≠ gb280 ∧ k_ ≠ gb294) (.slice (some ad293) t290.length co45) t290) := ⟨by (with_reducible repeat (first | apply Kd.R_alloc | apply Kd.R_drewN | apply Kd.R_drew)); exact Kd.R_mono (Kd.R_far (p := ⟨gb294, 1, none⟩) (Kd.R_far (p := ⟨gb294, 0, none⟩) (Kd.R_mono HO_20.out (fun k_ hk => (⟨hk, hk.2⟩ : _ ∧ k_ ≠ gb294))) (fun _ hk => hk.2) (.int .i64 ((rd_T49 t290 x22_1).f0))) (fun _ hk => hk.2) (.int .i64 ((rd_T49 t290 x22_1).f1))) (fun _ hk => ⟨hk.1.1, hk.1.2⟩)⟩
         have n1_ : Aside0 (Kd.R (Kd.int .i64) 3 ((w52.setCell ⟨gb294, 0, none⟩ (.int .i64 ((rd_T49 t290 x22_1).f0))).setCell ⟨gb294, 1, none⟩ (.int .i64 ((rd_T49 t290 x22_1).f1))) w.heap.size (fun k_ => some k_ ≠ (.slice Ao40 t285.length co40 : Value).ownBlock) (.slice Ao36 t282.length co36) t282) := ⟨by (with_reducible repeat (first | apply Kd.R_alloc | apply Kd.R_drewN | apply Kd.R_drew)); exact Kd.R_mono (Kd.R_far (p := ⟨gb294, 1, none⟩) (Kd.R_far (p := ⟨gb294, 0, none⟩) (Kd.R_types HO_289000.out BK294.out (by decide)) (fun _ hk => hk.2) (.int .i64 ((rd_T49 t290 x22_1).f0))) (fun _ hk => hk.2) (.int .i64 ((rd_T49 t290 x22_1).f1))) (fun _ hk => hk.1)⟩
         have n2_ : Aside0 (Kd.R (Kd.int .i64) 3 ((w52.setCell ⟨gb294, 0, none⟩ (.int .i64 ((rd_T49 t290 x22_1).f0))).setCell ⟨gb294, 1, none⟩ (.int .i64 ((rd_T49 t290 x22_1).f1))) w.heap.size (fun k_ => some k_ ≠ (.slice Ao36 t282.length co36 : Value).ownBlock) (.slice Ao40 t285.length co40) t285) := ⟨by (with_reducible repeat (first | apply Kd.R_alloc | apply Kd.R_drewN | apply Kd.R_drew)); exact Kd.R_mono (Kd.R_far (p := ⟨gb294, 1, none⟩) (Kd.R_far (p := ⟨gb294, 0, none⟩) (Kd.R_types HO_289001.out BK294.out (by decide)) (fun _ hk => hk.2) (.int .i64 ((rd_T49 t290 x22_1).f0))) (fun _ hk => hk.2) (.int .i64 ((rd_T49 t290 x22_1).f1))) (fun _ hk => hk.1)⟩
         have n3_ : Aside0 (((w52.setCell ⟨gb294, 0, none⟩ (.int .i64 ((rd_T49 t290 x22_1).f0))).setCell ⟨gb294, 1, none⟩ (.int .i64 ((rd_T49 t290 x22_1).f1))).heap[gb279]? = some (.cells #[.slice A0_0 l0_0.length c0_0, .slice A0_1 l0_1.length c0_1] 29 (0, 0))) := ⟨bk BK279⟩
         have n4_ : Aside0 (((w52.setCell ⟨gb294, 0, none⟩ (.int .i64 ((rd_T49 t290 x22_1).f0))).setCell ⟨gb294, 1, none⟩ (.int .i64 ((rd_T49 t290 x22_1).f1))).heap[gb280]? = some (.cells #[.int .i64 a1_0, .int .i64 a1_1] 49 (0, 0))) := ⟨bk BK280⟩
         have n5_ : Aside0 (((w52.setCell ⟨gb294, 0, none⟩ (.int .i64 ((rd_T49 t290 x22_1).f0))).setCell ⟨gb294, 1, none⟩ (.int .i64 ((rd_T49 t290 x22_1).f1))).heap[gb288]? = some (.cells #[.slice Ao36 t282.length co36, .slice Ao40 t285.length co40] 29 (0, 0))) := ⟨bk BK288⟩
         have n6_ : Aside0 (((w52.setCell ⟨gb294, 0, none⟩ (.int .i64 ((rd_T49 t290 x22_1).f0))).setCell ⟨gb294, 1, none⟩ (.int .i64 ((rd_T49 t290 x22_1).f1))).heap[gb294]? = some (.cells #[.int .i64 ((rd_T49 t290 x22_1).f0), .int .i64 ((rd_T49 t290 x22_1).f1)] 49 (0, 0))) := ⟨by (with_reducible repeat (first | refine blk_drewN ?_ _ | refine blk_drew ?_ | refine blk_alloc ?_ _)); refine blk_put (cs := #[.int .i64 ((rd_T49 t290 x22_1).f0), .int .i64 0]) ?_ 1 _ rfl; (with_reducible repeat (first | refine blk_drewN ?_ _ | refine blk_drew ?_ | refine blk_alloc ?_ _)); refine blk_put (cs := #[.int .i64 0, .int .i64 0]) ?_ 0 _ rfl; exact bk BK294⟩
         have n7_ : Aside0 (Below w.heap.size w ((w52.setCell ⟨gb294, 0, none⟩ (.int .i64 ((rd_T49 t290 x22_1).f0))).setCell ⟨gb294, 1, none⟩ (.int .i64 ((rd_T49 t290 x22_1).f1)))) := ⟨bw HB⟩
         (try clear HO_20)
         (try clear HO_289000)
         (try clear HO_289001)
         (try clear BK279)
         (try clear BK280)
         (try clear BK288)
         (try clear BK294)
         (try clear HB)
         generalize ((w52.setCell ⟨gb294, 0, none⟩ (.int .i64 ((rd_T49 t290 x22_1).f0))).setCell ⟨gb294, 1, none⟩ (.int .i64 ((rd_T49 t290 x22_1).f1))) = w57 at n0_ n1_ n2_ n3_ n4_ n5_ n6_ n7_ ⊢
         have HO_20 := n0_
         have HO_289000 := n1_
         have HO_289001 := n2_
         have BK279 := n3_
         have BK280 := n4_
         have BK288 := n5_
         have BK294 := n6_
         have HB := n7_
         clear n0_ n1_ n2_ n3_ n4_ n5_ n6_ n7_
         replace HO_20 := Aside0.mk (Kd.R_drew HO_20.out)
         replace HO_289000 := Aside0.mk (Kd.R_drew HO_289000.out)
         replace HO_289001 := Aside0.mk (Kd.R_drew HO_289001.out)
         replace BK279 := Aside0.mk (blk_drew BK279.out)
         replace BK280 := Aside0.mk (blk_drew BK280.out)
         replace BK288 := Aside0.mk (blk_drew BK288.out)
         replace BK294 := Aside0.mk (blk_drew BK294.out)
         replace HB := Aside0.mk (below_drew1 HB.out)
         refine start_ (n := 5) (S := fun w' => w'.cell? ⟨gb288, 0, none⟩ = some (.slice Ao36 t282.length co36) ∧ w'.cell? ⟨gb288, 1, none⟩ = some (.slice Ao40 t285.length co40) ∧ w'.cell? ⟨gb294, 0, none⟩ = some (.int .i64 ((rd_T49 t290 x22_1).f0)) ∧ w'.cell? ⟨gb294, 1, none⟩ = some (.int .i64 ((rd_T49 t290 x22_1).f1)) ∧ w'.cell? ⟨gb279, 0, none⟩ = some (.slice A0_0 l0_0.length c0_0) ∧ w'.cell? ⟨gb279, 1, none⟩ = some (.slice A0_1 l0_1.length c0_1)) (ds := []) #[false, false, false, false, false] (by kernel_rfl) rfl rfl ⟨bc0 BK288, bc1 BK288, bc0 BK294, bc1 BK294, bc0 BK279, bc1 BK279⟩ (fun hHeld => ?_)
         generalize w57.drew = w58 at HO_20 HO_289000 HO_289001 BK279 BK280 BK288 BK294 HB hHeld ⊢
         refine take_ (i := 0) (N := some 26) (v := ?_) (a' := ?_) #[true, false, false, false, false] rfl rfl (by kernel_rfl) (fun _ _ _ h => h) (Or.inl ⟨by rfl, ?_⟩) hHeld ?_ ?_
         rotate_left
         ·rintro w' ⟨s0, s1, s2, s3, s4, s5⟩
          go_simp
          with_reducible rfl
         rotate_left
         ·simp only [Act.put, List.setIfInBounds_toArray, List.set_cons_zero, List.set_cons_succ, i64_w, i32_w]
          rfl
         refine take_ (i := 1) (N := some 27) (v := ?_) (a' := ?_) #[true, true, false, false, false] rfl rfl (by kernel_rfl) (fun _ _ _ h => h) (Or.inl ⟨by rfl, ?_⟩) hHeld ?_ ?_
         rotate_left
         ·rintro w' ⟨s0, s1, s2, s3, s4, s5⟩
          go_simp
          with_reducible rfl
         rotate_left
         ·simp only [Act.put, List.setIfInBounds_toArray, List.set_cons_zero, List.set_cons_succ, i64_w, i32_w]
          rfl
         refine take_ (i := 3) (N := some 29) (v := ?_) (a' := ?_) #[true, true, false, true, false] rfl rfl (by kernel_rfl) (fun _ _ _ h => h) (Or.inl ⟨by rfl, ?_⟩) hHeld ?_ ?_
         rotate_left
         ·rintro w' ⟨s0, s1, s2, s3, s4, s5⟩
          go_simp
          with_reducible rfl
         rotate_left
         ·simp only [Act.put, List.setIfInBounds_toArray, List.set_cons_zero, List.set_cons_succ, i64_w, i32_w]
          rfl
         refine one_ (i := 2) (N := some 28) #[true, true, true, true, false] rfl rfl (by kernel_rfl) (by decide) (fun K hK => ?_)
         refine goes_ Try.func55 (by kernel_rfl) rfl #[.agg #[.slice Ao36 t282.length co36, .slice Ao40 t285.length co40], .agg #[.int .i64 ((rd_T49 t290 x22_1).f0), .int .i64 ((rd_T49 t290 x22_1).f1)]] (by rfl) rfl rfl (by (try simp only [List.map_toArray, List.map_cons, List.map_nil]); first | done | rfl | (simp only [List.length_drop, List.length_take]; rfl)) ?_
         with_reducible refine (spec_veMake.calls _ _ t282 _ _ t285 ((rd_T49 t290 x22_1).f0) ((rd_T49 t290 x22_1).f1) t295 t298 _ ?side1 ?side2 ?side3 ?side4 A49.out).mono ?_
         (case side1 => exact cr HO_289000)
         (case side2 => exact (Kd.R_reads' HO_289000.out).2.1)
         (case side3 => exact cr HO_289001)
         (case side4 => exact (Kd.R_reads' HO_289001.out).2.1)
         rintro e w59 ⟨v296, v299, rfl, ho0, ho1, hb⟩
         refine ⟨_, rfl, ?_⟩
         replace HO_20 := rb HO_20 hb
         have HO297 := Aside0.mk (Kd.R_lower (Kd.R_new' (Kd.R_new' ho0 (Kd.R_lt (rk HO_289000))) (Kd.R_lt (rk HO_289001))) (below_size (bw HB)))
         have HO300 := Aside0.mk (Kd.R_lower (Kd.R_new' (Kd.R_new' ho1 (Kd.R_lt (rk HO_289000))) (Kd.R_lt (rk HO_289001))) (below_size (bw HB)))
         replace HO_289000 := Aside0.mk (Kd.R_mono (Kd.R_told (Kd.R_told (Kd.R_old (rk HO_289000) hb) (Kd.R_base ho0)) (Kd.R_base ho1)) (fun _ h_ => h_.1))
         replace HO_289001 := Aside0.mk (Kd.R_mono (Kd.R_told (Kd.R_told (Kd.R_old (rk HO_289001) hb) (Kd.R_base ho0)) (Kd.R_base ho1)) (fun _ h_ => h_.1))
         replace BK279 := bb BK279 hb
         replace BK280 := bb BK280 hb
         replace BK288 := bb BK288 hb
         replace BK294 := bb BK294 hb
         replace HB := bs HB hb
         (try clear hb)
         (try clear hb2)
         (try clear hk)
         (try clear hi)
         (try clear ho0)
         (try clear ho1)
         obtain ⟨Ao60, co60, eo60⟩ := Kd.R_slice HO297.out
         (first | subst eo60 | (injection eo60 with f1_ f2_ f3_; have f4_ := f1_.symm; have f5_ := f3_.symm; clear f1_ f2_ f3_; subst f4_; subst f5_))
         obtain ⟨Ao61, co61, eo61⟩ := Kd.R_slice HO300.out
         (first | subst eo61 | (injection eo61 with f1_ f2_ f3_; have f4_ := f1_.symm; have f5_ := f3_.symm; clear f1_ f2_ f3_; subst f4_; subst f5_))
         refine hK.out _ _ ⟨bc0 BK288, bc1 BK288, bc0 BK294, bc1 BK294, bc0 BK279, bc1 BK279⟩ (fun hHeld => ?_)
         clear hK K
         refine norm_ (a' := ?_) ?_ ?_
         rotate_left
         ·show Act.put _ (some 28) _ = _
          simp only [Act.put, List.setIfInBounds_toArray, List.set_cons_zero, List.set_cons_succ, i64_w, i32_w]
          rfl
         refine one_ (i := 4) (N := some 30) #[true, true, true, true, true] rfl rfl (by kernel_rfl) (by decide) (fun K hK => ?_)
         refine goes_ Try.func56 (by kernel_rfl) rfl #[.agg #[.slice Ao60 t295.length co60, .slice Ao61 t298.length co61], .agg #[.slice A0_0 l0_0.length c0_0, .slice A0_1 l0_1.length c0_1]] (by rfl) rfl rfl (by (try simp only [List.map_toArray, List.map_cons, List.map_nil]); first | done | rfl | (simp only [List.length_drop, List.length_take]; rfl)) ?_
         with_reducible refine (spec_veSame.calls k1 _ _ t295 _ _ t298 _ _ l0_0 _ _ l0_1 true _ ?side1 ?side2 ?side3 ?side4 ?side5 ?side6 ?side7 ?side8 A50.out).mono ?_
         (case side1 => exact cr HO297)
         (case side2 => exact (Kd.R_reads' HO297.out).2.1)
         (case side3 => exact cr HO300)
         (case side4 => exact (Kd.R_reads' HO300.out).2.1)
         (case side5 => exact ck HR0_0 HB)
         (case side6 => exact HC0_0.out)
         (case side7 => exact ck HR0_1 HB)
         (case side8 => exact HC0_1.out)
         rintro e w62 ⟨rfl, hb⟩
         refine ⟨_, rfl, ?_⟩
         replace HO_20 := rb HO_20 hb
         replace HO_289000 := rb HO_289000 hb
         replace HO_289001 := rb HO_289001 hb
         replace HO297 := rb HO297 hb
         replace HO300 := rb HO300 hb
         replace BK279 := bb BK279 hb
         replace BK280 := bb BK280 hb
         replace BK288 := bb BK288 hb
         replace BK294 := bb BK294 hb
         replace HB := bs HB hb
         (try clear hb)
         (try clear hb2)
         (try clear hk)
         (try clear hi)
         refine hK.out _ _ ⟨bc0 BK288, bc1 BK288, bc0 BK294, bc1 BK294, bc0 BK279, bc1 BK279⟩ (fun hHeld => ?_)
         clear hK K
         refine norm_ (a' := ?_) ?_ ?_
         rotate_left
         ·show Act.put _ (some 30) _ = _
          simp only [Act.put, List.setIfInBounds_toArray, List.set_cons_zero, List.set_cons_succ, i64_w, i32_w]
          rfl
         refine done_ (by kernel_rfl) ?_
         try go_wp2
         go_ret2
         exact ⟨by first | rfl | (simp [errW_none, errW_some] <;> rfl) | (simp [*, errW_none, errW_some] <;> rfl), bw HB⟩
        ·replace c51 := Bool.eq_false_iff.mpr c51
         subst c51
         have H1 : (spec_IsUndone.l0 k1 t290 (t290.length : Int) (wrap64 (x22_1 + 1)) l0_0 l0_1 t282 t285) = some (r1, r2) := by rw [if_neg (show ¬ (false = true) by decide)] at H; exact H
         clear H
         have H := H1
         clear H1
         have H' := Aside0.mk H
         clear H
         have p293 : 0 ≤ (x22_1 : Int) := of_decide_eq_true (by first | (with_reducible assumption) | assumption)
         have q293 : x22_1 < (t290.length : Int) := of_decide_eq_true (by first | (with_reducible assumption) | assumption)
         obtain ⟨ad293, e293, hx293_0, hx293_1⟩ := at_T49 (Kd.R_reads' HO_20.out).2.2 x22_1 p293 q293
         cases e293
         replace p293 := eq_true p293
         replace q293 := eq_true q293
         try go_wp2_with (first | ((with_reducible refine gate_dst (N := 8) rfl ?_); refine bx 8 #[.int .i64 0, .int .i64 0] 49 ?_; intro gb294 hg w63 hbox hb; replace HO_20 := Aside0.mk (Kd.R_below (Kd.R_elderB (rk HO_20) gb294 (Nat.le_of_eq hg.symm)) hb); replace HO_289000 := rb HO_289000 hb; replace HO_289001 := rb HO_289001 hb; have BK294 := Aside0.mk (hbox); have GW294 := ge HB hg; have GE294 := ge HB hg; replace HB := bs HB hb; have NB279_294 := nl BK279 hg; have NB294_279 := nr BK279 hg; replace BK279 := bb BK279 hb; have NB280_294 := nl BK280 hg; have NB294_280 := nr BK280 hg; replace BK280 := bb BK280 hb; have NB288_294 := nl BK288 hg; have NB294_288 := nr BK288 hg; replace BK288 := bb BK288 hb; clear hb hbox hg; have hnb64 := NB294_279.out; have hnc64 := NB279_294.out; have hnb65 := NB294_280.out; have hnc65 := NB280_294.out; have hnb66 := NB294_288.out; have hnc66 := NB288_294.out; have hcz67_0 := bc0 BK294; have hcz67_1 := bc1 BK294; have hfz67_0 := blk_frozen BK294.out 0; have hfz67_1 := blk_frozen BK294.out 1))
         have n0_ : Aside0 (Kd.R k49 49 ((w63.setCell ⟨gb294, 0, none⟩ (.int .i64 ((rd_T49 t290 x22_1).f0))).setCell ⟨gb294, 1, none⟩ (.int .i64 ((rd_T49 t290 x22_1).f1))) w.heap.size (fun k_ => k_ ≠ gb280 ∧ k_ ≠ gb294) (.slice (some ad293) t290.length co45) t290) := ⟨by (with_reducible repeat (first | apply Kd.R_alloc | apply Kd.R_drewN | apply Kd.R_drew)); exact Kd.R_mono (Kd.R_far (p := ⟨gb294, 1, none⟩) (Kd.R_far (p := ⟨gb294, 0, none⟩) (Kd.R_mono HO_20.out (fun k_ hk => (⟨hk, hk.2⟩ : _ ∧ k_ ≠ gb294))) (fun _ hk => hk.2) (.int .i64 ((rd_T49 t290 x22_1).f0))) (fun _ hk => hk.2) (.int .i64 ((rd_T49 t290 x22_1).f1))) (fun _ hk => ⟨hk.1.1, hk.1.2⟩)⟩
         have n1_ : Aside0 (Kd.R (Kd.int .i64) 3 ((w63.setCell ⟨gb294, 0, none⟩ (.int .i64 ((rd_T49 t290 x22_1).f0))).setCell ⟨gb294, 1, none⟩ (.int .i64 ((rd_T49 t290 x22_1).f1))) w.heap.size (fun k_ => some k_ ≠ (.slice Ao40 t285.length co40 : Value).ownBlock) (.slice Ao36 t282.length co36) t282) := ⟨by (with_reducible repeat (first | apply Kd.R_alloc | apply Kd.R_drewN | apply Kd.R_drew)); exact Kd.R_mono (Kd.R_far (p := ⟨gb294, 1, none⟩) (Kd.R_far (p := ⟨gb294, 0, none⟩) (Kd.R_types HO_289000.out BK294.out (by decide)) (fun _ hk => hk.2) (.int .i64 ((rd_T49 t290 x22_1).f0))) (fun _ hk => hk.2) (.int .i64 ((rd_T49 t290 x22_1).f1))) (fun _ hk => hk.1)⟩
         have n2_ : Aside0 (Kd.R (Kd.int .i64) 3 ((w63.setCell ⟨gb294, 0, none⟩ (.int .i64 ((rd_T49 t290 x22_1).f0))).setCell ⟨gb294, 1, none⟩ (.int .i64 ((rd_T49 t290 x22_1).f1))) w.heap.size (fun k_ => some k_ ≠ (.slice Ao36 t282.length co36 : Value).ownBlock) (.slice Ao40 t285.length co40) t285) := ⟨by (with_reducible repeat (first | apply Kd.R_alloc | apply Kd.R_drewN | apply Kd.R_drew)); exact Kd.R_mono (Kd.R_far (p := ⟨gb294, 1, none⟩) (Kd.R_far (p := ⟨gb294, 0, none⟩) (Kd.R_types HO_289001.out BK294.out (by decide)) (fun _ hk => hk.2) (.int .i64 ((rd_T49 t290 x22_1).f0))) (fun _ hk => hk.2) (.int .i64 ((rd_T49 t290 x22_1).f1))) (fun _ hk => hk.1)⟩
         have n3_ : Aside0 (((w63.setCell ⟨gb294, 0, none⟩ (.int .i64 ((rd_T49 t290 x22_1).f0))).setCell ⟨gb294, 1, none⟩ (.int .i64 ((rd_T49 t290 x22_1).f1))).heap[gb279]? = some (.cells #[.slice A0_0 l0_0.length c0_0, .slice A0_1 l0_1.length c0_1] 29 (0, 0))) := ⟨bk BK279⟩
         have n4_ : Aside0 (((w63.setCell ⟨gb294, 0, none⟩ (.int .i64 ((rd_T49 t290 x22_1).f0))).setCell ⟨gb294, 1, none⟩ (.int .i64 ((rd_T49 t290 x22_1).f1))).heap[gb280]? = some (.cells #[.int .i64 a1_0, .int .i64 a1_1] 49 (0, 0))) := ⟨bk BK280⟩
         have n5_ : Aside0 (((w63.setCell ⟨gb294, 0, none⟩ (.int .i64 ((rd_T49 t290 x22_1).f0))).setCell ⟨gb294, 1, none⟩ (.int .i64 ((rd_T49 t290 x22_1).f1))).heap[gb288]? = some (.cells #[.slice Ao36 t282.length co36, .slice Ao40 t285.length co40] 29 (0, 0))) := ⟨bk BK288⟩
         have n6_ : Aside0 (((w63.setCell ⟨gb294, 0, none⟩ (.int .i64 ((rd_T49 t290 x22_1).f0))).setCell ⟨gb294, 1, none⟩ (.int .i64 ((rd_T49 t290 x22_1).f1))).heap[gb294]? = some (.cells #[.int .i64 ((rd_T49 t290 x22_1).f0), .int .i64 ((rd_T49 t290 x22_1).f1)] 49 (0, 0))) := ⟨by (with_reducible repeat (first | refine blk_drewN ?_ _ | refine blk_drew ?_ | refine blk_alloc ?_ _)); refine blk_put (cs := #[.int .i64 ((rd_T49 t290 x22_1).f0), .int .i64 0]) ?_ 1 _ rfl; (with_reducible repeat (first | refine blk_drewN ?_ _ | refine blk_drew ?_ | refine blk_alloc ?_ _)); refine blk_put (cs := #[.int .i64 0, .int .i64 0]) ?_ 0 _ rfl; exact bk BK294⟩
         have n7_ : Aside0 (Below w.heap.size w ((w63.setCell ⟨gb294, 0, none⟩ (.int .i64 ((rd_T49 t290 x22_1).f0))).setCell ⟨gb294, 1, none⟩ (.int .i64 ((rd_T49 t290 x22_1).f1)))) := ⟨bw HB⟩
         (try clear HO_20)
         (try clear HO_289000)
         (try clear HO_289001)
         (try clear BK279)
         (try clear BK280)
         (try clear BK288)
         (try clear BK294)
         (try clear HB)
         generalize ((w63.setCell ⟨gb294, 0, none⟩ (.int .i64 ((rd_T49 t290 x22_1).f0))).setCell ⟨gb294, 1, none⟩ (.int .i64 ((rd_T49 t290 x22_1).f1))) = w68 at n0_ n1_ n2_ n3_ n4_ n5_ n6_ n7_ ⊢
         have HO_20 := n0_
         have HO_289000 := n1_
         have HO_289001 := n2_
         have BK279 := n3_
         have BK280 := n4_
         have BK288 := n5_
         have BK294 := n6_
         have HB := n7_
         clear n0_ n1_ n2_ n3_ n4_ n5_ n6_ n7_
         replace HO_20 := Aside0.mk (Kd.R_drew HO_20.out)
         replace HO_289000 := Aside0.mk (Kd.R_drew HO_289000.out)
         replace HO_289001 := Aside0.mk (Kd.R_drew HO_289001.out)
         replace BK279 := Aside0.mk (blk_drew BK279.out)
         replace BK280 := Aside0.mk (blk_drew BK280.out)
         replace BK288 := Aside0.mk (blk_drew BK288.out)
         replace BK294 := Aside0.mk (blk_drew BK294.out)
         replace HB := Aside0.mk (below_drew1 HB.out)
         refine start_ (n := 5) (S := fun w' => w'.cell? ⟨gb288, 0, none⟩ = some (.slice Ao36 t282.length co36) ∧ w'.cell? ⟨gb288, 1, none⟩ = some (.slice Ao40 t285.length co40) ∧ w'.cell? ⟨gb294, 0, none⟩ = some (.int .i64 ((rd_T49 t290 x22_1).f0)) ∧ w'.cell? ⟨gb294, 1, none⟩ = some (.int .i64 ((rd_T49 t290 x22_1).f1)) ∧ w'.cell? ⟨gb279, 0, none⟩ = some (.slice A0_0 l0_0.length c0_0) ∧ w'.cell? ⟨gb279, 1, none⟩ = some (.slice A0_1 l0_1.length c0_1)) (ds := []) #[false, false, false, false, false] (by kernel_rfl) rfl rfl ⟨bc0 BK288, bc1 BK288, bc0 BK294, bc1 BK294, bc0 BK279, bc1 BK279⟩ (fun hHeld => ?_)
         generalize w68.drew = w69 at HO_20 HO_289000 HO_289001 BK279 BK280 BK288 BK294 HB hHeld ⊢
         refine take_ (i := 0) (N := some 26) (v := ?_) (a' := ?_) #[true, false, false, false, false] rfl rfl (by kernel_rfl) (fun _ _ _ h => h) (Or.inl ⟨by rfl, ?_⟩) hHeld ?_ ?_
         rotate_left
         ·rintro w' ⟨s0, s1, s2, s3, s4, s5⟩
          go_simp
          with_reducible rfl
         rotate_left
         ·simp only [Act.put, List.setIfInBounds_toArray, List.set_cons_zero, List.set_cons_succ, i64_w, i32_w]
          rfl
         refine take_ (i := 1) (N := some 27) (v := ?_) (a' := ?_) #[true, true, false, false, false] rfl rfl (by kernel_rfl) (fun _ _ _ h => h) (Or.inl ⟨by rfl, ?_⟩) hHeld ?_ ?_
         rotate_left
         ·rintro w' ⟨s0, s1, s2, s3, s4, s5⟩
          go_simp
          with_reducible rfl
         rotate_left
         ·simp only [Act.put, List.setIfInBounds_toArray, List.set_cons_zero, List.set_cons_succ, i64_w, i32_w]
          rfl
         refine take_ (i := 3) (N := some 29) (v := ?_) (a' := ?_) #[true, true, false, true, false] rfl rfl (by kernel_rfl) (fun _ _ _ h => h) (Or.inl ⟨by rfl, ?_⟩) hHeld ?_ ?_
         rotate_left
         ·rintro w' ⟨s0, s1, s2, s3, s4, s5⟩
          go_simp
          with_reducible rfl
         rotate_left
         ·simp only [Act.put, List.setIfInBounds_toArray, List.set_cons_zero, List.set_cons_succ, i64_w, i32_w]
          rfl
         refine one_ (i := 2) (N := some 28) #[true, true, true, true, false] rfl rfl (by kernel_rfl) (by decide) (fun K hK => ?_)
         refine goes_ Try.func55 (by kernel_rfl) rfl #[.agg #[.slice Ao36 t282.length co36, .slice Ao40 t285.length co40], .agg #[.int .i64 ((rd_T49 t290 x22_1).f0), .int .i64 ((rd_T49 t290 x22_1).f1)]] (by rfl) rfl rfl (by (try simp only [List.map_toArray, List.map_cons, List.map_nil]); first | done | rfl | (simp only [List.length_drop, List.length_take]; rfl)) ?_
         with_reducible refine (spec_veMake.calls _ _ t282 _ _ t285 ((rd_T49 t290 x22_1).f0) ((rd_T49 t290 x22_1).f1) t295 t298 _ ?side1 ?side2 ?side3 ?side4 A49.out).mono ?_
         (case side1 => exact cr HO_289000)
         (case side2 => exact (Kd.R_reads' HO_289000.out).2.1)
         (case side3 => exact cr HO_289001)
         (case side4 => exact (Kd.R_reads' HO_289001.out).2.1)
         rintro e w70 ⟨v296, v299, rfl, ho0, ho1, hb⟩
         refine ⟨_, rfl, ?_⟩
         replace HO_20 := rb HO_20 hb
         have HO297 := Aside0.mk (Kd.R_lower (Kd.R_new' (Kd.R_new' ho0 (Kd.R_lt (rk HO_289000))) (Kd.R_lt (rk HO_289001))) (below_size (bw HB)))
         have HO300 := Aside0.mk (Kd.R_lower (Kd.R_new' (Kd.R_new' ho1 (Kd.R_lt (rk HO_289000))) (Kd.R_lt (rk HO_289001))) (below_size (bw HB)))
         replace HO_289000 := Aside0.mk (Kd.R_mono (Kd.R_told (Kd.R_told (Kd.R_old (rk HO_289000) hb) (Kd.R_base ho0)) (Kd.R_base ho1)) (fun _ h_ => h_.1))
         replace HO_289001 := Aside0.mk (Kd.R_mono (Kd.R_told (Kd.R_told (Kd.R_old (rk HO_289001) hb) (Kd.R_base ho0)) (Kd.R_base ho1)) (fun _ h_ => h_.1))
         replace BK279 := bb BK279 hb
         replace BK280 := bb BK280 hb
         replace BK288 := bb BK288 hb
         replace BK294 := bb BK294 hb
         replace HB := bs HB hb
         (try clear hb)
         (try clear hb2)
         (try clear hk)
         (try clear hi)
         (try clear ho0)
         (try clear ho1)
         obtain ⟨Ao71, co71, eo71⟩ := Kd.R_slice HO297.out
         (first | subst eo71 | (injection eo71 with f1_ f2_ f3_; have f4_ := f1_.symm; have f5_ := f3_.symm; clear f1_ f2_ f3_; subst f4_; subst f5_))
         obtain ⟨Ao72, co72, eo72⟩ := Kd.R_slice HO300.out
         (first | subst eo72 | (injection eo72 with f1_ f2_ f3_; have f4_ := f1_.symm; have f5_ := f3_.symm; clear f1_ f2_ f3_; subst f4_; subst f5_))
         refine hK.out _ _ ⟨bc0 BK288, bc1 BK288, bc0 BK294, bc1 BK294, bc0 BK279, bc1 BK279⟩ (fun hHeld => ?_)
         clear hK K
         refine norm_ (a' := ?_) ?_ ?_
         rotate_left
         ·show Act.put _ (some 28) _ = _
          simp only [Act.put, List.setIfInBounds_toArray, List.set_cons_zero, List.set_cons_succ, i64_w, i32_w]
          rfl
         refine one_ (i := 4) (N := some 30) #[true, true, true, true, true] rfl rfl (by kernel_rfl) (by decide) (fun K hK => ?_)
         refine goes_ Try.func56 (by kernel_rfl) rfl #[.agg #[.slice Ao71 t295.length co71, .slice Ao72 t298.length co72], .agg #[.slice A0_0 l0_0.length c0_0, .slice A0_1 l0_1.length c0_1]] (by rfl) rfl rfl (by (try simp only [List.map_toArray, List.map_cons, List.map_nil]); first | done | rfl | (simp only [List.length_drop, List.length_take]; rfl)) ?_
         with_reducible refine (spec_veSame.calls k1 _ _ t295 _ _ t298 _ _ l0_0 _ _ l0_1 false _ ?side1 ?side2 ?side3 ?side4 ?side5 ?side6 ?side7 ?side8 A50.out).mono ?_
         (case side1 => exact cr HO297)
         (case side2 => exact (Kd.R_reads' HO297.out).2.1)
         (case side3 => exact cr HO300)
         (case side4 => exact (Kd.R_reads' HO300.out).2.1)
         (case side5 => exact ck HR0_0 HB)
         (case side6 => exact HC0_0.out)
         (case side7 => exact ck HR0_1 HB)
         (case side8 => exact HC0_1.out)
         rintro e w73 ⟨rfl, hb⟩
         refine ⟨_, rfl, ?_⟩
         replace HO_20 := rb HO_20 hb
         replace HO_289000 := rb HO_289000 hb
         replace HO_289001 := rb HO_289001 hb
         replace HO297 := rb HO297 hb
         replace HO300 := rb HO300 hb
         replace BK279 := bb BK279 hb
         replace BK280 := bb BK280 hb
         replace BK288 := bb BK288 hb
         replace BK294 := bb BK294 hb
         replace HB := bs HB hb
         (try clear hb)
         (try clear hb2)
         (try clear hk)
         (try clear hi)
         refine hK.out _ _ ⟨bc0 BK288, bc1 BK288, bc0 BK294, bc1 BK294, bc0 BK279, bc1 BK279⟩ (fun hHeld => ?_)
         clear hK K
         refine norm_ (a' := ?_) ?_ ?_
         rotate_left
         ·show Act.put _ (some 30) _ = _
          simp only [Act.put, List.setIfInBounds_toArray, List.set_cons_zero, List.set_cons_succ, i64_w, i32_w]
          rfl
         refine done_ (by kernel_rfl) ?_
         try go_wp2
         go_roundg k1
         case measure => have := HK1.out; omega
         case rel => exact ⟨(wrap64 (x22_1 + 1)), (by first | rfl | (simp; done) | (simp [*]; done)), H', ⟨by have := HK1.out; omega⟩, ⟨by (with_reducible repeat (first | apply Kd.R_alloc | apply Kd.R_drewN | apply Kd.R_drew)); exact Kd.R_mono HO_20.out (fun _ hk => hk.1)⟩, ⟨by (with_reducible repeat (first | apply Kd.R_alloc | apply Kd.R_drewN | apply Kd.R_drew)); exact Kd.R_mono HO_289000.out (fun _ hk => hk.1.1)⟩, ⟨by (with_reducible repeat (first | apply Kd.R_alloc | apply Kd.R_drewN | apply Kd.R_drew)); exact Kd.R_mono HO_289001.out (fun _ hk => hk.1.1)⟩, ⟨bk BK279⟩, ⟨bk BK280⟩, ⟨bk BK288⟩, ⟨bw HB⟩⟩
       ·rw [if_neg c48] at H
        exact absurd H (by simp)
      ·rw [if_neg c47] at H
       exact absurd H (by simp)
     ·rw [if_neg c46] at H
      have c46b0 : decide (x22_1 < (t290.length : Int)) = false := decide_eq_false c46
      clear c46
      simp only [Option.some.injEq, Prod.mk.injEq] at H
      obtain ⟨rfl, rfl⟩ := H
      go_wp2
      go_ret2
      exact ⟨by first | rfl | (simp [errW_none, errW_some] <;> rfl) | (simp [*, errW_none, errW_some] <;> rfl), bw HB⟩
 ·replace c4 := Bool.eq_false_iff.mpr c4
  subst c4
  have H1 : (some (false, false)) = some (r1, r2) := by rw [if_neg (show ¬ (false = true) by decide)] at H; exact H
  clear H
  have H := H1
  clear H1
  simp only [Option.some.injEq, Prod.mk.injEq] at H
  obtain ⟨rfl, rfl⟩ := H
  go_enter Try.func26, Try.ntmps26
  go_wp2_with (first | ((with_reducible refine gate_dst (N := 2) rfl ?_); refine bx 2 #[.slice A0_0 l0_0.length c0_0, .slice A0_1 l0_1.length c0_1] 29 ?_; intro gb279 hg w74 hbox hb; have BK279 := Aside0.mk (hbox); have GW279 := ge HB hg; have GE279 := ge HB hg; replace HB := bs HB hb; clear hb hbox hg) | ((with_reducible refine gate_dst (N := 3) rfl ?_); refine bx 3 #[.int .i64 a1_0, .int .i64 a1_1] 49 ?_; intro gb280 hg w75 hbox hb; have BK280 := Aside0.mk (hbox); have GW280 := ge HB hg; have GE280 := ge HB hg; replace HB := bs HB hb; have NB279_280 := nl BK279 hg; have NB280_279 := nr BK279 hg; replace BK279 := bb BK279 hb; clear hb hbox hg; have hnb76 := NB279_280.out; have hnc76 := NB280_279.out; have hcz77_0 := bc0 BK279; have hcz77_1 := bc1 BK279; have hfz77_0 := blk_frozen BK279.out 0; have hfz77_1 := blk_frozen BK279.out 1; have hcz78_0 := bc0 BK280; have hcz78_1 := bc1 BK280; have hfz78_0 := blk_frozen BK280.out 0; have hfz78_1 := blk_frozen BK280.out 1) | ((with_reducible refine gate_callee (f := 54) rfl ?_); refine gl 11 Try.func54 #[.agg #[.slice A0_0 l0_0.length c0_0, .slice A0_1 l0_1.length c0_1], .agg #[.int .i64 a1_0, .int .i64 a1_1]] ?_; (with_reducible refine (spec_veAsked.calls k _ _ l0_0 _ _ l0_1 a1_0 a1_1 false _ ?side1 ?side2 ?side3 ?side4 A3.out).mono ?_); (case side1 => exact ck HR0_0 HB); (case side2 => exact HC0_0.out); (case side3 => exact ck HR0_1 HB); (case side4 => exact HC0_1.out); rintro e w79 ⟨rfl, hb⟩; refine ⟨_, rfl, ?_⟩; replace BK279 := bb BK279 hb; replace BK280 := bb BK280 hb; replace HB := bs HB hb; (try clear hb)))
  go_ret2
  exact ⟨by first | rfl | (simp [errW_none, errW_some] <;> rfl) | (simp [*, errW_none, errW_some] <;> rfl), bw HB⟩

/-! ### laws_toMove: function 27 -/
def laws_toMove.f (a0_0 : Int) (a0_1 : Int) : Option (Int × Int) := some (a0_0, a0_1)
set_option maxHeartbeats 8000000 in
set_option maxRecDepth 100000 in
theorem laws_toMove.calls (a0_0 : Int) (a0_1 : Int) (r1 : Int) (r2 : Int) (w : World) (h : laws_toMove.f a0_0 a0_1 = some (r1, r2)) :
  Calls Try.prog 27 #[.agg #[.int .i64 a0_0, .int .i64 a0_1]] w fun e w' => e = .returned (.agg #[.int .i64 r1, .int .i64 r2]) ∧ Below w.heap.size w w' := by
 have hu46 := Try.underlying46
 have hu49 := Try.underlying49
 have HB := Aside0.mk (Below.refl w.heap.size w)
 have H : (some (a0_0, a0_1)) = some (r1, r2) := h
 clear h
 simp only [Option.some.injEq, Prod.mk.injEq] at H
 obtain ⟨rfl, rfl⟩ := H
 go_enter Try.func27, Try.ntmps27
 go_wp2_with (first | ((with_reducible refine gate_dst (N := 1) rfl ?_); refine bx 1 #[.int .i64 a0_0, .int .i64 a0_1] 46 ?_; intro gb302 hg w2 hbox hb; have BK302 := Aside0.mk (hbox); have GW302 := ge HB hg; have GE302 := ge HB hg; replace HB := bs HB hb; clear hb hbox hg) | ((with_reducible refine gate_dst (N := 2) rfl ?_); refine bx 2 #[.int .i64 0, .int .i64 0] 49 ?_; intro gb303 hg w3 hbox hb; have BK303 := Aside0.mk (hbox); have GW303 := ge HB hg; have GE303 := ge HB hg; replace HB := bs HB hb; have NB302_303 := nl BK302 hg; have NB303_302 := nr BK302 hg; replace BK302 := bb BK302 hb; clear hb hbox hg) | ((with_reducible refine gate_dst (N := 3) rfl ?_); refine bx 3 #[.int .i64 0, .int .i64 0] 49 ?_; intro gb304 hg w4 hbox hb; have BK304 := Aside0.mk (hbox); have GW304 := ge HB hg; have GE304 := ge HB hg; replace HB := bs HB hb; have NB302_304 := nl BK302 hg; have NB304_302 := nr BK302 hg; replace BK302 := bb BK302 hb; have NB303_304 := nl BK303 hg; have NB304_303 := nr BK303 hg; replace BK303 := bb BK303 hb; clear hb hbox hg; have hnb5 := NB302_303.out; have hnc5 := NB303_302.out; have hnb6 := NB302_304.out; have hnc6 := NB304_302.out; have hcz7_0 := bc0 BK302; have hcz7_1 := bc1 BK302; have hfz7_0 := blk_frozen BK302.out 0; have hfz7_1 := blk_frozen BK302.out 1; have hnb8 := NB304_303.out; have hnc8 := NB303_304.out; have hcz9_0 := bc0 BK304; have hcz9_1 := bc1 BK304; have hfz9_0 := blk_frozen BK304.out 0; have hfz9_1 := blk_frozen BK304.out 1; have hcz10_0 := bc0 BK303; have hcz10_1 := bc1 BK303; have hfz10_0 := blk_frozen BK303.out 0; have hfz10_1 := blk_frozen BK303.out 1))
 refine bodyPost_ret (results_cell_row rfl _ _ gb303 49 #[.int .i64 a0_0, .int .i64 a0_1] (0, 0) _ rfl (by (with_reducible repeat (first | refine blk_drewN ?_ _ | refine blk_drew ?_ | refine blk_alloc ?_ _)); refine blk_put (cs := #[.int .i64 a0_0, .int .i64 0]) ?_ 1 _ rfl; (with_reducible repeat (first | refine blk_drewN ?_ _ | refine blk_drew ?_ | refine blk_alloc ?_ _)); refine blk_put (cs := #[.int .i64 0, .int .i64 0]) ?_ 0 _ rfl; exact bk BK303) Try.underlying49 rfl (by kernel_rfl)) rfl ?_
 exact ⟨by first | rfl | (simp [errW_none, errW_some] <;> rfl) | (simp [*, errW_none, errW_some] <;> rfl), bw HB⟩

/-! ### impl_Move_isMove: function 79 -/
def impl_Move_isMove.f (a0_0 : Int) (a0_1 : Int) (a1 : Int) : Option (Bool) := (impl_within.f a0_0 (-1) (wrap64 (a1 - 1))).bind fun t306 => (if t306 = true then ((impl_within.f a0_1 (-1) (wrap64 (a1 - 1))).bind fun t307 => (if t307 = true then (some (a0_0 != a0_1)) else (some false))) else (some false))
set_option maxHeartbeats 8000000 in
set_option maxRecDepth 100000 in
theorem impl_Move_isMove.calls (a0_0 : Int) (a0_1 : Int) (a1 : Int) (r : Bool) (w : World) (h : impl_Move_isMove.f a0_0 a0_1 a1 = some r) :
  Calls Try.prog 79 #[.agg #[.int .i64 a0_0, .int .i64 a0_1], .int .i64 a1] w fun e w' => e = .returned (.bool r) ∧ Below w.heap.size w w' := by
 have hu49 := Try.underlying49
 have HB := Aside0.mk (Below.refl w.heap.size w)
 have H : ((impl_within.f a0_0 (-1) (wrap64 (a1 - 1))).bind fun t306 => (if t306 = true then ((impl_within.f a0_1 (-1) (wrap64 (a1 - 1))).bind fun t307 => (if t307 = true then (some (a0_0 != a0_1)) else (some false))) else (some false))) = some r := h
 clear h
 replace H := Option.bind_eq_some_iff.mp H
 obtain ⟨t306, A30, H⟩ := H
 replace H : (if t306 = true then ((impl_within.f a0_1 (-1) (wrap64 (a1 - 1))).bind fun t307 => (if t307 = true then (some (a0_0 != a0_1)) else (some false))) else (some false)) = some r := H
 have A3 := Aside0.mk A30
 clear A30
 by_cases c4 : t306 = true
 ·subst c4
  have H1 : ((impl_within.f a0_1 (-1) (wrap64 (a1 - 1))).bind fun t307 => (if t307 = true then (some (a0_0 != a0_1)) else (some false))) = some r := by rw [if_pos rfl] at H; exact H
  clear H
  have H := H1
  clear H1
  replace H := Option.bind_eq_some_iff.mp H
  obtain ⟨t307, A50, H⟩ := H
  replace H : (if t307 = true then (some (a0_0 != a0_1)) else (some false)) = some r := H
  have A5 := Aside0.mk A50
  clear A50
  by_cases c6 : t307 = true
  ·subst c6
   have H1 : (some (a0_0 != a0_1)) = some r := by rw [if_pos rfl] at H; exact H
   clear H
   have H := H1
   clear H1
   obtain rfl := Option.some.inj H
   go_enter Try.func79, Try.ntmps79
   go_wp2_with (first | ((with_reducible refine gate_dst (N := 2) rfl ?_); refine bx 2 #[.int .i64 a0_0, .int .i64 a0_1] 49 ?_; intro gb305 hg w7 hbox hb; have BK305 := Aside0.mk (hbox); have GW305 := ge HB hg; have GE305 := ge HB hg; replace HB := bs HB hb; clear hb hbox hg; have hcz8_0 := bc0 BK305; have hcz8_1 := bc1 BK305; have hfz8_0 := blk_frozen BK305.out 0; have hfz8_1 := blk_frozen BK305.out 1) | ((with_reducible refine gate_callee (f := 47) rfl ?_); refine gl 9 Try.func47 #[.int .i64 a0_0, .int .i64 (-1), .int .i64 (wrap64 (a1 - 1))] ?_; (with_reducible refine (impl_within.calls a0_0 (-1) (wrap64 (a1 - 1)) true _ A3.out).mono ?_); rintro e w' ⟨rfl, ⟨nd, rfl⟩⟩; refine ⟨_, rfl, ?_⟩) | (go_at_call 47; (with_reducible refine (impl_within.calls a0_1 (-1) (wrap64 (a1 - 1)) true _ A5.out).mono ?_); rintro e w' ⟨rfl, ⟨nd, rfl⟩⟩))
   go_ret
   exact ⟨by first | rfl | (simp [errW_none, errW_some] <;> rfl) | (simp [*, errW_none, errW_some] <;> rfl), bw HB⟩
  ·replace c6 := Bool.eq_false_iff.mpr c6
   subst c6
   have H1 : (some false) = some r := by rw [if_neg (show ¬ (false = true) by decide)] at H; exact H
   clear H
   have H := H1
   clear H1
   obtain rfl := Option.some.inj H
   go_enter Try.func79, Try.ntmps79
   go_wp2_with (first | ((with_reducible refine gate_dst (N := 2) rfl ?_); refine bx 2 #[.int .i64 a0_0, .int .i64 a0_1] 49 ?_; intro gb305 hg w9 hbox hb; have BK305 := Aside0.mk (hbox); have GW305 := ge HB hg; have GE305 := ge HB hg; replace HB := bs HB hb; clear hb hbox hg; have hcz10_0 := bc0 BK305; have hcz10_1 := bc1 BK305; have hfz10_0 := blk_frozen BK305.out 0; have hfz10_1 := blk_frozen BK305.out 1) | ((with_reducible refine gate_callee (f := 47) rfl ?_); refine gl 9 Try.func47 #[.int .i64 a0_0, .int .i64 (-1), .int .i64 (wrap64 (a1 - 1))] ?_; (with_reducible refine (impl_within.calls a0_0 (-1) (wrap64 (a1 - 1)) true _ A3.out).mono ?_); rintro e w' ⟨rfl, ⟨nd, rfl⟩⟩; refine ⟨_, rfl, ?_⟩) | (go_at_call 47; (with_reducible refine (impl_within.calls a0_1 (-1) (wrap64 (a1 - 1)) false _ A5.out).mono ?_); rintro e w' ⟨rfl, ⟨nd, rfl⟩⟩))
   go_ret
   exact ⟨by first | rfl | (simp [errW_none, errW_some] <;> rfl) | (simp [*, errW_none, errW_some] <;> rfl), bw HB⟩
 ·replace c4 := Bool.eq_false_iff.mpr c4
  subst c4
  have H1 : (some false) = some r := by rw [if_neg (show ¬ (false = true) by decide)] at H; exact H
  clear H
  have H := H1
  clear H1
  obtain rfl := Option.some.inj H
  go_enter Try.func79, Try.ntmps79
  go_wp2_with (first | ((with_reducible refine gate_dst (N := 2) rfl ?_); refine bx 2 #[.int .i64 a0_0, .int .i64 a0_1] 49 ?_; intro gb305 hg w11 hbox hb; have BK305 := Aside0.mk (hbox); have GW305 := ge HB hg; have GE305 := ge HB hg; replace HB := bs HB hb; clear hb hbox hg; have hcz12_0 := bc0 BK305; have hcz12_1 := bc1 BK305; have hfz12_0 := blk_frozen BK305.out 0; have hfz12_1 := blk_frozen BK305.out 1) | ((with_reducible refine gate_callee (f := 47) rfl ?_); refine gl 9 Try.func47 #[.int .i64 a0_0, .int .i64 (-1), .int .i64 (wrap64 (a1 - 1))] ?_; (with_reducible refine (impl_within.calls a0_0 (-1) (wrap64 (a1 - 1)) false _ A3.out).mono ?_); rintro e w' ⟨rfl, ⟨nd, rfl⟩⟩; refine ⟨_, rfl, ?_⟩))
  go_ret
  exact ⟨by first | rfl | (simp [errW_none, errW_some] <;> rfl) | (simp [*, errW_none, errW_some] <;> rfl), bw HB⟩

/-! ### impl_IsMove: function 57 -/
def impl_IsMove.f (k : Nat) (l0_0 : List Int) (l0_1 : List Int) (a1_0 : Int) (a1_1 : Int) : Option (Bool × Bool) := (impl_AreVessels.f k l0_0 l0_1).bind fun t310 => (if t310 = true then ((impl_Move_isMove.f a1_0 a1_1 (l0_0.length : Int)).bind fun t311 => (some (t311, true))) else (some (false, false)))
theorem impl_IsMove.mono : ∀ a0 a1 a2 a3 k, LeO (impl_IsMove.f k a0 a1 a2 a3) (impl_IsMove.f (k + 1) a0 a1 a2 a3) := by
 intro a0 a1 a2 a3 k
 unfold impl_IsMove.f
 repeat' first
   | (with_reducible exact impl_AreVessels.mono _ _ _)
   | (with_reducible exact LeO.refl _)
   | (with_reducible exact LeO.none _)
   | (with_reducible refine LeO.ite ?_ ?_)
   | (with_reducible refine LeO.bind ?_ (fun _ => ?_))
   | exact impl_AreVessels.mono _ _ _
   | exact LeO.none _
   | refine LeO.ite ?_ ?_
   | refine LeO.bind ?_ (fun _ => ?_)
set_option maxHeartbeats 8000000 in
set_option maxRecDepth 100000 in
theorem impl_IsMove.calls (k : Nat) (A0_0 : Option Addr) (c0_0 : Nat) (l0_0 : List Int) (A0_1 : Option Addr) (c0_1 : Nat) (l0_1 : List Int) (a1_0 : Int) (a1_1 : Int) (r1 : Bool) (r2 : Bool) (w : World) (hr0_0 : Kd.C (Kd.int .i64) w A0_0 l0_0.length l0_0) (hc0_0 : l0_0.length ≤ c0_0) (hr0_1 : Kd.C (Kd.int .i64) w A0_1 l0_1.length l0_1) (hc0_1 : l0_1.length ≤ c0_1) (h : impl_IsMove.f k l0_0 l0_1 a1_0 a1_1 = some (r1, r2)) :
  Calls Try.prog 57 #[.agg #[.slice A0_0 l0_0.length c0_0, .slice A0_1 l0_1.length c0_1], .agg #[.int .i64 a1_0, .int .i64 a1_1]] w fun e w' => e = .returned (.tuple #[.bool r1, .bool r2]) ∧ Below w.heap.size w w' := by
 have hu29 := Try.underlying29
 have hu49 := Try.underlying49
 have HR0_0 := Aside0.mk hr0_0
 have HC0_0 := Aside0.mk hc0_0
 clear hr0_0 hc0_0
 have HR0_1 := Aside0.mk hr0_1
 have HC0_1 := Aside0.mk hc0_1
 clear hr0_1 hc0_1
 have HB := Aside0.mk (Below.refl w.heap.size w)
 have H : ((impl_AreVessels.f k l0_0 l0_1).bind fun t310 => (if t310 = true then ((impl_Move_isMove.f a1_0 a1_1 (l0_0.length : Int)).bind fun t311 => (some (t311, true))) else (some (false, false)))) = some (r1, r2) := h
 clear h
 replace H := Option.bind_eq_some_iff.mp H
 obtain ⟨t310, A30, H⟩ := H
 replace H : (if t310 = true then ((impl_Move_isMove.f a1_0 a1_1 (l0_0.length : Int)).bind fun t311 => (some (t311, true))) else (some (false, false))) = some (r1, r2) := H
 have A3 := Aside0.mk A30
 clear A30
 by_cases c4 : t310 = true
 ·subst c4
  have H1 : ((impl_Move_isMove.f a1_0 a1_1 (l0_0.length : Int)).bind fun t311 => (some (t311, true))) = some (r1, r2) := by rw [if_pos rfl] at H; exact H
  clear H
  have H := H1
  clear H1
  replace H := Option.bind_eq_some_iff.mp H
  obtain ⟨t311, A50, H⟩ := H
  replace H : (some (t311, true)) = some (r1, r2) := H
  have A5 := Aside0.mk A50
  clear A50
  simp only [Option.some.injEq, Prod.mk.injEq] at H
  obtain ⟨rfl, rfl⟩ := H
  go_enter Try.func57, Try.ntmps57
  go_wp2_with (first | ((with_reducible refine gate_dst (N := 2) rfl ?_); refine bx 2 #[.slice A0_0 l0_0.length c0_0, .slice A0_1 l0_1.length c0_1] 29 ?_; intro gb308 hg w6 hbox hb; have BK308 := Aside0.mk (hbox); have GW308 := ge HB hg; have GE308 := ge HB hg; replace HB := bs HB hb; clear hb hbox hg) | ((with_reducible refine gate_dst (N := 3) rfl ?_); refine bx 3 #[.int .i64 a1_0, .int .i64 a1_1] 49 ?_; intro gb309 hg w7 hbox hb; have BK309 := Aside0.mk (hbox); have GW309 := ge HB hg; have GE309 := ge HB hg; replace HB := bs HB hb; have NB308_309 := nl BK308 hg; have NB309_308 := nr BK308 hg; replace BK308 := bb BK308 hb; clear hb hbox hg; have hnb8 := NB308_309.out; have hnc8 := NB309_308.out; have hcz9_0 := bc0 BK308; have hcz9_1 := bc1 BK308; have hfz9_0 := blk_frozen BK308.out 0; have hfz9_1 := blk_frozen BK308.out 1) | ((with_reducible refine gate_callee (f := 46) rfl ?_); refine gl 7 Try.func46 #[.agg #[.slice A0_0 l0_0.length c0_0, .slice A0_1 l0_1.length c0_1]] ?_; (with_reducible refine (impl_AreVessels.calls k _ _ l0_0 _ _ l0_1 true _ ?side1 ?side2 ?side3 ?side4 A3.out).mono ?_); (case side1 => exact ck HR0_0 HB); (case side2 => exact HC0_0.out); (case side3 => exact ck HR0_1 HB); (case side4 => exact HC0_1.out); rintro e w10 ⟨rfl, hb⟩; refine ⟨_, rfl, ?_⟩; replace BK308 := bb BK308 hb; replace BK309 := bb BK309 hb; replace HB := bs HB hb; (try clear hb); have hcz11_0 := bc0 BK309; have hcz11_1 := bc1 BK309; have hfz11_0 := blk_frozen BK309.out 0; have hfz11_1 := blk_frozen BK309.out 1; have hcz12_0 := bc0 BK308; have hcz12_1 := bc1 BK308; have hfz12_0 := blk_frozen BK308.out 0; have hfz12_1 := blk_frozen BK308.out 1) | ((with_reducible refine gate_callee (f := 79) rfl ?_); refine gl 13 Try.func79 #[.agg #[.int .i64 a1_0, .int .i64 a1_1], .int .i64 (l0_0.length : Int)] ?_; (with_reducible refine (impl_Move_isMove.calls a1_0 a1_1 (l0_0.length : Int) t311 _ A5.out).mono ?_); rintro e w13 ⟨rfl, hb⟩; refine ⟨_, rfl, ?_⟩; replace BK308 := bb BK308 hb; replace BK309 := bb BK309 hb; replace HB := bs HB hb; (try clear hb)))
  go_ret2
  exact ⟨by first | rfl | (simp [errW_none, errW_some] <;> rfl) | (simp [*, errW_none, errW_some] <;> rfl), bw HB⟩
 ·replace c4 := Bool.eq_false_iff.mpr c4
  subst c4
  have H1 : (some (false, false)) = some (r1, r2) := by rw [if_neg (show ¬ (false = true) by decide)] at H; exact H
  clear H
  have H := H1
  clear H1
  simp only [Option.some.injEq, Prod.mk.injEq] at H
  obtain ⟨rfl, rfl⟩ := H
  go_enter Try.func57, Try.ntmps57
  go_wp2_with (first | ((with_reducible refine gate_dst (N := 2) rfl ?_); refine bx 2 #[.slice A0_0 l0_0.length c0_0, .slice A0_1 l0_1.length c0_1] 29 ?_; intro gb308 hg w14 hbox hb; have BK308 := Aside0.mk (hbox); have GW308 := ge HB hg; have GE308 := ge HB hg; replace HB := bs HB hb; clear hb hbox hg) | ((with_reducible refine gate_dst (N := 3) rfl ?_); refine bx 3 #[.int .i64 a1_0, .int .i64 a1_1] 49 ?_; intro gb309 hg w15 hbox hb; have BK309 := Aside0.mk (hbox); have GW309 := ge HB hg; have GE309 := ge HB hg; replace HB := bs HB hb; have NB308_309 := nl BK308 hg; have NB309_308 := nr BK308 hg; replace BK308 := bb BK308 hb; clear hb hbox hg; have hnb16 := NB308_309.out; have hnc16 := NB309_308.out; have hcz17_0 := bc0 BK308; have hcz17_1 := bc1 BK308; have hfz17_0 := blk_frozen BK308.out 0; have hfz17_1 := blk_frozen BK308.out 1) | ((with_reducible refine gate_callee (f := 46) rfl ?_); refine gl 7 Try.func46 #[.agg #[.slice A0_0 l0_0.length c0_0, .slice A0_1 l0_1.length c0_1]] ?_; (with_reducible refine (impl_AreVessels.calls k _ _ l0_0 _ _ l0_1 false _ ?side1 ?side2 ?side3 ?side4 A3.out).mono ?_); (case side1 => exact ck HR0_0 HB); (case side2 => exact HC0_0.out); (case side3 => exact ck HR0_1 HB); (case side4 => exact HC0_1.out); rintro e w18 ⟨rfl, hb⟩; refine ⟨_, rfl, ?_⟩; replace BK308 := bb BK308 hb; replace BK309 := bb BK309 hb; replace HB := bs HB hb; (try clear hb)))
  go_ret2
  exact ⟨by first | rfl | (simp [errW_none, errW_some] <;> rfl) | (simp [*, errW_none, errW_some] <;> rfl), bw HB⟩

-- NOT PRINTED: function 81 (impl_Move_81)

-- NOT PRINTED: function 60 (impl_Move_60)

end Go.Proofs.Ytigpkicbigpilaa.U
