-- Functions of the program as plain functions, and that the calls come to them. Written by a program (ownprint.py); nothing here is trusted: Lean checks it.
import Derived.Test.YtigpkicbigpilaaUx0
import Derived.Test.YtigpkicbigpilaaUx1
import Derived.Test.YtigpkicbigpilaaUx8
import Derived.Test.YtigpkicbigpilaaUx9
namespace Go.Proofs.Ytigpkicbigpilaa.U
open Go.RowKit Go.Proofs.YtigpkicbigpilaaW.PrintWords Go.Proofs.YtigpkicbigpilaaW.PrintLast Go.Proofs.YtigpkicbigpilaaW.PrintMore Go.Proofs.Ytigpkicbigpilaa.Sq
attribute [local go_sem] max2_int min2_int max_two min_two max_three min_three max_four min_four   -- for this text's walks alone
set_option linter.unusedVariables false
set_option linter.unusedSimpArgs false

/-! ### laws_FnExactIsUndone: function 5 -/
def laws_FnExactIsUndone.j0 : Nat → Bool → List Int → List Int → List Int → List Int → Option (Bool)
 | 0, _, _, _, _, _ => none
 | k + 1, x40, x313000, x313001, x332000, x332001 => if x40 = true then (some false) else ((laws_toVessels.f k x313000 x313001).bind fun bt336 => ((laws_eqVessels.f k x332000 x332001 bt336.1 bt336.2).bind fun t342 => (if t342 = true then (some true) else (some false))))
def laws_FnExactIsUndone.f (k : Nat) (l0_0 : List Int) (l0_1 : List Int) (a1_0 : Int) (a1_1 : Int) : Option (Bool) := (laws_szVessels.f l0_0 l0_1 1048576).bind fun t314 => (if t314 < 0 then (some true) else ((laws_toVessels.f k l0_0 l0_1).bind fun bt315 => ((laws_toMove.f a1_0 a1_1).bind fun bt321 => ((spec_IsUndone.f k bt315.1 bt315.2 bt321.1 bt321.2).bind fun bt323 => ((laws_toVessels.f k l0_0 l0_1).bind fun bt325 => ((laws_toMove.f a1_0 a1_1).bind fun bt332 => ((impl_IsUndone.f k bt325.1 bt325.2 bt332.1 bt332.2).bind fun bt334 => (if (bt334.1 != bt323.1) = true then (laws_FnExactIsUndone.j0 k true l0_0 l0_1 bt325.1 bt325.2) else (laws_FnExactIsUndone.j0 k (bt334.2 != bt323.2) l0_0 l0_1 bt325.1 bt325.2)))))))))
theorem laws_FnExactIsUndone.mono_l : ∀ k, (∀ y0 y1 y2 y3 y4, LeO (laws_FnExactIsUndone.j0 k y0 y1 y2 y3 y4) (laws_FnExactIsUndone.j0 (k + 1) y0 y1 y2 y3 y4))
 | 0 => fun _ _ _ _ _ r h => by simp [laws_FnExactIsUndone.j0] at h
 | k + 1 => by
  have ih0 := laws_FnExactIsUndone.mono_l k
  ·intro y0 y1 y2 y3 y4
   unfold laws_FnExactIsUndone.j0
   repeat' first
   | (with_reducible exact ih0 _ _ _ _ _)
   | (with_reducible exact impl_IsUndone.mono _ _ _ _ _)
   | (with_reducible exact laws_eqVessels.mono _ _ _ _ _)
   | (with_reducible exact laws_toVessels.mono _ _ _)
   | (with_reducible exact spec_IsUndone.mono _ _ _ _ _)
   | (with_reducible exact LeO.refl _)
   | (with_reducible exact LeO.none _)
   | (with_reducible refine LeO.ite ?_ ?_)
   | (with_reducible refine LeO.bind ?_ (fun _ => ?_))
   | exact ih0 _ _ _ _ _
   | exact impl_IsUndone.mono _ _ _ _ _
   | exact laws_eqVessels.mono _ _ _ _ _
   | exact laws_toVessels.mono _ _ _
   | exact spec_IsUndone.mono _ _ _ _ _
   | exact LeO.none _
   | refine LeO.ite ?_ ?_
   | refine LeO.bind ?_ (fun _ => ?_)
theorem laws_FnExactIsUndone.mono : ∀ a0 a1 a2 a3 k, LeO (laws_FnExactIsUndone.f k a0 a1 a2 a3) (laws_FnExactIsUndone.f (k + 1) a0 a1 a2 a3) := by
 intro a0 a1 a2 a3 k
 have ih0 := laws_FnExactIsUndone.mono_l k
 unfold laws_FnExactIsUndone.f
 repeat' first
   | (with_reducible exact ih0 _ _ _ _ _)
   | (with_reducible exact impl_IsUndone.mono _ _ _ _ _)
   | (with_reducible exact laws_eqVessels.mono _ _ _ _ _)
   | (with_reducible exact laws_toVessels.mono _ _ _)
   | (with_reducible exact spec_IsUndone.mono _ _ _ _ _)
   | (with_reducible exact LeO.refl _)
   | (with_reducible exact LeO.none _)
   | (with_reducible refine LeO.ite ?_ ?_)
   | (with_reducible refine LeO.bind ?_ (fun _ => ?_))
   | exact ih0 _ _ _ _ _
   | exact impl_IsUndone.mono _ _ _ _ _
   | exact laws_eqVessels.mono _ _ _ _ _
   | exact laws_toVessels.mono _ _ _
   | exact spec_IsUndone.mono _ _ _ _ _
   | exact LeO.none _
   | refine LeO.ite ?_ ?_
   | refine LeO.bind ?_ (fun _ => ?_)
def laws_FnExactIsUndone.T5 : Bool × List (List Nat × List Nat) := (true, [([], []), ([0], [0]), ([], []), ([2, 1], [2]), ([1, 3, 3], [1, 3]), ([4], [4]), ([5], [5]), ([5], [5]), ([6, 4, 0, 1, 2, 3, 4, 5, 6], [6]), ([7, 8, 0, 1, 2, 3, 4, 5, 6, 7, 8], [7])])
def laws_FnExactIsUndone.B5 : List Nat := [0, 1, 0, 7, 15, 31, 63, 63, 127, 511]
theorem laws_FnExactIsUndone.tab5 : rtab .any (opsOf Try.f5 5) = laws_FnExactIsUndone.T5 := by kernel_rfl
theorem laws_FnExactIsUndone.bits5 : waitsOk laws_FnExactIsUndone.T5.2 laws_FnExactIsUndone.B5 = true := by kernel_rfl
def laws_FnExactIsUndone.T7 : Bool × List (List Nat × List Nat) := (true, [([], []), ([], []), ([1], [1]), ([0, 2, 2], [0, 2]), ([3], [3]), ([4], [4]), ([4], [4]), ([5, 3, 0, 1, 2, 3, 4, 5], [5]), ([6, 7, 0, 1, 2, 3, 4, 5, 6, 7], [6])])
def laws_FnExactIsUndone.B7 : List Nat := [0, 0, 2, 7, 15, 31, 31, 63, 255]
theorem laws_FnExactIsUndone.tab7 : rtab .any (opsOf Try.f5 7) = laws_FnExactIsUndone.T7 := by kernel_rfl
theorem laws_FnExactIsUndone.bits7 : waitsOk laws_FnExactIsUndone.T7.2 laws_FnExactIsUndone.B7 = true := by kernel_rfl
set_option maxHeartbeats 8000000 in
set_option maxRecDepth 100000 in
theorem laws_FnExactIsUndone.calls (k : Nat) (A0_0 : Option Addr) (c0_0 : Nat) (l0_0 : List Int) (A0_1 : Option Addr) (c0_1 : Nat) (l0_1 : List Int) (a1_0 : Int) (a1_1 : Int) (r : Bool) (w : World) (hr0_0 : Kd.C (Kd.int .i64) w A0_0 l0_0.length l0_0) (hc0_0 : l0_0.length ≤ c0_0) (hr0_1 : Kd.C (Kd.int .i64) w A0_1 l0_1.length l0_1) (hc0_1 : l0_1.length ≤ c0_1) (hrt : Aside0 (r = true)) (h : laws_FnExactIsUndone.f k l0_0 l0_1 a1_0 a1_1 = some r) :
  Calls Try.prog 5 #[.agg #[.slice A0_0 l0_0.length c0_0, .slice A0_1 l0_1.length c0_1], .agg #[.int .i64 a1_0, .int .i64 a1_1]] w fun e w' => e = .returned (.bool r) ∧ Below w.heap.size w w' := by
 have hu24 := Try.underlying24
 have hu46 := Try.underlying46
 have hu29 := Try.underlying29
 have HR0_0 := Aside0.mk hr0_0
 have HC0_0 := Aside0.mk hc0_0
 clear hr0_0 hc0_0
 have HR0_1 := Aside0.mk hr0_1
 have HC0_1 := Aside0.mk hc0_1
 clear hr0_1 hc0_1
 have HB := Aside0.mk (Below.refl w.heap.size w)
 have H : ((laws_szVessels.f l0_0 l0_1 1048576).bind fun t314 => (if t314 < 0 then (some true) else ((laws_toVessels.f k l0_0 l0_1).bind fun bt315 => ((laws_toMove.f a1_0 a1_1).bind fun bt321 => ((spec_IsUndone.f k bt315.1 bt315.2 bt321.1 bt321.2).bind fun bt323 => ((laws_toVessels.f k l0_0 l0_1).bind fun bt325 => ((laws_toMove.f a1_0 a1_1).bind fun bt332 => ((impl_IsUndone.f k bt325.1 bt325.2 bt332.1 bt332.2).bind fun bt334 => (if (bt334.1 != bt323.1) = true then (laws_FnExactIsUndone.j0 k true l0_0 l0_1 bt325.1 bt325.2) else (laws_FnExactIsUndone.j0 k (bt334.2 != bt323.2) l0_0 l0_1 bt325.1 bt325.2)))))))))) = some r := h
 clear h
 replace H := Option.bind_eq_some_iff.mp H
 obtain ⟨t314, A30, H⟩ := H
 replace H : (if t314 < 0 then (some true) else ((laws_toVessels.f k l0_0 l0_1).bind fun bt315 => ((laws_toMove.f a1_0 a1_1).bind fun bt321 => ((spec_IsUndone.f k bt315.1 bt315.2 bt321.1 bt321.2).bind fun bt323 => ((laws_toVessels.f k l0_0 l0_1).bind fun bt325 => ((laws_toMove.f a1_0 a1_1).bind fun bt332 => ((impl_IsUndone.f k bt325.1 bt325.2 bt332.1 bt332.2).bind fun bt334 => (if (bt334.1 != bt323.1) = true then (laws_FnExactIsUndone.j0 k true l0_0 l0_1 bt325.1 bt325.2) else (laws_FnExactIsUndone.j0 k (bt334.2 != bt323.2) l0_0 l0_1 bt325.1 bt325.2))))))))) = some r := H
 have A3 := Aside0.mk A30
 clear A30
 by_cases c4 : t314 < 0
 ·rw [if_pos c4] at H
  have c4b0 : decide (t314 < 0) = true := decide_eq_true c4
  clear c4
  obtain rfl := Option.some.inj H
  go_enter Try.func5, Try.ntmps5
  go_wp2_with (first | ((with_reducible refine gate_dst (N := 2) rfl ?_); refine bx 2 #[.slice A0_0 l0_0.length c0_0, .slice A0_1 l0_1.length c0_1] 24 ?_; intro gb312 hg w5 hbox hb; have BK312 := Aside0.mk (hbox); have GW312 := ge HB hg; have GE312 := ge HB hg; replace HB := bs HB hb; clear hb hbox hg) | ((with_reducible refine gate_dst (N := 3) rfl ?_); refine bx 3 #[.int .i64 a1_0, .int .i64 a1_1] 46 ?_; intro gb313 hg w6 hbox hb; have BK313 := Aside0.mk (hbox); have GW313 := ge HB hg; have GE313 := ge HB hg; replace HB := bs HB hb; have NB312_313 := nl BK312 hg; have NB313_312 := nr BK312 hg; replace BK312 := bb BK312 hb; clear hb hbox hg; have hnb7 := NB312_313.out; have hnc7 := NB313_312.out; have hcz8_0 := bc0 BK312; have hcz8_1 := bc1 BK312; have hfz8_0 := blk_frozen BK312.out 0; have hfz8_1 := blk_frozen BK312.out 1) | ((with_reducible refine gate_callee (f := 17) rfl ?_); refine gl 13 Try.func17 #[.agg #[.slice A0_0 l0_0.length c0_0, .slice A0_1 l0_1.length c0_1], .int .i64 1048576] ?_; (with_reducible refine (laws_szVessels.calls _ _ l0_0 _ _ l0_1 1048576 t314 _ ?side1 ?side2 ?side3 ?side4 A3.out).mono ?_); (case side1 => exact ck HR0_0 HB); (case side2 => exact HC0_0.out); (case side3 => exact ck HR0_1 HB); (case side4 => exact HC0_1.out); rintro e w9 ⟨rfl, hb⟩; refine ⟨_, rfl, ?_⟩; replace BK312 := bb BK312 hb; replace BK313 := bb BK313 hb; replace HB := bs HB hb; (try clear hb)))
  go_ret
  exact ⟨by first | rfl | (simp [errW_none, errW_some] <;> rfl) | (simp [*, errW_none, errW_some] <;> rfl), bw HB⟩
 ·rw [if_neg c4] at H
  have c4b0 : decide (t314 < 0) = false := decide_eq_false c4
  clear c4
  replace H := Option.bind_eq_some_iff.mp H
  obtain ⟨⟨t315, t318⟩, A100, H⟩ := H
  replace H : ((laws_toMove.f a1_0 a1_1).bind fun bt321 => ((spec_IsUndone.f k t315 t318 bt321.1 bt321.2).bind fun bt323 => ((laws_toVessels.f k l0_0 l0_1).bind fun bt325 => ((laws_toMove.f a1_0 a1_1).bind fun bt332 => ((impl_IsUndone.f k bt325.1 bt325.2 bt332.1 bt332.2).bind fun bt334 => (if (bt334.1 != bt323.1) = true then (laws_FnExactIsUndone.j0 k true l0_0 l0_1 bt325.1 bt325.2) else (laws_FnExactIsUndone.j0 k (bt334.2 != bt323.2) l0_0 l0_1 bt325.1 bt325.2))))))) = some r := H
  have A10 := Aside0.mk A100
  clear A100
  replace H := Option.bind_eq_some_iff.mp H
  obtain ⟨⟨t321, t322⟩, A110, H⟩ := H
  replace H : ((spec_IsUndone.f k t315 t318 t321 t322).bind fun bt323 => ((laws_toVessels.f k l0_0 l0_1).bind fun bt325 => ((laws_toMove.f a1_0 a1_1).bind fun bt332 => ((impl_IsUndone.f k bt325.1 bt325.2 bt332.1 bt332.2).bind fun bt334 => (if (bt334.1 != bt323.1) = true then (laws_FnExactIsUndone.j0 k true l0_0 l0_1 bt325.1 bt325.2) else (laws_FnExactIsUndone.j0 k (bt334.2 != bt323.2) l0_0 l0_1 bt325.1 bt325.2)))))) = some r := H
  have A11 := Aside0.mk A110
  clear A110
  replace H := Option.bind_eq_some_iff.mp H
  obtain ⟨⟨t323, t324⟩, A120, H⟩ := H
  replace H : ((laws_toVessels.f k l0_0 l0_1).bind fun bt325 => ((laws_toMove.f a1_0 a1_1).bind fun bt332 => ((impl_IsUndone.f k bt325.1 bt325.2 bt332.1 bt332.2).bind fun bt334 => (if (bt334.1 != t323) = true then (laws_FnExactIsUndone.j0 k true l0_0 l0_1 bt325.1 bt325.2) else (laws_FnExactIsUndone.j0 k (bt334.2 != t324) l0_0 l0_1 bt325.1 bt325.2))))) = some r := H
  have A12 := Aside0.mk A120
  clear A120
  replace H := Option.bind_eq_some_iff.mp H
  obtain ⟨⟨t325, t328⟩, A130, H⟩ := H
  replace H : ((laws_toMove.f a1_0 a1_1).bind fun bt332 => ((impl_IsUndone.f k t325 t328 bt332.1 bt332.2).bind fun bt334 => (if (bt334.1 != t323) = true then (laws_FnExactIsUndone.j0 k true l0_0 l0_1 t325 t328) else (laws_FnExactIsUndone.j0 k (bt334.2 != t324) l0_0 l0_1 t325 t328)))) = some r := H
  have A13 := Aside0.mk A130
  clear A130
  replace H := Option.bind_eq_some_iff.mp H
  obtain ⟨⟨t332, t333⟩, A140, H⟩ := H
  replace H : ((impl_IsUndone.f k t325 t328 t332 t333).bind fun bt334 => (if (bt334.1 != t323) = true then (laws_FnExactIsUndone.j0 k true l0_0 l0_1 t325 t328) else (laws_FnExactIsUndone.j0 k (bt334.2 != t324) l0_0 l0_1 t325 t328))) = some r := H
  have A14 := Aside0.mk A140
  clear A140
  replace H := Option.bind_eq_some_iff.mp H
  obtain ⟨⟨t334, t335⟩, A150, H⟩ := H
  replace H : (if (t334 != t323) = true then (laws_FnExactIsUndone.j0 k true l0_0 l0_1 t325 t328) else (laws_FnExactIsUndone.j0 k (t335 != t324) l0_0 l0_1 t325 t328)) = some r := H
  have A15 := Aside0.mk A150
  clear A150
  have HC16 := Aside0.mk H
  clear H
  go_enter Try.func5, Try.ntmps5
  try go_wp2_with (first | ((with_reducible refine gate_dst (N := 2) rfl ?_); refine bx 2 #[.slice A0_0 l0_0.length c0_0, .slice A0_1 l0_1.length c0_1] 24 ?_; intro gb312 hg w17 hbox hb; have BK312 := Aside0.mk (hbox); have GW312 := ge HB hg; have GE312 := ge HB hg; replace HB := bs HB hb; clear hb hbox hg) | ((with_reducible refine gate_dst (N := 3) rfl ?_); refine bx 3 #[.int .i64 a1_0, .int .i64 a1_1] 46 ?_; intro gb313 hg w18 hbox hb; have BK313 := Aside0.mk (hbox); have GW313 := ge HB hg; have GE313 := ge HB hg; replace HB := bs HB hb; have NB312_313 := nl BK312 hg; have NB313_312 := nr BK312 hg; replace BK312 := bb BK312 hb; clear hb hbox hg; have hnb19 := NB312_313.out; have hnc19 := NB313_312.out; have hcz20_0 := bc0 BK312; have hcz20_1 := bc1 BK312; have hfz20_0 := blk_frozen BK312.out 0; have hfz20_1 := blk_frozen BK312.out 1) | ((with_reducible refine gate_callee (f := 17) rfl ?_); refine gl 13 Try.func17 #[.agg #[.slice A0_0 l0_0.length c0_0, .slice A0_1 l0_1.length c0_1], .int .i64 1048576] ?_; (with_reducible refine (laws_szVessels.calls _ _ l0_0 _ _ l0_1 1048576 t314 _ ?side1 ?side2 ?side3 ?side4 A3.out).mono ?_); (case side1 => exact ck HR0_0 HB); (case side2 => exact HC0_0.out); (case side3 => exact ck HR0_1 HB); (case side4 => exact HC0_1.out); rintro e w21 ⟨rfl, hb⟩; refine ⟨_, rfl, ?_⟩; replace BK312 := bb BK312 hb; replace BK313 := bb BK313 hb; replace HB := bs HB hb; (try clear hb)))
  replace BK312 := Aside0.mk (blk_drew BK312.out)
  replace BK313 := Aside0.mk (blk_drew BK313.out)
  replace HB := Aside0.mk (below_drew1 HB.out)
  refine start_ (n := 10) (S := fun w' => w'.cell? ⟨gb312, 0, none⟩ = some (.slice A0_0 l0_0.length c0_0) ∧ w'.cell? ⟨gb312, 1, none⟩ = some (.slice A0_1 l0_1.length c0_1) ∧ w'.cell? ⟨gb313, 0, none⟩ = some (.int .i64 a1_0) ∧ w'.cell? ⟨gb313, 1, none⟩ = some (.int .i64 a1_1)) (ds := []) #[false, false, false, false, false, false, false, false, false, false] (by kernel_rfl) rfl rfl ⟨bc0 BK312, bc1 BK312, bc0 BK313, bc1 BK313⟩ (fun hHeld => ?_); refine with_tabW laws_FnExactIsUndone.tab5 laws_FnExactIsUndone.bits5 (fun HT_ HW_ => ?_)
  generalize w21.drew = w22 at BK312 BK313 HB hHeld ⊢
  refine take_ (i := 0) (N := some 17) (v := ?_) (a' := ?_) #[true, false, false, false, false, false, false, false, false, false] rfl rfl (take_ofW HT_.out HW_.out (by kernel_rfl)) (fun _ _ _ h => h) (Or.inl ⟨by rfl, ?_⟩) hHeld ?_ ?_
  rotate_left
  ·rintro w' ⟨s0, s1, s2, s3⟩
   go_simp
   with_reducible rfl
  rotate_left
  ·simp only [Act.put, List.setIfInBounds_toArray, List.set_cons_zero, List.set_cons_succ, i64_w, i32_w]
   rfl
  refine take_ (i := 2) (N := some 19) (v := ?_) (a' := ?_) #[true, false, true, false, false, false, false, false, false, false] rfl rfl (take_ofW HT_.out HW_.out (by kernel_rfl)) (fun _ _ _ h => h) (Or.inl ⟨by rfl, ?_⟩) hHeld ?_ ?_
  rotate_left
  ·rintro w' ⟨s0, s1, s2, s3⟩
   go_simp
   with_reducible rfl
  rotate_left
  ·simp only [Act.put, List.setIfInBounds_toArray, List.set_cons_zero, List.set_cons_succ, i64_w, i32_w]
   rfl
  refine one_ (i := 1) (N := some 18) #[true, true, true, false, false, false, false, false, false, false] rfl rfl (one_of HT_.out (by kernel_rfl)) (by decide) (fun K hK => ?_)
  refine goes_ Try.func19 (by kernel_rfl) rfl #[.agg #[.slice A0_0 l0_0.length c0_0, .slice A0_1 l0_1.length c0_1]] (by rfl) rfl rfl (by (try simp only [List.map_toArray, List.map_cons, List.map_nil]); first | done | rfl | (simp only [List.length_drop, List.length_take]; rfl)) ?_
  with_reducible refine (laws_toVessels.calls k _ _ l0_0 _ _ l0_1 t315 t318 _ ?side1 ?side2 ?side3 ?side4 A10.out).mono ?_
  (case side1 => exact ck HR0_0 HB)
  (case side2 => exact HC0_0.out)
  (case side3 => exact ck HR0_1 HB)
  (case side4 => exact HC0_1.out)
  rintro e w23 ⟨v316, v319, rfl, ho0, ho1, hb⟩
  refine ⟨_, rfl, ?_⟩
  have HO317 := lo ho0 HB
  have HO320 := lo ho1 HB
  replace BK312 := bb BK312 hb
  replace BK313 := bb BK313 hb
  replace HB := bs HB hb
  (try clear hb)
  (try clear hb2)
  (try clear hk)
  (try clear hi)
  (try clear ho0)
  (try clear ho1)
  refine hK.out _ _ ⟨bc0 BK312, bc1 BK312, bc0 BK313, bc1 BK313⟩ (fun hHeld => ?_)
  clear hK K
  refine norm_ (a' := ?_) ?_ ?_
  rotate_left
  ·show Act.put _ (some 18) _ = _
   simp only [Act.put, List.setIfInBounds_toArray, List.set_cons_zero, List.set_cons_succ, i64_w, i32_w]
   rfl
  refine one_ (i := 3) (N := some 20) #[true, true, true, true, false, false, false, false, false, false] rfl rfl (one_of HT_.out (by kernel_rfl)) (by decide) (fun K hK => ?_)
  refine goes_ Try.func27 (by kernel_rfl) rfl #[.agg #[.int .i64 a1_0, .int .i64 a1_1]] (by rfl) rfl rfl (by (try simp only [List.map_toArray, List.map_cons, List.map_nil]); first | done | rfl | (simp only [List.length_drop, List.length_take]; rfl)) ?_
  with_reducible refine (laws_toMove.calls a1_0 a1_1 t321 t322 _ A11.out).mono ?_
  rintro e w24 ⟨rfl, hb⟩
  refine ⟨_, rfl, ?_⟩
  replace HO317 := rb HO317 hb
  replace HO320 := rb HO320 hb
  replace BK312 := bb BK312 hb
  replace BK313 := bb BK313 hb
  replace HB := bs HB hb
  (try clear hb)
  (try clear hb2)
  (try clear hk)
  (try clear hi)
  obtain ⟨Ao25, co25, eo25⟩ := Kd.R_slice HO317.out
  (first | subst eo25 | (injection eo25 with f1_ f2_ f3_; have f4_ := f1_.symm; have f5_ := f3_.symm; clear f1_ f2_ f3_; subst f4_; subst f5_))
  obtain ⟨Ao26, co26, eo26⟩ := Kd.R_slice HO320.out
  (first | subst eo26 | (injection eo26 with f1_ f2_ f3_; have f4_ := f1_.symm; have f5_ := f3_.symm; clear f1_ f2_ f3_; subst f4_; subst f5_))
  refine hK.out _ _ ⟨bc0 BK312, bc1 BK312, bc0 BK313, bc1 BK313⟩ (fun hHeld => ?_)
  clear hK K
  refine norm_ (a' := ?_) ?_ ?_
  rotate_left
  ·show Act.put _ (some 20) _ = _
   simp only [Act.put, List.setIfInBounds_toArray, List.set_cons_zero, List.set_cons_succ, i64_w, i32_w]
   rfl
  refine one_ (i := 4) (N := some 21) #[true, true, true, true, true, false, false, false, false, false] rfl rfl (one_of HT_.out (by kernel_rfl)) (by decide) (fun K hK => ?_)
  refine goes_ Try.func26 (by kernel_rfl) rfl #[.agg #[.slice Ao25 t315.length co25, .slice Ao26 t318.length co26], .agg #[.int .i64 t321, .int .i64 t322]] (by rfl) rfl rfl (by (try simp only [List.map_toArray, List.map_cons, List.map_nil]); first | done | rfl | (simp only [List.length_drop, List.length_take]; rfl)) ?_
  with_reducible refine (spec_IsUndone.calls k _ _ t315 _ _ t318 t321 t322 t323 t324 _ ?side1 ?side2 ?side3 ?side4 A12.out).mono ?_
  (case side1 => exact cr HO317)
  (case side2 => exact (Kd.R_reads' HO317.out).2.1)
  (case side3 => exact cr HO320)
  (case side4 => exact (Kd.R_reads' HO320.out).2.1)
  rintro e w27 ⟨rfl, hb⟩
  refine ⟨_, rfl, ?_⟩
  replace HO317 := rb HO317 hb
  replace HO320 := rb HO320 hb
  replace BK312 := bb BK312 hb
  replace BK313 := bb BK313 hb
  replace HB := bs HB hb
  (try clear hb)
  (try clear hb2)
  (try clear hk)
  (try clear hi)
  refine hK.out _ _ ⟨bc0 BK312, bc1 BK312, bc0 BK313, bc1 BK313⟩ (fun hHeld => ?_)
  clear hK K
  refine norm_ (a' := ?_) ?_ ?_
  rotate_left
  ·show Act.put _ (some 21) _ = _
   simp only [Act.put, List.setIfInBounds_toArray, List.set_cons_zero, List.set_cons_succ, i64_w, i32_w]
   rfl
  refine pure_ (i := 5) (N := some 16) (v := ?_) (a' := ?_) #[true, true, true, true, true, true, false, false, false, false] rfl rfl (any_of HT_.out (by kernel_rfl)) (fun _ _ _ h => h) (Or.inl ⟨by rfl, ?_⟩) ?_ ?_
  rotate_left
  ·intro w'
   go_simp
   with_reducible rfl
  rotate_left
  ·simp only [Act.put, List.setIfInBounds_toArray, List.set_cons_zero, List.set_cons_succ, i64_w, i32_w]
   rfl
  refine pure_ (i := 6) (N := some 22) (v := ?_) (a' := ?_) #[true, true, true, true, true, true, true, false, false, false] rfl rfl (any_of HT_.out (by kernel_rfl)) (fun _ _ _ h => h) (Or.inl ⟨by rfl, ?_⟩) ?_ ?_
  rotate_left
  ·intro w'
   go_simp
   with_reducible rfl
  rotate_left
  ·simp only [Act.put, List.setIfInBounds_toArray, List.set_cons_zero, List.set_cons_succ, i64_w, i32_w]
   rfl
  refine pure_ (i := 7) (N := some 23) (v := ?_) (a' := ?_) #[true, true, true, true, true, true, true, true, false, false] rfl rfl (any_of HT_.out (by kernel_rfl)) (fun _ _ _ h => h) (Or.inl ⟨by rfl, ?_⟩) ?_ ?_
  rotate_left
  ·intro w'
   go_simp
   with_reducible rfl
  rotate_left
  ·simp only [Act.put, List.setIfInBounds_toArray, List.set_cons_zero, List.set_cons_succ, i64_w, i32_w]
   rfl
  refine pure_ (i := 8) (N := some 6) (v := ?_) (a' := ?_) #[true, true, true, true, true, true, true, true, true, false] rfl rfl (any_of HT_.out (by kernel_rfl)) (fun _ _ _ h => h) (Or.inl ⟨by rfl, ?_⟩) ?_ ?_
  rotate_left
  ·intro w'
   go_simp
   with_reducible rfl
  rotate_left
  ·simp only [Act.put, List.setIfInBounds_toArray, List.set_cons_zero, List.set_cons_succ, i64_w, i32_w]
   rfl
  refine pure_ (i := 9) (N := some 7) (v := ?_) (a' := ?_) #[true, true, true, true, true, true, true, true, true, true] rfl rfl (any_of HT_.out (by kernel_rfl)) (fun _ _ _ h => h) (Or.inl ⟨by rfl, ?_⟩) ?_ ?_
  rotate_left
  ·intro w'
   go_simp
   with_reducible rfl
  rotate_left
  ·simp only [Act.put, List.setIfInBounds_toArray, List.set_cons_zero, List.set_cons_succ, i64_w, i32_w]
   rfl
  refine done_ (done_of HT_.out (by kernel_rfl)) ?_
  have hcz28_0 := bc0 BK312
  have hcz28_1 := bc1 BK312
  have hfz28_0 := blk_frozen BK312.out 0
  have hfz28_1 := blk_frozen BK312.out 1
  try go_wp2_with (first | ((with_reducible refine gate_callee (f := 19) rfl ?_); refine gl 25 Try.func19 #[.agg #[.slice A0_0 l0_0.length c0_0, .slice A0_1 l0_1.length c0_1]] ?_; (with_reducible refine (laws_toVessels.calls k _ _ l0_0 _ _ l0_1 t325 t328 _ ?side1 ?side2 ?side3 ?side4 A13.out).mono ?_); (case side1 => exact ck HR0_0 HB); (case side2 => exact HC0_0.out); (case side3 => exact ck HR0_1 HB); (case side4 => exact HC0_1.out); rintro e w29 ⟨v326, v329, rfl, ho0, ho1, hb⟩; refine ⟨_, rfl, ?_⟩; have HO327 := Aside0.mk (Kd.R_lower (Kd.R_new' (Kd.R_new' ho0 (Kd.R_lt (rk HO317))) (Kd.R_lt (rk HO320))) (below_size (bw HB))); have HO330 := Aside0.mk (Kd.R_lower (Kd.R_new' (Kd.R_new' ho1 (Kd.R_lt (rk HO317))) (Kd.R_lt (rk HO320))) (below_size (bw HB))); replace HO317 := Aside0.mk (Kd.R_mono (Kd.R_told (Kd.R_told (Kd.R_old (rk HO317) hb) (Kd.R_base ho0)) (Kd.R_base ho1)) (fun _ h_ => h_.1)); replace HO320 := Aside0.mk (Kd.R_mono (Kd.R_told (Kd.R_told (Kd.R_old (rk HO320) hb) (Kd.R_base ho0)) (Kd.R_base ho1)) (fun _ h_ => h_.1)); replace BK312 := bb BK312 hb; replace BK313 := bb BK313 hb; replace HB := bs HB hb; (try clear hb); (try clear ho0); (try clear ho1)) | ((with_reducible refine gate_dst (N := 8) rfl ?_); refine bx 8 #[.slice none 0 0, .slice none 0 0] 29 ?_; intro gb331 hg w30 hbox hb; replace HO317 := rb HO317 hb; replace HO320 := rb HO320 hb; replace HO327 := rb HO327 hb; replace HO330 := rb HO330 hb; have BK331 := Aside0.mk (hbox); have GW331 := ge HB hg; have GE331 := ge HB hg; replace HB := bs HB hb; have NB312_331 := nl BK312 hg; have NB331_312 := nr BK312 hg; replace BK312 := bb BK312 hb; have NB313_331 := nl BK313 hg; have NB331_313 := nr BK313 hg; replace BK313 := bb BK313 hb; clear hb hbox hg; obtain ⟨Ao31, co31, eo31⟩ := Kd.R_slice HO327.out; subst eo31; have hnb32 := NB331_312.out; have hnc32 := NB312_331.out; have hnb33 := NB331_313.out; have hnc33 := NB313_331.out; have hcz34_0 := bc0 BK331; have hcz34_1 := bc1 BK331; have hfz34_0 := blk_frozen BK331.out 0; have hfz34_1 := blk_frozen BK331.out 1; obtain ⟨Ao35, co35, eo35⟩ := Kd.R_slice HO330.out; subst eo35))
  have n0_ : Aside0 (Kd.R (Kd.int .i64) 3 ((w30.setCell ⟨gb331, 0, none⟩ (.slice Ao31 t325.length co31)).setCell ⟨gb331, 1, none⟩ (.slice Ao35 t328.length co35)) w.heap.size (fun k_ => some k_ ≠ (.slice Ao26 t318.length co26 : Value).ownBlock ∧ some k_ ≠ (.slice Ao31 t325.length co31 : Value).ownBlock ∧ some k_ ≠ (.slice Ao35 t328.length co35 : Value).ownBlock) (.slice Ao25 t315.length co25) t315) := ⟨by (with_reducible repeat (first | apply Kd.R_alloc | apply Kd.R_drewN | apply Kd.R_drew)); exact Kd.R_mono (Kd.R_far (p := ⟨gb331, 1, none⟩) (Kd.R_far (p := ⟨gb331, 0, none⟩) (Kd.R_types HO317.out BK331.out (by decide)) (fun _ hk => hk.2) (.slice Ao31 t325.length co31)) (fun _ hk => hk.2) (.slice Ao35 t328.length co35)) (fun _ hk => ⟨hk.1.1.1, ⟨hk.1.1.2, hk.1.2⟩⟩)⟩
  have n1_ : Aside0 (Kd.R (Kd.int .i64) 3 ((w30.setCell ⟨gb331, 0, none⟩ (.slice Ao31 t325.length co31)).setCell ⟨gb331, 1, none⟩ (.slice Ao35 t328.length co35)) w.heap.size (fun k_ => some k_ ≠ (.slice Ao25 t315.length co25 : Value).ownBlock ∧ some k_ ≠ (.slice Ao31 t325.length co31 : Value).ownBlock ∧ some k_ ≠ (.slice Ao35 t328.length co35 : Value).ownBlock) (.slice Ao26 t318.length co26) t318) := ⟨by (with_reducible repeat (first | apply Kd.R_alloc | apply Kd.R_drewN | apply Kd.R_drew)); exact Kd.R_mono (Kd.R_far (p := ⟨gb331, 1, none⟩) (Kd.R_far (p := ⟨gb331, 0, none⟩) (Kd.R_types HO320.out BK331.out (by decide)) (fun _ hk => hk.2) (.slice Ao31 t325.length co31)) (fun _ hk => hk.2) (.slice Ao35 t328.length co35)) (fun _ hk => ⟨hk.1.1.1, ⟨hk.1.1.2, hk.1.2⟩⟩)⟩
  have n2_ : Aside0 (Kd.R (Kd.int .i64) 3 ((w30.setCell ⟨gb331, 0, none⟩ (.slice Ao31 t325.length co31)).setCell ⟨gb331, 1, none⟩ (.slice Ao35 t328.length co35)) w.heap.size (fun k_ => some k_ ≠ (.slice Ao25 t315.length co25 : Value).ownBlock ∧ some k_ ≠ (.slice Ao26 t318.length co26 : Value).ownBlock ∧ some k_ ≠ (.slice Ao35 t328.length co35 : Value).ownBlock) (.slice Ao31 t325.length co31) t325) := ⟨by (with_reducible repeat (first | apply Kd.R_alloc | apply Kd.R_drewN | apply Kd.R_drew)); exact Kd.R_mono (Kd.R_far (p := ⟨gb331, 1, none⟩) (Kd.R_far (p := ⟨gb331, 0, none⟩) (Kd.R_types HO327.out BK331.out (by decide)) (fun _ hk => hk.2) (.slice Ao31 t325.length co31)) (fun _ hk => hk.2) (.slice Ao35 t328.length co35)) (fun _ hk => ⟨hk.1.1.2, ⟨hk.1.2, hk.1.1.1⟩⟩)⟩
  have n3_ : Aside0 (Kd.R (Kd.int .i64) 3 ((w30.setCell ⟨gb331, 0, none⟩ (.slice Ao31 t325.length co31)).setCell ⟨gb331, 1, none⟩ (.slice Ao35 t328.length co35)) w.heap.size (fun k_ => some k_ ≠ (.slice Ao25 t315.length co25 : Value).ownBlock ∧ some k_ ≠ (.slice Ao26 t318.length co26 : Value).ownBlock ∧ some k_ ≠ (.slice Ao31 t325.length co31 : Value).ownBlock) (.slice Ao35 t328.length co35) t328) := ⟨by (with_reducible repeat (first | apply Kd.R_alloc | apply Kd.R_drewN | apply Kd.R_drew)); exact Kd.R_mono (Kd.R_far (p := ⟨gb331, 1, none⟩) (Kd.R_far (p := ⟨gb331, 0, none⟩) (Kd.R_types HO330.out BK331.out (by decide)) (fun _ hk => hk.2) (.slice Ao31 t325.length co31)) (fun _ hk => hk.2) (.slice Ao35 t328.length co35)) (fun _ hk => ⟨hk.1.1.2, ⟨hk.1.2, hk.1.1.1⟩⟩)⟩
  have n4_ : Aside0 (((w30.setCell ⟨gb331, 0, none⟩ (.slice Ao31 t325.length co31)).setCell ⟨gb331, 1, none⟩ (.slice Ao35 t328.length co35)).heap[gb312]? = some (.cells #[.slice A0_0 l0_0.length c0_0, .slice A0_1 l0_1.length c0_1] 24 (0, 0))) := ⟨bk BK312⟩
  have n5_ : Aside0 (((w30.setCell ⟨gb331, 0, none⟩ (.slice Ao31 t325.length co31)).setCell ⟨gb331, 1, none⟩ (.slice Ao35 t328.length co35)).heap[gb313]? = some (.cells #[.int .i64 a1_0, .int .i64 a1_1] 46 (0, 0))) := ⟨bk BK313⟩
  have n6_ : Aside0 (((w30.setCell ⟨gb331, 0, none⟩ (.slice Ao31 t325.length co31)).setCell ⟨gb331, 1, none⟩ (.slice Ao35 t328.length co35)).heap[gb331]? = some (.cells #[.slice Ao31 t325.length co31, .slice Ao35 t328.length co35] 29 (0, 0))) := ⟨by (with_reducible repeat (first | refine blk_drewN ?_ _ | refine blk_drew ?_ | refine blk_alloc ?_ _)); refine blk_put (cs := #[.slice Ao31 t325.length co31, .slice none 0 0]) ?_ 1 _ rfl; (with_reducible repeat (first | refine blk_drewN ?_ _ | refine blk_drew ?_ | refine blk_alloc ?_ _)); refine blk_put (cs := #[.slice none 0 0, .slice none 0 0]) ?_ 0 _ rfl; exact bk BK331⟩
  have n7_ : Aside0 (Below w.heap.size w ((w30.setCell ⟨gb331, 0, none⟩ (.slice Ao31 t325.length co31)).setCell ⟨gb331, 1, none⟩ (.slice Ao35 t328.length co35))) := ⟨bw HB⟩
  (try clear HO317)
  (try clear HO320)
  (try clear HO327)
  (try clear HO330)
  (try clear BK312)
  (try clear BK313)
  (try clear BK331)
  (try clear HB)
  generalize ((w30.setCell ⟨gb331, 0, none⟩ (.slice Ao31 t325.length co31)).setCell ⟨gb331, 1, none⟩ (.slice Ao35 t328.length co35)) = w36 at n0_ n1_ n2_ n3_ n4_ n5_ n6_ n7_ ⊢
  have HO317 := n0_
  have HO320 := n1_
  have HO327 := n2_
  have HO330 := n3_
  have BK312 := n4_
  have BK313 := n5_
  have BK331 := n6_
  have HB := n7_
  clear n0_ n1_ n2_ n3_ n4_ n5_ n6_ n7_
  replace HO317 := Aside0.mk (Kd.R_drew HO317.out)
  replace HO320 := Aside0.mk (Kd.R_drew HO320.out)
  replace HO327 := Aside0.mk (Kd.R_drew HO327.out)
  replace HO330 := Aside0.mk (Kd.R_drew HO330.out)
  replace BK312 := Aside0.mk (blk_drew BK312.out)
  replace BK313 := Aside0.mk (blk_drew BK313.out)
  replace BK331 := Aside0.mk (blk_drew BK331.out)
  replace HB := Aside0.mk (below_drew1 HB.out)
  refine start_ (n := 9) (S := fun w' => w'.cell? ⟨gb331, 0, none⟩ = some (.slice Ao31 t325.length co31) ∧ w'.cell? ⟨gb331, 1, none⟩ = some (.slice Ao35 t328.length co35) ∧ w'.cell? ⟨gb313, 0, none⟩ = some (.int .i64 a1_0) ∧ w'.cell? ⟨gb313, 1, none⟩ = some (.int .i64 a1_1)) (ds := []) #[false, false, false, false, false, false, false, false, false] (by kernel_rfl) rfl rfl ⟨bc0 BK331, bc1 BK331, bc0 BK313, bc1 BK313⟩ (fun hHeld => ?_); refine with_tabW laws_FnExactIsUndone.tab7 laws_FnExactIsUndone.bits7 (fun HT_ HW_ => ?_)
  generalize w36.drew = w37 at HO317 HO320 HO327 HO330 BK312 BK313 BK331 HB hHeld ⊢
  refine take_ (i := 0) (N := some 27) (v := ?_) (a' := ?_) #[true, false, false, false, false, false, false, false, false] rfl rfl (take_ofW HT_.out HW_.out (by kernel_rfl)) (fun _ _ _ h => h) (Or.inl ⟨by rfl, ?_⟩) hHeld ?_ ?_
  rotate_left
  ·rintro w' ⟨s0, s1, s2, s3⟩
   go_simp
   with_reducible rfl
  rotate_left
  ·simp only [Act.put, List.setIfInBounds_toArray, List.set_cons_zero, List.set_cons_succ, i64_w, i32_w]
   rfl
  refine take_ (i := 1) (N := some 28) (v := ?_) (a' := ?_) #[true, true, false, false, false, false, false, false, false] rfl rfl (take_ofW HT_.out HW_.out (by kernel_rfl)) (fun _ _ _ h => h) (Or.inl ⟨by rfl, ?_⟩) hHeld ?_ ?_
  rotate_left
  ·rintro w' ⟨s0, s1, s2, s3⟩
   go_simp
   with_reducible rfl
  rotate_left
  ·simp only [Act.put, List.setIfInBounds_toArray, List.set_cons_zero, List.set_cons_succ, i64_w, i32_w]
   rfl
  refine one_ (i := 2) (N := some 29) #[true, true, true, false, false, false, false, false, false] rfl rfl (one_of HT_.out (by kernel_rfl)) (by decide) (fun K hK => ?_)
  refine goes_ Try.func27 (by kernel_rfl) rfl #[.agg #[.int .i64 a1_0, .int .i64 a1_1]] (by rfl) rfl rfl (by (try simp only [List.map_toArray, List.map_cons, List.map_nil]); first | done | rfl | (simp only [List.length_drop, List.length_take]; rfl)) ?_
  with_reducible refine (laws_toMove.calls a1_0 a1_1 t332 t333 _ A14.out).mono ?_
  rintro e w38 ⟨rfl, hb⟩
  refine ⟨_, rfl, ?_⟩
  replace HO317 := rb HO317 hb
  replace HO320 := rb HO320 hb
  replace HO327 := rb HO327 hb
  replace HO330 := rb HO330 hb
  replace BK312 := bb BK312 hb
  replace BK313 := bb BK313 hb
  replace BK331 := bb BK331 hb
  replace HB := bs HB hb
  (try clear hb)
  (try clear hb2)
  (try clear hk)
  (try clear hi)
  refine hK.out _ _ ⟨bc0 BK331, bc1 BK331, bc0 BK313, bc1 BK313⟩ (fun hHeld => ?_)
  clear hK K
  refine norm_ (a' := ?_) ?_ ?_
  rotate_left
  ·show Act.put _ (some 29) _ = _
   simp only [Act.put, List.setIfInBounds_toArray, List.set_cons_zero, List.set_cons_succ, i64_w, i32_w]
   rfl
  refine one_ (i := 3) (N := some 30) #[true, true, true, true, false, false, false, false, false] rfl rfl (one_of HT_.out (by kernel_rfl)) (by decide) (fun K hK => ?_)
  refine goes_ Try.func28 (by kernel_rfl) rfl #[.agg #[.slice Ao31 t325.length co31, .slice Ao35 t328.length co35], .agg #[.int .i64 t332, .int .i64 t333]] (by rfl) rfl rfl (by (try simp only [List.map_toArray, List.map_cons, List.map_nil]); first | done | rfl | (simp only [List.length_drop, List.length_take]; rfl)) ?_
  with_reducible refine (impl_IsUndone.calls k _ _ t325 _ _ t328 t332 t333 t334 t335 _ ?side1 ?side2 ?side3 ?side4 A15.out).mono ?_
  (case side1 => exact cr HO327)
  (case side2 => exact (Kd.R_reads' HO327.out).2.1)
  (case side3 => exact cr HO330)
  (case side4 => exact (Kd.R_reads' HO330.out).2.1)
  rintro e w39 ⟨rfl, hb⟩
  refine ⟨_, rfl, ?_⟩
  replace HO317 := rb HO317 hb
  replace HO320 := rb HO320 hb
  replace HO327 := rb HO327 hb
  replace HO330 := rb HO330 hb
  replace BK312 := bb BK312 hb
  replace BK313 := bb BK313 hb
  replace BK331 := bb BK331 hb
  replace HB := bs HB hb
  (try clear hb)
  (try clear hb2)
  (try clear hk)
  (try clear hi)
  refine hK.out _ _ ⟨bc0 BK331, bc1 BK331, bc0 BK313, bc1 BK313⟩ (fun hHeld => ?_)
  clear hK K
  refine norm_ (a' := ?_) ?_ ?_
  rotate_left
  ·show Act.put _ (some 30) _ = _
   simp only [Act.put, List.setIfInBounds_toArray, List.set_cons_zero, List.set_cons_succ, i64_w, i32_w]
   rfl
  refine pure_ (i := 4) (N := some 26) (v := ?_) (a' := ?_) #[true, true, true, true, true, false, false, false, false] rfl rfl (any_of HT_.out (by kernel_rfl)) (fun _ _ _ h => h) (Or.inl ⟨by rfl, ?_⟩) ?_ ?_
  rotate_left
  ·intro w'
   go_simp
   with_reducible rfl
  rotate_left
  ·simp only [Act.put, List.setIfInBounds_toArray, List.set_cons_zero, List.set_cons_succ, i64_w, i32_w]
   rfl
  refine pure_ (i := 5) (N := some 31) (v := ?_) (a' := ?_) #[true, true, true, true, true, true, false, false, false] rfl rfl (any_of HT_.out (by kernel_rfl)) (fun _ _ _ h => h) (Or.inl ⟨by rfl, ?_⟩) ?_ ?_
  rotate_left
  ·intro w'
   go_simp
   with_reducible rfl
  rotate_left
  ·simp only [Act.put, List.setIfInBounds_toArray, List.set_cons_zero, List.set_cons_succ, i64_w, i32_w]
   rfl
  refine pure_ (i := 6) (N := some 32) (v := ?_) (a' := ?_) #[true, true, true, true, true, true, true, false, false] rfl rfl (any_of HT_.out (by kernel_rfl)) (fun _ _ _ h => h) (Or.inl ⟨by rfl, ?_⟩) ?_ ?_
  rotate_left
  ·intro w'
   go_simp
   with_reducible rfl
  rotate_left
  ·simp only [Act.put, List.setIfInBounds_toArray, List.set_cons_zero, List.set_cons_succ, i64_w, i32_w]
   rfl
  refine pure_ (i := 7) (N := some 9) (v := ?_) (a' := ?_) #[true, true, true, true, true, true, true, true, false] rfl rfl (any_of HT_.out (by kernel_rfl)) (fun _ _ _ h => h) (Or.inl ⟨by rfl, ?_⟩) ?_ ?_
  rotate_left
  ·intro w'
   go_simp
   with_reducible rfl
  rotate_left
  ·simp only [Act.put, List.setIfInBounds_toArray, List.set_cons_zero, List.set_cons_succ, i64_w, i32_w]
   rfl
  refine pure_ (i := 8) (N := some 10) (v := ?_) (a' := ?_) #[true, true, true, true, true, true, true, true, true] rfl rfl (any_of HT_.out (by kernel_rfl)) (fun _ _ _ h => h) (Or.inl ⟨by rfl, ?_⟩) ?_ ?_
  rotate_left
  ·intro w'
   go_simp
   with_reducible rfl
  rotate_left
  ·simp only [Act.put, List.setIfInBounds_toArray, List.set_cons_zero, List.set_cons_succ, i64_w, i32_w]
   rfl
  refine done_ (done_of HT_.out (by kernel_rfl)) ?_
  go_upto_region 8 with (fail)
  go_cut [40] (fun v40 wc => ∃ (kq : Nat) (x40_15 : Bool), v40 = .bool x40_15 ∧ Aside0 (laws_FnExactIsUndone.j0 kq x40_15 l0_0 l0_1 t325 t328 = some r) ∧ Aside0 (kq ≤ k) ∧ Aside0 (Kd.R (Kd.int .i64) 3 wc w.heap.size (fun k_ => some k_ ≠ ((.slice Ao35 t328.length co35) : Value).ownBlock) (.slice Ao31 t325.length co31) t325) ∧ Aside0 (Kd.R (Kd.int .i64) 3 wc w.heap.size (fun k_ => some k_ ≠ ((.slice Ao31 t325.length co31) : Value).ownBlock) (.slice Ao35 t328.length co35) t328) ∧ Aside0 (wc.heap[gb312]? = some (.cells #[(.slice A0_0 l0_0.length c0_0), (.slice A0_1 l0_1.length c0_1)] 24 (0, 0))) ∧ Aside0 (wc.heap[gb313]? = some (.cells #[.int .i64 a1_0, .int .i64 a1_1] 46 (0, 0))) ∧ Aside0 (wc.heap[gb331]? = some (.cells #[(.slice Ao31 t325.length co31), (.slice Ao35 t328.length co35)] 29 (0, 0))) ∧ Aside0 (Below w.heap.size w wc))
  case first =>
   have H := HC16.out
   clear HC16
   by_cases c40 : (t334 != t323) = true
   ·rw [if_pos c40] at H
    have c40b0 : (t334 != t323) = true := c40
    (try (have c40b1 : decide (t334 = t323) = false := by simpa using c40))
    (try (have c40b2 : (t334 == t323) = false := by simpa using c40))
    (try (have c40b3 : ¬ (t334 = t323) := by simpa using c40))
    clear c40
    (first | rw [c40b0] | (simp only [i64_w, i32_w]; rw [c40b0]) | skip)
    exact absurd H (by rw [hrt.out]; cases k <;> simp [laws_FnExactIsUndone.j0])
   ·rw [if_neg c40] at H
    have c40b0 : (t334 != t323) = false := by simpa using c40
    (try (have c40b1 : decide (t334 = t323) = true := by simpa using c40))
    (try (have c40b2 : (t334 == t323) = true := by simpa using c40))
    clear c40
    (first | rw [c40b0] | (simp only [i64_w, i32_w]; rw [c40b0]) | skip)
    have H' := Aside0.mk H
    clear H
    go_wp2
    go_meet
    case rel => exact ⟨_, ((t335 != t324)), (by first | rfl | (simp; done) | (simp [*]; done)), H', ⟨by first | omega | exact Nat.le_refl _⟩, ⟨by (with_reducible repeat (first | apply Kd.R_alloc | apply Kd.R_drewN | apply Kd.R_drew)); exact Kd.R_mono HO327.out (fun _ hk => hk.2.2)⟩, ⟨by (with_reducible repeat (first | apply Kd.R_alloc | apply Kd.R_drewN | apply Kd.R_drew)); exact Kd.R_mono HO330.out (fun _ hk => hk.2.2)⟩, ⟨bk BK312⟩, ⟨bk BK313⟩, ⟨bk BK331⟩, ⟨bw HB⟩⟩
  case rest =>
   clear HC16
   try clear c1
   try clear c2
   try clear p2
   try clear c3
   try clear c4
   try clear c4b0
   try clear c5
   try clear c7
   try clear c17
   try clear c19
   try clear c26
   try clear c27
   try clear c28
   try clear c32
   try clear c33
   try clear c40
   try clear c40b0
   try clear c40b1
   try clear c40b2
   try clear hcz20_0
   try clear hcz20_1
   try clear hcz28_0
   try clear hcz28_1
   try clear hcz34_0
   try clear hcz34_1
   try clear hcz8_0
   try clear hcz8_1
   try clear hfz20_0
   try clear hfz20_1
   try clear hfz28_0
   try clear hfz28_1
   try clear hfz34_0
   try clear hfz34_1
   try clear hfz8_0
   try clear hfz8_1
   obtain ⟨kq, x40_15, rfl, HA, HJ15, HO_332000, HO_332001, BK312, BK313, BK331, HB⟩ := hcut
   cases kq with
   | zero => exact absurd HA.out (by simp [laws_FnExactIsUndone.j0])
   | succ kj15 =>
    have H := HA.out
    clear HA
    simp only [laws_FnExactIsUndone.j0] at H
    by_cases c41 : x40_15 = true
    ·subst c41
     have H1 : (some false) = some r := by rw [if_pos rfl] at H; exact H
     clear H
     have H := H1
     clear H1
     exact absurd ((Option.some.inj H).trans hrt.out) (by decide)
    ·replace c41 := Bool.eq_false_iff.mpr c41
     subst c41
     have H1 : ((laws_toVessels.f kj15 l0_0 l0_1).bind fun bt336 => ((laws_eqVessels.f kj15 t325 t328 bt336.1 bt336.2).bind fun t342 => (if t342 = true then (some true) else (some false)))) = some r := by rw [if_neg (show ¬ (false = true) by decide)] at H; exact H
     clear H
     have H := H1
     clear H1
     replace H := Option.bind_eq_some_iff.mp H
     obtain ⟨⟨t336, t339⟩, A420, H⟩ := H
     replace H : ((laws_eqVessels.f kj15 t325 t328 t336 t339).bind fun t342 => (if t342 = true then (some true) else (some false))) = some r := H
     have A42 := Aside0.mk A420
     clear A420
     replace H := Option.bind_eq_some_iff.mp H
     obtain ⟨t342, A430, H⟩ := H
     replace H : (if t342 = true then (some true) else (some false)) = some r := H
     have A43 := Aside0.mk A430
     clear A430
     by_cases c44 : t342 = true
     ·subst c44
      have H1 : (some true) = some r := by rw [if_pos rfl] at H; exact H
      clear H
      have H := H1
      clear H1
      obtain rfl := Option.some.inj H
      try go_wp2
      replace HO_332000 := Aside0.mk (Kd.R_drew HO_332000.out)
      replace HO_332001 := Aside0.mk (Kd.R_drew HO_332001.out)
      replace BK312 := Aside0.mk (blk_drew BK312.out)
      replace BK313 := Aside0.mk (blk_drew BK313.out)
      replace BK331 := Aside0.mk (blk_drew BK331.out)
      replace HB := Aside0.mk (below_drew1 HB.out)
      refine start_ (n := 5) (S := fun w' => w'.cell? ⟨gb331, 0, none⟩ = some (.slice Ao31 t325.length co31) ∧ w'.cell? ⟨gb331, 1, none⟩ = some (.slice Ao35 t328.length co35) ∧ w'.cell? ⟨gb312, 0, none⟩ = some (.slice A0_0 l0_0.length c0_0) ∧ w'.cell? ⟨gb312, 1, none⟩ = some (.slice A0_1 l0_1.length c0_1)) (ds := []) #[false, false, false, false, false] (by kernel_rfl) rfl rfl ⟨bc0 BK331, bc1 BK331, bc0 BK312, bc1 BK312⟩ (fun hHeld => ?_)
      generalize wc.drew = w45 at HO_332000 HO_332001 BK312 BK313 BK331 HB hHeld ⊢
      refine take_ (i := 0) (N := some 41) (v := ?_) (a' := ?_) #[true, false, false, false, false] rfl rfl (by kernel_rfl) (fun _ _ _ h => h) (Or.inl ⟨by rfl, ?_⟩) hHeld ?_ ?_
      rotate_left
      ·rintro w' ⟨s0, s1, s2, s3⟩
       go_simp
       with_reducible rfl
      rotate_left
      ·simp only [Act.put, List.setIfInBounds_toArray, List.set_cons_zero, List.set_cons_succ, i64_w, i32_w]
       rfl
      refine take_ (i := 1) (N := some 42) (v := ?_) (a' := ?_) #[true, true, false, false, false] rfl rfl (by kernel_rfl) (fun _ _ _ h => h) (Or.inl ⟨by rfl, ?_⟩) hHeld ?_ ?_
      rotate_left
      ·rintro w' ⟨s0, s1, s2, s3⟩
       go_simp
       with_reducible rfl
      rotate_left
      ·simp only [Act.put, List.setIfInBounds_toArray, List.set_cons_zero, List.set_cons_succ, i64_w, i32_w]
       rfl
      refine one_ (i := 2) (N := some 43) #[true, true, true, false, false] rfl rfl (by kernel_rfl) (by decide) (fun K hK => ?_)
      refine goes_ Try.func19 (by kernel_rfl) rfl #[.agg #[.slice A0_0 l0_0.length c0_0, .slice A0_1 l0_1.length c0_1]] (by rfl) rfl rfl (by (try simp only [List.map_toArray, List.map_cons, List.map_nil]); first | done | rfl | (simp only [List.length_drop, List.length_take]; rfl)) ?_
      with_reducible refine (laws_toVessels.calls kj15 _ _ l0_0 _ _ l0_1 t336 t339 _ ?side1 ?side2 ?side3 ?side4 A42.out).mono ?_
      (case side1 => exact ck HR0_0 HB)
      (case side2 => exact HC0_0.out)
      (case side3 => exact ck HR0_1 HB)
      (case side4 => exact HC0_1.out)
      rintro e w46 ⟨v337, v340, rfl, ho0, ho1, hb⟩
      refine ⟨_, rfl, ?_⟩
      have HO338 := Aside0.mk (Kd.R_lower (Kd.R_new' (Kd.R_new' ho0 (Kd.R_lt (rk HO_332000))) (Kd.R_lt (rk HO_332001))) (below_size (bw HB)))
      have HO341 := Aside0.mk (Kd.R_lower (Kd.R_new' (Kd.R_new' ho1 (Kd.R_lt (rk HO_332000))) (Kd.R_lt (rk HO_332001))) (below_size (bw HB)))
      replace HO_332000 := Aside0.mk (Kd.R_mono (Kd.R_told (Kd.R_told (Kd.R_old (rk HO_332000) hb) (Kd.R_base ho0)) (Kd.R_base ho1)) (fun _ h_ => h_.1))
      replace HO_332001 := Aside0.mk (Kd.R_mono (Kd.R_told (Kd.R_told (Kd.R_old (rk HO_332001) hb) (Kd.R_base ho0)) (Kd.R_base ho1)) (fun _ h_ => h_.1))
      replace BK312 := bb BK312 hb
      replace BK313 := bb BK313 hb
      replace BK331 := bb BK331 hb
      replace HB := bs HB hb
      (try clear hb)
      (try clear hb2)
      (try clear hk)
      (try clear hi)
      (try clear ho0)
      (try clear ho1)
      obtain ⟨Ao47, co47, eo47⟩ := Kd.R_slice HO338.out
      (first | subst eo47 | (injection eo47 with f1_ f2_ f3_; have f4_ := f1_.symm; have f5_ := f3_.symm; clear f1_ f2_ f3_; subst f4_; subst f5_))
      obtain ⟨Ao48, co48, eo48⟩ := Kd.R_slice HO341.out
      (first | subst eo48 | (injection eo48 with f1_ f2_ f3_; have f4_ := f1_.symm; have f5_ := f3_.symm; clear f1_ f2_ f3_; subst f4_; subst f5_))
      refine hK.out _ _ ⟨bc0 BK331, bc1 BK331, bc0 BK312, bc1 BK312⟩ (fun hHeld => ?_)
      clear hK K
      refine norm_ (a' := ?_) ?_ ?_
      rotate_left
      ·show Act.put _ (some 43) _ = _
       simp only [Act.put, List.setIfInBounds_toArray, List.set_cons_zero, List.set_cons_succ, i64_w, i32_w]
       rfl
      refine one_ (i := 3) (N := some 44) #[true, true, true, true, false] rfl rfl (by kernel_rfl) (by decide) (fun K hK => ?_)
      refine goes_ Try.func22 (by kernel_rfl) rfl #[.agg #[.slice Ao31 t325.length co31, .slice Ao35 t328.length co35], .agg #[.slice Ao47 t336.length co47, .slice Ao48 t339.length co48]] (by rfl) rfl rfl (by (try simp only [List.map_toArray, List.map_cons, List.map_nil]); first | done | rfl | (simp only [List.length_drop, List.length_take]; rfl)) ?_
      with_reducible refine (laws_eqVessels.calls kj15 _ _ t325 _ _ t328 _ _ t336 _ _ t339 true _ ?side1 ?side2 ?side3 ?side4 ?side5 ?side6 ?side7 ?side8 A43.out).mono ?_
      (case side1 => exact cr HO_332000)
      (case side2 => exact (Kd.R_reads' HO_332000.out).2.1)
      (case side3 => exact cr HO_332001)
      (case side4 => exact (Kd.R_reads' HO_332001.out).2.1)
      (case side5 => exact cr HO338)
      (case side6 => exact (Kd.R_reads' HO338.out).2.1)
      (case side7 => exact cr HO341)
      (case side8 => exact (Kd.R_reads' HO341.out).2.1)
      rintro e w49 ⟨rfl, hb⟩
      refine ⟨_, rfl, ?_⟩
      replace HO_332000 := rb HO_332000 hb
      replace HO_332001 := rb HO_332001 hb
      replace HO338 := rb HO338 hb
      replace HO341 := rb HO341 hb
      replace BK312 := bb BK312 hb
      replace BK313 := bb BK313 hb
      replace BK331 := bb BK331 hb
      replace HB := bs HB hb
      (try clear hb)
      (try clear hb2)
      (try clear hk)
      (try clear hi)
      refine hK.out _ _ ⟨bc0 BK331, bc1 BK331, bc0 BK312, bc1 BK312⟩ (fun hHeld => ?_)
      clear hK K
      refine norm_ (a' := ?_) ?_ ?_
      rotate_left
      ·show Act.put _ (some 44) _ = _
       simp only [Act.put, List.setIfInBounds_toArray, List.set_cons_zero, List.set_cons_succ, i64_w, i32_w]
       rfl
      refine pure_ (i := 4) (N := some 45) (v := ?_) (a' := ?_) #[true, true, true, true, true] rfl rfl (by kernel_rfl) (fun _ _ _ h => h) (Or.inl ⟨by rfl, ?_⟩) ?_ ?_
      rotate_left
      ·intro w'
       go_simp
       with_reducible rfl
      rotate_left
      ·simp only [Act.put, List.setIfInBounds_toArray, List.set_cons_zero, List.set_cons_succ, i64_w, i32_w]
       rfl
      refine done_ (by kernel_rfl) ?_
      try go_wp2
      go_ret
      exact ⟨by first | rfl | (simp [errW_none, errW_some] <;> rfl) | (simp [*, errW_none, errW_some] <;> rfl), bw HB⟩
     ·replace c44 := Bool.eq_false_iff.mpr c44
      subst c44
      have H1 : (some false) = some r := by rw [if_neg (show ¬ (false = true) by decide)] at H; exact H
      clear H
      have H := H1
      clear H1
      exact absurd ((Option.some.inj H).trans hrt.out) (by decide)

end Go.Proofs.Ytigpkicbigpilaa.U
