-- Functions of the program as plain functions, and that the calls come to them. Written by a program (ownprint.py); nothing here is trusted: Lean checks it.
import Derived.Test.YtieioddimkafbaaTtVx
import Derived.Test.YtieioddimkafbaaTtVsT
import Derived.Test.YtieioddimkafbaaTtViT
namespace Go.Proofs.Ytieioddimkafbaa.V
open Go.RowKit Go.Proofs.YtieioddimkafbaaW.PrintWords Go.Proofs.YtieioddimkafbaaW.PrintLast Go.Proofs.YtieioddimkafbaaW.PrintMore Go.Proofs.Ytieioddimkafbaa.Sq
attribute [local go_sem] max2_int min2_int max_two min_two max_three min_three max_four min_four   -- for this text's walks alone
set_option linter.unusedVariables false
set_option linter.unusedSimpArgs false
mutual
def laws_FnExactPlanTo.j0 : Nat → Bool → List (S55) → Bool → List (S55) → Bool → Bool → List Int → List Int → List Int → List Int → List Int → List Int → List Int → List Int → Option (Bool)
 | 0, _, _, _, _, _, _, _, _, _, _, _, _, _, _ => none
 | k + 1, x2, x8, x9, x12, x13, x57, x121000, x121001, x122000, x122001, x147000, x147001, x154000, x154001 => if x57 = true then (some false) else ((laws_toVessels.f k x121000 x121001).bind fun bt159 => ((laws_eqVessels.f k x147000 x147001 bt159.1 bt159.2).bind fun t165 => (if t165 = true then ((laws_toVessels.f k x122000 x122001).bind fun bt166 => ((laws_eqVessels.f k x154000 x154001 bt166.1 bt166.2).bind fun t172 => (if t172 = true then ((laws_markVessels.f k x147000 x147001 1).bind fun bt173 => ((laws_markVessels.f k x154000 x154001 bt173.1).bind fun bt176 => (if bt176.1 < 0 then (laws_FnExactPlanTo.j1 k x2 x8 x9 x12 true x121000 x121001 x122000 x122001) else ((laws_eqMoveS.f k x12 x8).bind fun t179 => (if t179 = true then (laws_FnExactPlanTo.j1 k x2 x8 x9 x12 (x13 != x9) x121000 x121001 x122000 x122001) else (laws_FnExactPlanTo.j1 k x2 x8 x9 x12 true x121000 x121001 x122000 x122001)))))) else (some false)))) else (some false))))
def laws_FnExactPlanTo.j1 : Nat → Bool → List (S55) → Bool → List (S55) → Bool → List Int → List Int → List Int → List Int → Option (Bool)
 | 0, _, _, _, _, _, _, _, _, _ => none
 | k + 1, x2, x8, x9, x12, x86, x121000, x121001, x122000, x122001 => if x86 = true then (some false) else ((laws_markMoveS.f k x12 1).bind fun bt180 => ((laws_heldMoveS.f k bt180.2 1).bind fun t182 => (if t182 < 0 then (some false) else (if t182 = bt180.1 then ((laws_toVessels.f k x121000 x121001).bind fun bt183 => ((laws_toVessels.f k x122000 x122001).bind fun bt189 => ((impl_PlanTo.f k bt183.1 bt183.2 bt189.1 bt189.2 x2).bind fun bt195 => ((laws_eqMoveS.f k bt195.1 x8).bind fun t199 => (if t199 = true then (laws_FnExactPlanTo.j2 k bt180.2 bt180.1 (bt195.2 != x9)) else (laws_FnExactPlanTo.j2 k bt180.2 bt180.1 true)))))) else (some false)))))
def laws_FnExactPlanTo.j2 : Nat → List (S55) → Int → Bool → Option (Bool)
 | 0, _, _, _ => none
 | k + 1, x12, x15, x115 => if x115 = true then (some false) else ((laws_heldMoveS.f k x12 1).bind fun t200 => (if t200 < 0 then (some false) else (if t200 = x15 then (some true) else (some false))))
end
def laws_FnExactPlanTo.f (k : Nat) (l0_0 : List Int) (l0_1 : List Int) (l1_0 : List Int) (l1_1 : List Int) (a2 : Bool) : Option (Bool) := (laws_szVessels.f l0_0 l0_1 1048576).bind fun t122 => (if t122 < 0 then (some true) else ((laws_szVessels.f l1_0 l1_1 t122).bind fun t123 => (if t123 < 0 then (some true) else ((laws_toVessels.f k l0_0 l0_1).bind fun bt124 => ((laws_toVessels.f k l1_0 l1_1).bind fun bt130 => ((spec_PlanTo.f k bt124.1 bt124.2 bt130.1 bt130.2 a2).bind fun bt136 => ((laws_toVessels.f k l0_0 l0_1).bind fun bt140 => ((laws_toVessels.f k l1_0 l1_1).bind fun bt147 => ((impl_PlanTo.f k bt140.1 bt140.2 bt147.1 bt147.2 a2).bind fun bt154 => ((laws_eqMoveS.f k bt154.1 bt136.1).bind fun t158 => (if t158 = true then (laws_FnExactPlanTo.j0 k a2 bt136.1 bt136.2 bt154.1 bt154.2 (bt154.2 != bt136.2) l0_0 l0_1 l1_0 l1_1 bt140.1 bt140.2 bt147.1 bt147.2) else (laws_FnExactPlanTo.j0 k a2 bt136.1 bt136.2 bt154.1 bt154.2 true l0_0 l0_1 l1_0 l1_1 bt140.1 bt140.2 bt147.1 bt147.2))))))))))))
def laws_FnExactPlanTo.T8 : Bool × List (List Nat × List Nat) := (true, [([], []), ([0], [0]), ([], []), ([2, 1], [2]), ([], []), ([1, 3, 4, 3], [1, 3, 4]), ([5], [5]), ([6], [6]), ([6], [6]), ([7, 5, 0, 1, 2, 3, 4, 5, 6, 7], [7]), ([8, 9, 0, 1, 2, 3, 4, 5, 6, 7, 8, 9], [8])])
def laws_FnExactPlanTo.B8 : List Nat := [0, 1, 0, 7, 0, 31, 63, 127, 127, 255, 1023]
theorem laws_FnExactPlanTo.tab8 : rtab .any (opsOf Try.f6 8) = laws_FnExactPlanTo.T8 := by kernel_rfl
theorem laws_FnExactPlanTo.bits8 : waitsOk laws_FnExactPlanTo.T8.2 laws_FnExactPlanTo.B8 = true := by kernel_rfl
def laws_FnExactPlanTo.T31 : Bool × List (List Nat × List Nat) := (true, [([], []), ([0], [0]), ([], []), ([2, 1], [2]), ([], []), ([1, 3, 4, 3], [1, 3, 4]), ([5], [5]), ([6], [6]), ([6], [6]), ([7, 5, 0, 1, 2, 3, 4, 5, 6, 7], [7]), ([8, 9, 0, 1, 2, 3, 4, 5, 6, 7, 8, 9], [8])])
def laws_FnExactPlanTo.B31 : List Nat := [0, 1, 0, 7, 0, 31, 63, 127, 127, 255, 1023]
theorem laws_FnExactPlanTo.tab31 : rtab .any (opsOf Try.f6 31) = laws_FnExactPlanTo.T31 := by kernel_rfl
theorem laws_FnExactPlanTo.bits31 : waitsOk laws_FnExactPlanTo.T31.2 laws_FnExactPlanTo.B31 = true := by kernel_rfl
set_option maxHeartbeats 8000000 in
set_option maxRecDepth 100000 in
theorem laws_FnExactPlanTo.calls (k : Nat) (A0_0 : Option Addr) (c0_0 : Nat) (l0_0 : List Int) (A0_1 : Option Addr) (c0_1 : Nat) (l0_1 : List Int) (A1_0 : Option Addr) (c1_0 : Nat) (l1_0 : List Int) (A1_1 : Option Addr) (c1_1 : Nat) (l1_1 : List Int) (a2 : Bool) (r : Bool) (w : World) (hr0_0 : Kd.C (Kd.int .i64) w A0_0 l0_0.length l0_0) (hc0_0 : l0_0.length ≤ c0_0) (hr0_1 : Kd.C (Kd.int .i64) w A0_1 l0_1.length l0_1) (hc0_1 : l0_1.length ≤ c0_1) (hr1_0 : Kd.C (Kd.int .i64) w A1_0 l1_0.length l1_0) (hc1_0 : l1_0.length ≤ c1_0) (hr1_1 : Kd.C (Kd.int .i64) w A1_1 l1_1.length l1_1) (hc1_1 : l1_1.length ≤ c1_1) (hrt : Aside0 (r = true)) (h : laws_FnExactPlanTo.f k l0_0 l0_1 l1_0 l1_1 a2 = some r) :
  Calls Try.prog 6 #[.agg #[.slice A0_0 l0_0.length c0_0, .slice A0_1 l0_1.length c0_1], .agg #[.slice A1_0 l1_0.length c1_0, .slice A1_1 l1_1.length c1_1], .bool a2] w fun e w' => e = .returned (.bool r) ∧ Below w.heap.size w w' := by
 have hu32 := Try.underlying32
 have hu35 := Try.underlying35
 have HR0_0 := Aside0.mk hr0_0
 have HC0_0 := Aside0.mk hc0_0
 clear hr0_0 hc0_0
 have HR0_1 := Aside0.mk hr0_1
 have HC0_1 := Aside0.mk hc0_1
 clear hr0_1 hc0_1
 have HR1_0 := Aside0.mk hr1_0
 have HC1_0 := Aside0.mk hc1_0
 clear hr1_0 hc1_0
 have HR1_1 := Aside0.mk hr1_1
 have HC1_1 := Aside0.mk hc1_1
 clear hr1_1 hc1_1
 have HB := Aside0.mk (Below.refl w.heap.size w)
 have H : ((laws_szVessels.f l0_0 l0_1 1048576).bind fun t122 => (if t122 < 0 then (some true) else ((laws_szVessels.f l1_0 l1_1 t122).bind fun t123 => (if t123 < 0 then (some true) else ((laws_toVessels.f k l0_0 l0_1).bind fun bt124 => ((laws_toVessels.f k l1_0 l1_1).bind fun bt130 => ((spec_PlanTo.f k bt124.1 bt124.2 bt130.1 bt130.2 a2).bind fun bt136 => ((laws_toVessels.f k l0_0 l0_1).bind fun bt140 => ((laws_toVessels.f k l1_0 l1_1).bind fun bt147 => ((impl_PlanTo.f k bt140.1 bt140.2 bt147.1 bt147.2 a2).bind fun bt154 => ((laws_eqMoveS.f k bt154.1 bt136.1).bind fun t158 => (if t158 = true then (laws_FnExactPlanTo.j0 k a2 bt136.1 bt136.2 bt154.1 bt154.2 (bt154.2 != bt136.2) l0_0 l0_1 l1_0 l1_1 bt140.1 bt140.2 bt147.1 bt147.2) else (laws_FnExactPlanTo.j0 k a2 bt136.1 bt136.2 bt154.1 bt154.2 true l0_0 l0_1 l1_0 l1_1 bt140.1 bt140.2 bt147.1 bt147.2))))))))))))) = some r := h
 clear h
 replace H := Option.bind_eq_some_iff.mp H
 obtain ⟨t122, A40, H⟩ := H
 (try dsimp only at H)
 have A4 := Aside0.mk A40
 clear A40
 by_cases c5 : t122 < 0
 ·rw [if_pos c5] at H
  have c5b0 : decide (t122 < 0) = true := decide_eq_true c5
  clear c5
  obtain rfl := Option.some.inj H
  go_enter Try.func6, Try.ntmps6
  go_wp2_with (first | ((with_reducible refine gate_dst (N := 3) rfl ?_); refine bx 3 #[.slice A0_0 l0_0.length c0_0, .slice A0_1 l0_1.length c0_1] 32 ?_; intro gb120 hg w6 hbox hb; have BK120 := Aside0.mk (hbox); have GW120 := ge HB hg; have GE120 := ge HB hg; replace HB := bs HB hb; clear hb hbox hg) | ((with_reducible refine gate_dst (N := 4) rfl ?_); refine bx 4 #[.slice A1_0 l1_0.length c1_0, .slice A1_1 l1_1.length c1_1] 32 ?_; intro gb121 hg w7 hbox hb; have BK121 := Aside0.mk (hbox); have GW121 := ge HB hg; have GE121 := ge HB hg; replace HB := bs HB hb; have NB120_121 := nl BK120 hg; have NB121_120 := nr BK120 hg; replace BK120 := bb BK120 hb; clear hb hbox hg; have hnb8 := NB120_121.out; have hnc8 := NB121_120.out; have hcz9_0 := bc0 BK120; have hcz9_1 := bc1 BK120; have hfz9_0 := blk_frozen BK120.out 0; have hfz9_1 := blk_frozen BK120.out 1) | ((with_reducible refine gate_callee (f := 18) rfl ?_); refine gl 21 Try.func18 #[.agg #[.slice A0_0 l0_0.length c0_0, .slice A0_1 l0_1.length c0_1], .int .i64 1048576] ?_; (with_reducible refine (laws_szVessels.calls _ _ l0_0 _ _ l0_1 1048576 t122 _ ?side1 ?side2 ?side3 ?side4 A4.out).mono ?_); (case side1 => exact ck HR0_0 HB); (case side2 => exact HC0_0.out); (case side3 => exact ck HR0_1 HB); (case side4 => exact HC0_1.out); rintro e w10 ⟨rfl, hb⟩; refine ⟨_, rfl, ?_⟩; replace BK120 := bb BK120 hb; replace BK121 := bb BK121 hb; replace HB := bs HB hb; (try clear hb)))
  go_ret
  exact ⟨by first | rfl | (simp [errW_none, errW_some] <;> rfl) | (simp [*, errW_none, errW_some] <;> rfl), bw HB⟩
 rw [if_neg c5] at H
 have c5b0 : decide (t122 < 0) = false := decide_eq_false c5
 clear c5
 replace H := Option.bind_eq_some_iff.mp H
 obtain ⟨t123, A110, H⟩ := H
 (try dsimp only at H)
 have A11 := Aside0.mk A110
 clear A110
 by_cases c12 : t123 < 0
 ·rw [if_pos c12] at H
  have c12b0 : decide (t123 < 0) = true := decide_eq_true c12
  clear c12
  obtain rfl := Option.some.inj H
  go_enter Try.func6, Try.ntmps6
  go_wp2_with (first | ((with_reducible refine gate_dst (N := 3) rfl ?_); refine bx 3 #[.slice A0_0 l0_0.length c0_0, .slice A0_1 l0_1.length c0_1] 32 ?_; intro gb120 hg w13 hbox hb; have BK120 := Aside0.mk (hbox); have GW120 := ge HB hg; have GE120 := ge HB hg; replace HB := bs HB hb; clear hb hbox hg) | ((with_reducible refine gate_dst (N := 4) rfl ?_); refine bx 4 #[.slice A1_0 l1_0.length c1_0, .slice A1_1 l1_1.length c1_1] 32 ?_; intro gb121 hg w14 hbox hb; have BK121 := Aside0.mk (hbox); have GW121 := ge HB hg; have GE121 := ge HB hg; replace HB := bs HB hb; have NB120_121 := nl BK120 hg; have NB121_120 := nr BK120 hg; replace BK120 := bb BK120 hb; clear hb hbox hg; have hnb15 := NB120_121.out; have hnc15 := NB121_120.out; have hcz16_0 := bc0 BK120; have hcz16_1 := bc1 BK120; have hfz16_0 := blk_frozen BK120.out 0; have hfz16_1 := blk_frozen BK120.out 1) | ((with_reducible refine gate_callee (f := 18) rfl ?_); refine gl 21 Try.func18 #[.agg #[.slice A0_0 l0_0.length c0_0, .slice A0_1 l0_1.length c0_1], .int .i64 1048576] ?_; (with_reducible refine (laws_szVessels.calls _ _ l0_0 _ _ l0_1 1048576 t122 _ ?side1 ?side2 ?side3 ?side4 A4.out).mono ?_); (case side1 => exact ck HR0_0 HB); (case side2 => exact HC0_0.out); (case side3 => exact ck HR0_1 HB); (case side4 => exact HC0_1.out); rintro e w17 ⟨rfl, hb⟩; refine ⟨_, rfl, ?_⟩; replace BK120 := bb BK120 hb; replace BK121 := bb BK121 hb; replace HB := bs HB hb; (try clear hb); have hcz18_0 := bc0 BK121; have hcz18_1 := bc1 BK121; have hfz18_0 := blk_frozen BK121.out 0; have hfz18_1 := blk_frozen BK121.out 1) | ((with_reducible refine gate_callee (f := 18) rfl ?_); refine gl 26 Try.func18 #[.agg #[.slice A1_0 l1_0.length c1_0, .slice A1_1 l1_1.length c1_1], .int .i64 t122] ?_; (with_reducible refine (laws_szVessels.calls _ _ l1_0 _ _ l1_1 t122 t123 _ ?side1 ?side2 ?side3 ?side4 A11.out).mono ?_); (case side1 => exact ck HR1_0 HB); (case side2 => exact HC1_0.out); (case side3 => exact ck HR1_1 HB); (case side4 => exact HC1_1.out); rintro e w19 ⟨rfl, hb⟩; refine ⟨_, rfl, ?_⟩; replace BK120 := bb BK120 hb; replace BK121 := bb BK121 hb; replace HB := bs HB hb; (try clear hb)))
  go_ret
  exact ⟨by first | rfl | (simp [errW_none, errW_some] <;> rfl) | (simp [*, errW_none, errW_some] <;> rfl), bw HB⟩
 rw [if_neg c12] at H
 have c12b0 : decide (t123 < 0) = false := decide_eq_false c12
 clear c12
 replace H := Option.bind_eq_some_iff.mp H
 obtain ⟨⟨t124, t127⟩, A200, H⟩ := H
 (try dsimp only at H)
 have A20 := Aside0.mk A200
 clear A200
 replace H := Option.bind_eq_some_iff.mp H
 obtain ⟨⟨t130, t133⟩, A210, H⟩ := H
 (try dsimp only at H)
 have A21 := Aside0.mk A210
 clear A210
 replace H := Option.bind_eq_some_iff.mp H
 obtain ⟨⟨t136, t139⟩, A220, H⟩ := H
 (try dsimp only at H)
 have A22 := Aside0.mk A220
 clear A220
 replace H := Option.bind_eq_some_iff.mp H
 obtain ⟨⟨t140, t143⟩, A230, H⟩ := H
 (try dsimp only at H)
 have A23 := Aside0.mk A230
 clear A230
 replace H := Option.bind_eq_some_iff.mp H
 obtain ⟨⟨t147, t150⟩, A240, H⟩ := H
 (try dsimp only at H)
 have A24 := Aside0.mk A240
 clear A240
 replace H := Option.bind_eq_some_iff.mp H
 obtain ⟨⟨t154, t157⟩, A250, H⟩ := H
 (try dsimp only at H)
 have A25 := Aside0.mk A250
 clear A250
 have HC26 := Aside0.mk H
 clear H
 go_enter Try.func6, Try.ntmps6
 try go_wp2_with (first | ((with_reducible refine gate_dst (N := 3) rfl ?_); refine bx 3 #[.slice A0_0 l0_0.length c0_0, .slice A0_1 l0_1.length c0_1] 32 ?_; intro gb120 hg w27 hbox hb; have BK120 := Aside0.mk (hbox); have GW120 := ge HB hg; have GE120 := ge HB hg; replace HB := bs HB hb; clear hb hbox hg) | ((with_reducible refine gate_dst (N := 4) rfl ?_); refine bx 4 #[.slice A1_0 l1_0.length c1_0, .slice A1_1 l1_1.length c1_1] 32 ?_; intro gb121 hg w28 hbox hb; have BK121 := Aside0.mk (hbox); have GW121 := ge HB hg; have GE121 := ge HB hg; replace HB := bs HB hb; have NB120_121 := nl BK120 hg; have NB121_120 := nr BK120 hg; replace BK120 := bb BK120 hb; clear hb hbox hg; have hnb29 := NB120_121.out; have hnc29 := NB121_120.out; have hcz30_0 := bc0 BK120; have hcz30_1 := bc1 BK120; have hfz30_0 := blk_frozen BK120.out 0; have hfz30_1 := blk_frozen BK120.out 1) | ((with_reducible refine gate_callee (f := 18) rfl ?_); refine gl 21 Try.func18 #[.agg #[.slice A0_0 l0_0.length c0_0, .slice A0_1 l0_1.length c0_1], .int .i64 1048576] ?_; (with_reducible refine (laws_szVessels.calls _ _ l0_0 _ _ l0_1 1048576 t122 _ ?side1 ?side2 ?side3 ?side4 A4.out).mono ?_); (case side1 => exact ck HR0_0 HB); (case side2 => exact HC0_0.out); (case side3 => exact ck HR0_1 HB); (case side4 => exact HC0_1.out); rintro e w31 ⟨rfl, hb⟩; refine ⟨_, rfl, ?_⟩; replace BK120 := bb BK120 hb; replace BK121 := bb BK121 hb; replace HB := bs HB hb; (try clear hb); have hcz32_0 := bc0 BK121; have hcz32_1 := bc1 BK121; have hfz32_0 := blk_frozen BK121.out 0; have hfz32_1 := blk_frozen BK121.out 1) | ((with_reducible refine gate_callee (f := 18) rfl ?_); refine gl 26 Try.func18 #[.agg #[.slice A1_0 l1_0.length c1_0, .slice A1_1 l1_1.length c1_1], .int .i64 t122] ?_; (with_reducible refine (laws_szVessels.calls _ _ l1_0 _ _ l1_1 t122 t123 _ ?side1 ?side2 ?side3 ?side4 A11.out).mono ?_); (case side1 => exact ck HR1_0 HB); (case side2 => exact HC1_0.out); (case side3 => exact ck HR1_1 HB); (case side4 => exact HC1_1.out); rintro e w33 ⟨rfl, hb⟩; refine ⟨_, rfl, ?_⟩; replace BK120 := bb BK120 hb; replace BK121 := bb BK121 hb; replace HB := bs HB hb; (try clear hb)))
 replace BK120 := Aside0.mk (blk_drew BK120.out)
 replace BK121 := Aside0.mk (blk_drew BK121.out)
 replace HB := Aside0.mk (below_drew1 HB.out)
 refine start_ (n := 11) (S := fun w' => w'.cell? ⟨gb120, 0, none⟩ = some (.slice A0_0 l0_0.length c0_0) ∧ w'.cell? ⟨gb120, 1, none⟩ = some (.slice A0_1 l0_1.length c0_1) ∧ w'.cell? ⟨gb121, 0, none⟩ = some (.slice A1_0 l1_0.length c1_0) ∧ w'.cell? ⟨gb121, 1, none⟩ = some (.slice A1_1 l1_1.length c1_1)) (ds := []) (bl 11 0) (by kernel_rfl) rfl rfl ⟨bc0 BK120, bc1 BK120, bc0 BK121, bc1 BK121⟩ (fun hHeld => ?_); refine with_tabW laws_FnExactPlanTo.tab8 laws_FnExactPlanTo.bits8 (fun HT_ HW_ => ?_)
 generalize w33.drew = w34 at BK120 BK121 HB hHeld ⊢
 refine pu 4 34 (bl 11 16) HT_.out (v := ?_) (a' := ?_) ?_ ?_ ?_
 rotate_left; (intro w'; go_simp; with_reducible rfl); rotate_left; (simp only [sqa, sqb, sqc, sqd, i64_w, i32_w]; rfl)
 refine tk 0 30 (bl 11 17) HT_.out HW_.out hHeld (v := ?_) (a' := ?_) ?_ ?_ ?_
 rotate_left; (rintro w' ⟨s0, s1, s2, s3⟩; go_simp; with_reducible rfl); rotate_left; (simp only [sqa, sqb, sqc, sqd, i64_w, i32_w]; rfl)
 refine tk 2 32 (bl 11 21) HT_.out HW_.out hHeld (v := ?_) (a' := ?_) ?_ ?_ ?_
 rotate_left; (rintro w' ⟨s0, s1, s2, s3⟩; go_simp; with_reducible rfl); rotate_left; (simp only [sqa, sqb, sqc, sqd, i64_w, i32_w]; rfl)
 refine on 1 31 (bl 11 23) HT_.out (fun K hK => ?_)
 refine gs Try.func20 #[.agg #[.slice A0_0 l0_0.length c0_0, .slice A0_1 l0_1.length c0_1]] ?_
 with_reducible refine (laws_toVessels.calls k _ _ l0_0 _ _ l0_1 t124 t127 _ ?side1 ?side2 ?side3 ?side4 A20.out).mono ?_
 (case side1 => exact ck HR0_0 HB)
 (case side2 => exact HC0_0.out)
 (case side3 => exact ck HR0_1 HB)
 (case side4 => exact HC0_1.out)
 rintro e w35 ⟨v125, v128, rfl, ho0, ho1, hb⟩
 refine ⟨_, rfl, ?_⟩
 have HO126 := lo ho0 HB
 have HO129 := lo ho1 HB
 replace BK120 := bb BK120 hb
 replace BK121 := bb BK121 hb
 replace HB := bs HB hb
 (try clear hb); (try clear hb2); (try clear hk); (try clear hi); (try clear ho0); (try clear ho1)
 refine hK.out _ _ ⟨bc0 BK120, bc1 BK120, bc0 BK121, bc1 BK121⟩ (fun hHeld => ?_)
 clear hK K
 refine norm_ (a' := ?_) ?_ ?_; rotate_left; (show Act.put _ (some 31) _ = _; simp only [sqa, sqb, sqc, sqd, i64_w, i32_w]; rfl)
 refine on 3 33 (bl 11 31) HT_.out (fun K hK => ?_)
 refine gs Try.func20 #[.agg #[.slice A1_0 l1_0.length c1_0, .slice A1_1 l1_1.length c1_1]] ?_
 with_reducible refine (laws_toVessels.calls k _ _ l1_0 _ _ l1_1 t130 t133 _ ?side1 ?side2 ?side3 ?side4 A21.out).mono ?_
 (case side1 => exact ck HR1_0 HB)
 (case side2 => exact HC1_0.out)
 (case side3 => exact ck HR1_1 HB)
 (case side4 => exact HC1_1.out)
 rintro e w36 ⟨v131, v134, rfl, ho0, ho1, hb⟩
 refine ⟨_, rfl, ?_⟩
 have HO132 := Aside0.mk (Kd.R_lower (Kd.R_new' (Kd.R_new' ho0 (Kd.R_lt (rk HO126))) (Kd.R_lt (rk HO129))) (below_size (bw HB)))
 have HO135 := Aside0.mk (Kd.R_lower (Kd.R_new' (Kd.R_new' ho1 (Kd.R_lt (rk HO126))) (Kd.R_lt (rk HO129))) (below_size (bw HB)))
 replace HO126 := Aside0.mk (Kd.R_mono (Kd.R_told (Kd.R_told (Kd.R_old (rk HO126) hb) (Kd.R_base ho0)) (Kd.R_base ho1)) (fun _ h_ => h_.1))
 replace HO129 := Aside0.mk (Kd.R_mono (Kd.R_told (Kd.R_told (Kd.R_old (rk HO129) hb) (Kd.R_base ho0)) (Kd.R_base ho1)) (fun _ h_ => h_.1))
 replace BK120 := bb BK120 hb
 replace BK121 := bb BK121 hb
 replace HB := bs HB hb
 (try clear hb); (try clear hb2); (try clear hk); (try clear hi); (try clear ho0); (try clear ho1)
 obtain ⟨Ao37, co37, eo37⟩ := Kd.R_slice HO126.out
 (first | subst eo37 | (injection eo37 with f1_ f2_ f3_; have f4_ := f1_.symm; have f5_ := f3_.symm; clear f1_ f2_ f3_; subst f4_; subst f5_))
 obtain ⟨Ao38, co38, eo38⟩ := Kd.R_slice HO129.out
 (first | subst eo38 | (injection eo38 with f1_ f2_ f3_; have f4_ := f1_.symm; have f5_ := f3_.symm; clear f1_ f2_ f3_; subst f4_; subst f5_))
 obtain ⟨Ao39, co39, eo39⟩ := Kd.R_slice HO132.out
 (first | subst eo39 | (injection eo39 with f1_ f2_ f3_; have f4_ := f1_.symm; have f5_ := f3_.symm; clear f1_ f2_ f3_; subst f4_; subst f5_))
 obtain ⟨Ao40, co40, eo40⟩ := Kd.R_slice HO135.out
 (first | subst eo40 | (injection eo40 with f1_ f2_ f3_; have f4_ := f1_.symm; have f5_ := f3_.symm; clear f1_ f2_ f3_; subst f4_; subst f5_))
 refine hK.out _ _ ⟨bc0 BK120, bc1 BK120, bc0 BK121, bc1 BK121⟩ (fun hHeld => ?_)
 clear hK K
 refine norm_ (a' := ?_) ?_ ?_; rotate_left; (show Act.put _ (some 33) _ = _; simp only [sqa, sqb, sqc, sqd, i64_w, i32_w]; rfl)
 refine on 5 35 (bl 11 63) HT_.out (fun K hK => ?_)
 refine gs Try.func24 #[.agg #[.slice Ao37 t124.length co37, .slice Ao38 t127.length co38], .agg #[.slice Ao39 t130.length co39, .slice Ao40 t133.length co40], .bool a2] ?_
 with_reducible refine (spec_PlanTo.calls k _ _ t124 _ _ t127 _ _ t130 _ _ t133 a2 t136 t139 _ ?side1 ?side2 ?side3 ?side4 ?side5 ?side6 ?side7 ?side8 A22.out).mono ?_
 (case side1 => exact cr HO126)
 (case side2 => exact (Kd.R_reads' HO126.out).2.1)
 (case side3 => exact cr HO129)
 (case side4 => exact (Kd.R_reads' HO129.out).2.1)
 (case side5 => exact cr HO132)
 (case side6 => exact (Kd.R_reads' HO132.out).2.1)
 (case side7 => exact cr HO135)
 (case side8 => exact (Kd.R_reads' HO135.out).2.1)
 rintro e w41 ⟨v137, rfl, ho0, hb⟩
 refine ⟨_, rfl, ?_⟩
 replace HO126 := rb HO126 hb
 replace HO129 := rb HO129 hb
 replace HO132 := rb HO132 hb
 replace HO135 := rb HO135 hb
 have HO138 := lo ho0 HB
 replace BK120 := bb BK120 hb
 replace BK121 := bb BK121 hb
 replace HB := bs HB hb
 (try clear hb); (try clear hb2); (try clear hk); (try clear hi); (try clear ho0)
 refine hK.out _ _ ⟨bc0 BK120, bc1 BK120, bc0 BK121, bc1 BK121⟩ (fun hHeld => ?_)
 clear hK K
 refine norm_ (a' := ?_) ?_ ?_; rotate_left; (show Act.put _ (some 35) _ = _; simp only [sqa, sqb, sqc, sqd, i64_w, i32_w]; rfl)
 refine pu 6 29 (bl 11 127) HT_.out (v := ?_) (a' := ?_) ?_ ?_ ?_
 rotate_left; (intro w'; go_simp; with_reducible rfl); rotate_left; (simp only [sqa, sqb, sqc, sqd, i64_w, i32_w]; rfl)
 refine pu 7 36 (bl 11 255) HT_.out (v := ?_) (a' := ?_) ?_ ?_ ?_
 rotate_left; (intro w'; go_simp; with_reducible rfl); rotate_left; (simp only [sqa, sqb, sqc, sqd, i64_w, i32_w]; rfl)
 refine pu 8 37 (bl 11 511) HT_.out (v := ?_) (a' := ?_) ?_ ?_ ?_
 rotate_left; (intro w'; go_simp; with_reducible rfl); rotate_left; (simp only [sqa, sqb, sqc, sqd, i64_w, i32_w]; rfl)
 refine pu 9 8 (bl 11 1023) HT_.out (v := ?_) (a' := ?_) ?_ ?_ ?_
 rotate_left; (intro w'; go_simp; with_reducible rfl); rotate_left; (simp only [sqa, sqb, sqc, sqd, i64_w, i32_w]; rfl)
 refine pu 10 9 (bl 11 2047) HT_.out (v := ?_) (a' := ?_) ?_ ?_ ?_
 rotate_left; (intro w'; go_simp; with_reducible rfl); rotate_left; (simp only [sqa, sqb, sqc, sqd, i64_w, i32_w]; rfl)
 refine done_ (done_of HT_.out (by kernel_rfl)) ?_
 have hcz42_0 := bc0 BK120
 have hcz42_1 := bc1 BK120
 have hfz42_0 := blk_frozen BK120.out 0
 have hfz42_1 := blk_frozen BK120.out 1
 go_upto_region 12 with (first | ((with_reducible refine gate_callee (f := 20) rfl ?_); refine gl 39 Try.func20 #[.agg #[.slice A0_0 l0_0.length c0_0, .slice A0_1 l0_1.length c0_1]] ?_; (with_reducible refine (laws_toVessels.calls k _ _ l0_0 _ _ l0_1 t140 t143 _ ?side1 ?side2 ?side3 ?side4 A23.out).mono ?_); (case side1 => exact ck HR0_0 HB); (case side2 => exact HC0_0.out); (case side3 => exact ck HR0_1 HB); (case side4 => exact HC0_1.out); rintro e w43 ⟨v141, v144, rfl, ho0, ho1, hb⟩; refine ⟨_, rfl, ?_⟩; replace HO138 := rb HO138 hb; have HO142 := Aside0.mk (Kd.R_lower (Kd.R_new' (Kd.R_new' (Kd.R_new' (Kd.R_new' ho0 (Kd.R_lt (rk HO126))) (Kd.R_lt (rk HO129))) (Kd.R_lt (rk HO132))) (Kd.R_lt (rk HO135))) (below_size (bw HB))); have HO145 := Aside0.mk (Kd.R_lower (Kd.R_new' (Kd.R_new' (Kd.R_new' (Kd.R_new' ho1 (Kd.R_lt (rk HO126))) (Kd.R_lt (rk HO129))) (Kd.R_lt (rk HO132))) (Kd.R_lt (rk HO135))) (below_size (bw HB))); replace HO126 := Aside0.mk (Kd.R_mono (Kd.R_told (Kd.R_told (Kd.R_old (rk HO126) hb) (Kd.R_base ho0)) (Kd.R_base ho1)) (fun _ h_ => h_.1)); replace HO129 := Aside0.mk (Kd.R_mono (Kd.R_told (Kd.R_told (Kd.R_old (rk HO129) hb) (Kd.R_base ho0)) (Kd.R_base ho1)) (fun _ h_ => h_.1)); replace HO132 := Aside0.mk (Kd.R_mono (Kd.R_told (Kd.R_told (Kd.R_old (rk HO132) hb) (Kd.R_base ho0)) (Kd.R_base ho1)) (fun _ h_ => h_.1)); replace HO135 := Aside0.mk (Kd.R_mono (Kd.R_told (Kd.R_told (Kd.R_old (rk HO135) hb) (Kd.R_base ho0)) (Kd.R_base ho1)) (fun _ h_ => h_.1)); replace BK120 := bb BK120 hb; replace BK121 := bb BK121 hb; replace HB := bs HB hb; (try clear hb); (try clear ho0); (try clear ho1)) | ((with_reducible refine gate_dst (N := 10) rfl ?_); refine bx 10 #[.slice none 0 0, .slice none 0 0] 35 ?_; intro gb146 hg w44 hbox hb; replace HO126 := rb HO126 hb; replace HO129 := rb HO129 hb; replace HO132 := rb HO132 hb; replace HO135 := rb HO135 hb; replace HO138 := rb HO138 hb; replace HO142 := rb HO142 hb; replace HO145 := rb HO145 hb; have BK146 := Aside0.mk (hbox); have GW146 := ge HB hg; have GE146 := ge HB hg; replace HB := bs HB hb; have NB120_146 := nl BK120 hg; have NB146_120 := nr BK120 hg; replace BK120 := bb BK120 hb; have NB121_146 := nl BK121 hg; have NB146_121 := nr BK121 hg; replace BK121 := bb BK121 hb; clear hb hbox hg; obtain ⟨Ao45, co45, eo45⟩ := Kd.R_slice HO142.out; subst eo45; have hnb46 := NB146_120.out; have hnc46 := NB120_146.out; have hnb47 := NB146_121.out; have hnc47 := NB121_146.out; have hcz48_0 := bc0 BK146; have hcz48_1 := bc1 BK146; have hfz48_0 := blk_frozen BK146.out 0; have hfz48_1 := blk_frozen BK146.out 1; obtain ⟨Ao49, co49, eo49⟩ := Kd.R_slice HO145.out; subst eo49; have hcz50_0 := bc0 BK121; have hcz50_1 := bc1 BK121; have hfz50_0 := blk_frozen BK121.out 0; have hfz50_1 := blk_frozen BK121.out 1) | ((with_reducible refine gate_callee (f := 20) rfl ?_); refine gl 41 Try.func20 #[.agg #[.slice A1_0 l1_0.length c1_0, .slice A1_1 l1_1.length c1_1]] ?_; (with_reducible refine (laws_toVessels.calls k _ _ l1_0 _ _ l1_1 t147 t150 _ ?side1 ?side2 ?side3 ?side4 A24.out).mono ?_); (case side1 => exact Kd.C_below HR1_0.out (bw HB)); (case side2 => exact HC1_0.out); (case side3 => exact Kd.C_below HR1_1.out (bw HB)); (case side4 => exact HC1_1.out); rintro e w51 ⟨v148, v151, rfl, ho0, ho1, hb⟩; refine ⟨_, rfl, ?_⟩; replace HO138 := Aside0.mk (Kd.R_below (by exact (Kd.R_mono (Kd.R_far (p := ⟨gb146, 1, none⟩) (Kd.R_far (p := ⟨gb146, 0, none⟩) (Kd.R_types HO138.out BK146.out (by decide)) (fun _ hk => hk.2) (.slice Ao45 t140.length co45)) (fun _ hk => hk.2) (.slice Ao49 t143.length co49)) (fun _ h_ => h_.1))) hb); have HO149 := Aside0.mk (Kd.R_lower (Kd.R_new' (Kd.R_new' (Kd.R_new' (Kd.R_new' (Kd.R_new' (Kd.R_new' ho0 (Kd.R_lt (by exact (Kd.R_mono (Kd.R_far (p := ⟨gb146, 1, none⟩) (Kd.R_far (p := ⟨gb146, 0, none⟩) (Kd.R_types HO126.out BK146.out (by decide)) (fun _ hk => hk.2) (.slice Ao45 t140.length co45)) (fun _ hk => hk.2) (.slice Ao49 t143.length co49)) (fun _ h_ => h_.1))))) (Kd.R_lt (by exact (Kd.R_mono (Kd.R_far (p := ⟨gb146, 1, none⟩) (Kd.R_far (p := ⟨gb146, 0, none⟩) (Kd.R_types HO129.out BK146.out (by decide)) (fun _ hk => hk.2) (.slice Ao45 t140.length co45)) (fun _ hk => hk.2) (.slice Ao49 t143.length co49)) (fun _ h_ => h_.1))))) (Kd.R_lt (by exact (Kd.R_mono (Kd.R_far (p := ⟨gb146, 1, none⟩) (Kd.R_far (p := ⟨gb146, 0, none⟩) (Kd.R_types HO132.out BK146.out (by decide)) (fun _ hk => hk.2) (.slice Ao45 t140.length co45)) (fun _ hk => hk.2) (.slice Ao49 t143.length co49)) (fun _ h_ => h_.1))))) (Kd.R_lt (by exact (Kd.R_mono (Kd.R_far (p := ⟨gb146, 1, none⟩) (Kd.R_far (p := ⟨gb146, 0, none⟩) (Kd.R_types HO135.out BK146.out (by decide)) (fun _ hk => hk.2) (.slice Ao45 t140.length co45)) (fun _ hk => hk.2) (.slice Ao49 t143.length co49)) (fun _ h_ => h_.1))))) (Kd.R_lt (by exact (Kd.R_mono (Kd.R_far (p := ⟨gb146, 1, none⟩) (Kd.R_far (p := ⟨gb146, 0, none⟩) (Kd.R_types HO142.out BK146.out (by decide)) (fun _ hk => hk.2) (.slice Ao45 t140.length co45)) (fun _ hk => hk.2) (.slice Ao49 t143.length co49)) (fun _ h_ => h_.1))))) (Kd.R_lt (by exact (Kd.R_mono (Kd.R_far (p := ⟨gb146, 1, none⟩) (Kd.R_far (p := ⟨gb146, 0, none⟩) (Kd.R_types HO145.out BK146.out (by decide)) (fun _ hk => hk.2) (.slice Ao45 t140.length co45)) (fun _ hk => hk.2) (.slice Ao49 t143.length co49)) (fun _ h_ => h_.1))))) (below_size (bw HB))); have HO152 := Aside0.mk (Kd.R_lower (Kd.R_new' (Kd.R_new' (Kd.R_new' (Kd.R_new' (Kd.R_new' (Kd.R_new' ho1 (Kd.R_lt (by exact (Kd.R_mono (Kd.R_far (p := ⟨gb146, 1, none⟩) (Kd.R_far (p := ⟨gb146, 0, none⟩) (Kd.R_types HO126.out BK146.out (by decide)) (fun _ hk => hk.2) (.slice Ao45 t140.length co45)) (fun _ hk => hk.2) (.slice Ao49 t143.length co49)) (fun _ h_ => h_.1))))) (Kd.R_lt (by exact (Kd.R_mono (Kd.R_far (p := ⟨gb146, 1, none⟩) (Kd.R_far (p := ⟨gb146, 0, none⟩) (Kd.R_types HO129.out BK146.out (by decide)) (fun _ hk => hk.2) (.slice Ao45 t140.length co45)) (fun _ hk => hk.2) (.slice Ao49 t143.length co49)) (fun _ h_ => h_.1))))) (Kd.R_lt (by exact (Kd.R_mono (Kd.R_far (p := ⟨gb146, 1, none⟩) (Kd.R_far (p := ⟨gb146, 0, none⟩) (Kd.R_types HO132.out BK146.out (by decide)) (fun _ hk => hk.2) (.slice Ao45 t140.length co45)) (fun _ hk => hk.2) (.slice Ao49 t143.length co49)) (fun _ h_ => h_.1))))) (Kd.R_lt (by exact (Kd.R_mono (Kd.R_far (p := ⟨gb146, 1, none⟩) (Kd.R_far (p := ⟨gb146, 0, none⟩) (Kd.R_types HO135.out BK146.out (by decide)) (fun _ hk => hk.2) (.slice Ao45 t140.length co45)) (fun _ hk => hk.2) (.slice Ao49 t143.length co49)) (fun _ h_ => h_.1))))) (Kd.R_lt (by exact (Kd.R_mono (Kd.R_far (p := ⟨gb146, 1, none⟩) (Kd.R_far (p := ⟨gb146, 0, none⟩) (Kd.R_types HO142.out BK146.out (by decide)) (fun _ hk => hk.2) (.slice Ao45 t140.length co45)) (fun _ hk => hk.2) (.slice Ao49 t143.length co49)) (fun _ h_ => h_.1))))) (Kd.R_lt (by exact (Kd.R_mono (Kd.R_far (p := ⟨gb146, 1, none⟩) (Kd.R_far (p := ⟨gb146, 0, none⟩) (Kd.R_types HO145.out BK146.out (by decide)) (fun _ hk => hk.2) (.slice Ao45 t140.length co45)) (fun _ hk => hk.2) (.slice Ao49 t143.length co49)) (fun _ h_ => h_.1))))) (below_size (bw HB))); replace HO126 := Aside0.mk (Kd.R_mono (Kd.R_told (Kd.R_told (Kd.R_old (by exact (Kd.R_mono (Kd.R_far (p := ⟨gb146, 1, none⟩) (Kd.R_far (p := ⟨gb146, 0, none⟩) (Kd.R_types HO126.out BK146.out (by decide)) (fun _ hk => hk.2) (.slice Ao45 t140.length co45)) (fun _ hk => hk.2) (.slice Ao49 t143.length co49)) (fun _ h_ => h_.1))) hb) (Kd.R_base ho0)) (Kd.R_base ho1)) (fun _ h_ => h_.1)); replace HO129 := Aside0.mk (Kd.R_mono (Kd.R_told (Kd.R_told (Kd.R_old (by exact (Kd.R_mono (Kd.R_far (p := ⟨gb146, 1, none⟩) (Kd.R_far (p := ⟨gb146, 0, none⟩) (Kd.R_types HO129.out BK146.out (by decide)) (fun _ hk => hk.2) (.slice Ao45 t140.length co45)) (fun _ hk => hk.2) (.slice Ao49 t143.length co49)) (fun _ h_ => h_.1))) hb) (Kd.R_base ho0)) (Kd.R_base ho1)) (fun _ h_ => h_.1)); replace HO132 := Aside0.mk (Kd.R_mono (Kd.R_told (Kd.R_told (Kd.R_old (by exact (Kd.R_mono (Kd.R_far (p := ⟨gb146, 1, none⟩) (Kd.R_far (p := ⟨gb146, 0, none⟩) (Kd.R_types HO132.out BK146.out (by decide)) (fun _ hk => hk.2) (.slice Ao45 t140.length co45)) (fun _ hk => hk.2) (.slice Ao49 t143.length co49)) (fun _ h_ => h_.1))) hb) (Kd.R_base ho0)) (Kd.R_base ho1)) (fun _ h_ => h_.1)); replace HO135 := Aside0.mk (Kd.R_mono (Kd.R_told (Kd.R_told (Kd.R_old (by exact (Kd.R_mono (Kd.R_far (p := ⟨gb146, 1, none⟩) (Kd.R_far (p := ⟨gb146, 0, none⟩) (Kd.R_types HO135.out BK146.out (by decide)) (fun _ hk => hk.2) (.slice Ao45 t140.length co45)) (fun _ hk => hk.2) (.slice Ao49 t143.length co49)) (fun _ h_ => h_.1))) hb) (Kd.R_base ho0)) (Kd.R_base ho1)) (fun _ h_ => h_.1)); replace HO142 := Aside0.mk (Kd.R_mono (Kd.R_told (Kd.R_told (Kd.R_old (by exact (Kd.R_mono (Kd.R_far (p := ⟨gb146, 1, none⟩) (Kd.R_far (p := ⟨gb146, 0, none⟩) (Kd.R_types HO142.out BK146.out (by decide)) (fun _ hk => hk.2) (.slice Ao45 t140.length co45)) (fun _ hk => hk.2) (.slice Ao49 t143.length co49)) (fun _ h_ => h_.1))) hb) (Kd.R_base ho0)) (Kd.R_base ho1)) (fun _ h_ => h_.1)); replace HO145 := Aside0.mk (Kd.R_mono (Kd.R_told (Kd.R_told (Kd.R_old (by exact (Kd.R_mono (Kd.R_far (p := ⟨gb146, 1, none⟩) (Kd.R_far (p := ⟨gb146, 0, none⟩) (Kd.R_types HO145.out BK146.out (by decide)) (fun _ hk => hk.2) (.slice Ao45 t140.length co45)) (fun _ hk => hk.2) (.slice Ao49 t143.length co49)) (fun _ h_ => h_.1))) hb) (Kd.R_base ho0)) (Kd.R_base ho1)) (fun _ h_ => h_.1)); replace BK120 := bb BK120 hb; replace BK121 := bb BK121 hb; replace BK146 := Aside0.mk (blk_below (g := gb146) (o := .cells #[.slice Ao45 t140.length co45, .slice Ao49 t143.length co49] 35 (0, 0)) (by refine blk_put (cs := #[.slice Ao45 t140.length co45, .slice none 0 0]) ?_ 1 _ rfl; refine blk_put (cs := #[.slice none 0 0, .slice none 0 0]) ?_ 0 _ rfl; exact bk BK146) hb); replace HB := bs HB hb; (try clear hb); (try clear ho0); (try clear ho1)) | ((with_reducible refine gate_dst (N := 11) rfl ?_); refine bx 11 #[.slice none 0 0, .slice none 0 0] 35 ?_; intro gb153 hg w52 hbox hb; replace HO126 := rb HO126 hb; replace HO129 := rb HO129 hb; replace HO132 := rb HO132 hb; replace HO135 := rb HO135 hb; replace HO138 := rb HO138 hb; replace HO142 := rb HO142 hb; replace HO145 := rb HO145 hb; replace HO149 := rb HO149 hb; replace HO152 := rb HO152 hb; have BK153 := Aside0.mk (hbox); have GW153 := ge HB hg; have GE153 := ge HB hg; replace HB := bs HB hb; have NB120_153 := nl BK120 hg; have NB153_120 := nr BK120 hg; replace BK120 := bb BK120 hb; have NB121_153 := nl BK121 hg; have NB153_121 := nr BK121 hg; replace BK121 := bb BK121 hb; have NB146_153 := nl BK146 hg; have NB153_146 := nr BK146 hg; replace BK146 := bb BK146 hb; clear hb hbox hg; obtain ⟨Ao53, co53, eo53⟩ := Kd.R_slice HO149.out; subst eo53; have hnb54 := NB153_120.out; have hnc54 := NB120_153.out; have hnb55 := NB153_121.out; have hnc55 := NB121_153.out; have hnb56 := NB153_146.out; have hnc56 := NB146_153.out; have hcz57_0 := bc0 BK153; have hcz57_1 := bc1 BK153; have hfz57_0 := blk_frozen BK153.out 0; have hfz57_1 := blk_frozen BK153.out 1; obtain ⟨Ao58, co58, eo58⟩ := Kd.R_slice HO152.out; subst eo58; have hcz59_0 := bc0 BK146; have hcz59_1 := bc1 BK146; have hfz59_0 := blk_frozen BK146.out 0; have hfz59_1 := blk_frozen BK146.out 1) | ((with_reducible refine gate_callee (f := 25) rfl ?_); refine gl 46 Try.func25 #[.agg #[.slice Ao45 t140.length co45, .slice Ao49 t143.length co49], .agg #[.slice Ao53 t147.length co53, .slice Ao58 t150.length co58], .bool a2] ?_; (with_reducible refine (impl_PlanTo.calls k _ _ t140 _ _ t143 _ _ t147 _ _ t150 a2 t154 t157 _ ?side1 ?side2 ?side3 ?side4 ?side5 ?side6 ?side7 ?side8 A25.out).mono ?_); (case side1 => refine (Kd.R_reads' (e := 3) (base := w.heap.size) (ok := fun k_ => ((((((some k_ ≠ (.slice Ao49 t143.length co49 : Value).ownBlock ∧ some k_ ≠ (.slice Ao37 t124.length co37 : Value).ownBlock) ∧ some k_ ≠ (.slice Ao38 t127.length co38 : Value).ownBlock) ∧ some k_ ≠ (.slice Ao39 t130.length co39 : Value).ownBlock) ∧ some k_ ≠ (.slice Ao40 t133.length co40 : Value).ownBlock) ∧ some k_ ≠ (.slice Ao53 t147.length co53 : Value).ownBlock) ∧ some k_ ≠ (.slice Ao58 t150.length co58 : Value).ownBlock)) (n := t140.length) (c := co45) ?_).2.2; exact (by exact (Kd.R_mono (Kd.R_far (p := ⟨gb153, 1, none⟩) (Kd.R_far (p := ⟨gb153, 0, none⟩) (Kd.R_types HO142.out BK153.out (by decide)) (fun _ hk => hk.2) (.slice Ao53 t147.length co53)) (fun _ hk => hk.2) (.slice Ao58 t150.length co58)) (fun _ h_ => h_.1)))); (case side2 => exact (Kd.R_reads' HO142.out).2.1); (case side3 => refine (Kd.R_reads' (e := 3) (base := w.heap.size) (ok := fun k_ => ((((((some k_ ≠ (.slice Ao45 t140.length co45 : Value).ownBlock ∧ some k_ ≠ (.slice Ao37 t124.length co37 : Value).ownBlock) ∧ some k_ ≠ (.slice Ao38 t127.length co38 : Value).ownBlock) ∧ some k_ ≠ (.slice Ao39 t130.length co39 : Value).ownBlock) ∧ some k_ ≠ (.slice Ao40 t133.length co40 : Value).ownBlock) ∧ some k_ ≠ (.slice Ao53 t147.length co53 : Value).ownBlock) ∧ some k_ ≠ (.slice Ao58 t150.length co58 : Value).ownBlock)) (n := t143.length) (c := co49) ?_).2.2; exact (by exact (Kd.R_mono (Kd.R_far (p := ⟨gb153, 1, none⟩) (Kd.R_far (p := ⟨gb153, 0, none⟩) (Kd.R_types HO145.out BK153.out (by decide)) (fun _ hk => hk.2) (.slice Ao53 t147.length co53)) (fun _ hk => hk.2) (.slice Ao58 t150.length co58)) (fun _ h_ => h_.1)))); (case side4 => exact (Kd.R_reads' HO145.out).2.1); (case side5 => refine (Kd.R_reads' (e := 3) (base := w.heap.size) (ok := fun k_ => ((((((some k_ ≠ (.slice Ao58 t150.length co58 : Value).ownBlock ∧ some k_ ≠ (.slice Ao37 t124.length co37 : Value).ownBlock) ∧ some k_ ≠ (.slice Ao38 t127.length co38 : Value).ownBlock) ∧ some k_ ≠ (.slice Ao39 t130.length co39 : Value).ownBlock) ∧ some k_ ≠ (.slice Ao40 t133.length co40 : Value).ownBlock) ∧ some k_ ≠ (.slice Ao45 t140.length co45 : Value).ownBlock) ∧ some k_ ≠ (.slice Ao49 t143.length co49 : Value).ownBlock)) (n := t147.length) (c := co53) ?_).2.2; exact (by exact (Kd.R_mono (Kd.R_far (p := ⟨gb153, 1, none⟩) (Kd.R_far (p := ⟨gb153, 0, none⟩) (Kd.R_types HO149.out BK153.out (by decide)) (fun _ hk => hk.2) (.slice Ao53 t147.length co53)) (fun _ hk => hk.2) (.slice Ao58 t150.length co58)) (fun _ h_ => h_.1)))); (case side6 => exact (Kd.R_reads' HO149.out).2.1); (case side7 => refine (Kd.R_reads' (e := 3) (base := w.heap.size) (ok := fun k_ => ((((((some k_ ≠ (.slice Ao53 t147.length co53 : Value).ownBlock ∧ some k_ ≠ (.slice Ao37 t124.length co37 : Value).ownBlock) ∧ some k_ ≠ (.slice Ao38 t127.length co38 : Value).ownBlock) ∧ some k_ ≠ (.slice Ao39 t130.length co39 : Value).ownBlock) ∧ some k_ ≠ (.slice Ao40 t133.length co40 : Value).ownBlock) ∧ some k_ ≠ (.slice Ao45 t140.length co45 : Value).ownBlock) ∧ some k_ ≠ (.slice Ao49 t143.length co49 : Value).ownBlock)) (n := t150.length) (c := co58) ?_).2.2; exact (by exact (Kd.R_mono (Kd.R_far (p := ⟨gb153, 1, none⟩) (Kd.R_far (p := ⟨gb153, 0, none⟩) (Kd.R_types HO152.out BK153.out (by decide)) (fun _ hk => hk.2) (.slice Ao53 t147.length co53)) (fun _ hk => hk.2) (.slice Ao58 t150.length co58)) (fun _ h_ => h_.1)))); (case side8 => exact (Kd.R_reads' HO152.out).2.1); rintro e w60 ⟨v155, rfl, ho0, hb⟩; refine ⟨_, rfl, ?_⟩; replace HO126 := Aside0.mk (Kd.R_below (by exact (Kd.R_mono (Kd.R_far (p := ⟨gb153, 1, none⟩) (Kd.R_far (p := ⟨gb153, 0, none⟩) (Kd.R_types HO126.out BK153.out (by decide)) (fun _ hk => hk.2) (.slice Ao53 t147.length co53)) (fun _ hk => hk.2) (.slice Ao58 t150.length co58)) (fun _ h_ => h_.1))) hb); replace HO129 := Aside0.mk (Kd.R_below (by exact (Kd.R_mono (Kd.R_far (p := ⟨gb153, 1, none⟩) (Kd.R_far (p := ⟨gb153, 0, none⟩) (Kd.R_types HO129.out BK153.out (by decide)) (fun _ hk => hk.2) (.slice Ao53 t147.length co53)) (fun _ hk => hk.2) (.slice Ao58 t150.length co58)) (fun _ h_ => h_.1))) hb); replace HO132 := Aside0.mk (Kd.R_below (by exact (Kd.R_mono (Kd.R_far (p := ⟨gb153, 1, none⟩) (Kd.R_far (p := ⟨gb153, 0, none⟩) (Kd.R_types HO132.out BK153.out (by decide)) (fun _ hk => hk.2) (.slice Ao53 t147.length co53)) (fun _ hk => hk.2) (.slice Ao58 t150.length co58)) (fun _ h_ => h_.1))) hb); replace HO135 := Aside0.mk (Kd.R_below (by exact (Kd.R_mono (Kd.R_far (p := ⟨gb153, 1, none⟩) (Kd.R_far (p := ⟨gb153, 0, none⟩) (Kd.R_types HO135.out BK153.out (by decide)) (fun _ hk => hk.2) (.slice Ao53 t147.length co53)) (fun _ hk => hk.2) (.slice Ao58 t150.length co58)) (fun _ h_ => h_.1))) hb); replace HO142 := Aside0.mk (Kd.R_below (by exact (Kd.R_mono (Kd.R_far (p := ⟨gb153, 1, none⟩) (Kd.R_far (p := ⟨gb153, 0, none⟩) (Kd.R_types HO142.out BK153.out (by decide)) (fun _ hk => hk.2) (.slice Ao53 t147.length co53)) (fun _ hk => hk.2) (.slice Ao58 t150.length co58)) (fun _ h_ => h_.1))) hb); replace HO145 := Aside0.mk (Kd.R_below (by exact (Kd.R_mono (Kd.R_far (p := ⟨gb153, 1, none⟩) (Kd.R_far (p := ⟨gb153, 0, none⟩) (Kd.R_types HO145.out BK153.out (by decide)) (fun _ hk => hk.2) (.slice Ao53 t147.length co53)) (fun _ hk => hk.2) (.slice Ao58 t150.length co58)) (fun _ h_ => h_.1))) hb); replace HO149 := Aside0.mk (Kd.R_below (by exact (Kd.R_mono (Kd.R_far (p := ⟨gb153, 1, none⟩) (Kd.R_far (p := ⟨gb153, 0, none⟩) (Kd.R_types HO149.out BK153.out (by decide)) (fun _ hk => hk.2) (.slice Ao53 t147.length co53)) (fun _ hk => hk.2) (.slice Ao58 t150.length co58)) (fun _ h_ => h_.1))) hb); replace HO152 := Aside0.mk (Kd.R_below (by exact (Kd.R_mono (Kd.R_far (p := ⟨gb153, 1, none⟩) (Kd.R_far (p := ⟨gb153, 0, none⟩) (Kd.R_types HO152.out BK153.out (by decide)) (fun _ hk => hk.2) (.slice Ao53 t147.length co53)) (fun _ hk => hk.2) (.slice Ao58 t150.length co58)) (fun _ h_ => h_.1))) hb); have HO156 := Aside0.mk (Kd.R_lower (Kd.R_new' ho0 (Kd.R_lt (by exact (Kd.R_mono (Kd.R_far (p := ⟨gb153, 1, none⟩) (Kd.R_far (p := ⟨gb153, 0, none⟩) (Kd.R_types HO138.out BK153.out (by decide)) (fun _ hk => hk.2) (.slice Ao53 t147.length co53)) (fun _ hk => hk.2) (.slice Ao58 t150.length co58)) (fun _ h_ => h_.1))))) (below_size (bw HB))); replace HO138 := Aside0.mk (Kd.R_elder' (by exact (Kd.R_mono (Kd.R_far (p := ⟨gb153, 1, none⟩) (Kd.R_far (p := ⟨gb153, 0, none⟩) (Kd.R_types HO138.out BK153.out (by decide)) (fun _ hk => hk.2) (.slice Ao53 t147.length co53)) (fun _ hk => hk.2) (.slice Ao58 t150.length co58)) (fun _ h_ => h_.1))) (Kd.R_base ho0) hb); replace BK120 := bb BK120 hb; replace BK121 := bb BK121 hb; replace BK146 := bb BK146 hb; replace BK153 := Aside0.mk (blk_below (g := gb153) (o := .cells #[.slice Ao53 t147.length co53, .slice Ao58 t150.length co58] 35 (0, 0)) (by refine blk_put (cs := #[.slice Ao53 t147.length co53, .slice none 0 0]) ?_ 1 _ rfl; refine blk_put (cs := #[.slice none 0 0, .slice none 0 0]) ?_ 0 _ rfl; exact bk BK153) hb); replace HB := bs HB hb; (try clear hb); (try clear ho0)))
 (try simp only [Act.put, List.setIfInBounds_toArray, List.set_cons_zero, List.set_cons_succ])
 go_cut [57] (fun v57 wc => ∃ (kq : Nat) (x57_25 : Bool), v57 = .bool x57_25 ∧ Aside0 (laws_FnExactPlanTo.j0 kq a2 t136 t139 t154 t157 x57_25 l0_0 l0_1 l1_0 l1_1 t140 t143 t147 t150 = some r) ∧ Aside0 (kq ≤ k) ∧ Aside0 (Kd.R k55 55 wc w.heap.size (fun k_ => some k_ ≠ (v155 : Value).ownBlock) v137 t136) ∧ Aside0 (Kd.R k55 55 wc w.heap.size (fun k_ => some k_ ≠ (v137 : Value).ownBlock) v155 t154) ∧ Aside0 (Kd.R (Kd.int .i64) 3 wc w.heap.size (fun k_ => some k_ ≠ ((.slice Ao49 t143.length co49) : Value).ownBlock ∧ some k_ ≠ ((.slice Ao53 t147.length co53) : Value).ownBlock ∧ some k_ ≠ ((.slice Ao58 t150.length co58) : Value).ownBlock) (.slice Ao45 t140.length co45) t140) ∧ Aside0 (Kd.R (Kd.int .i64) 3 wc w.heap.size (fun k_ => some k_ ≠ ((.slice Ao45 t140.length co45) : Value).ownBlock ∧ some k_ ≠ ((.slice Ao53 t147.length co53) : Value).ownBlock ∧ some k_ ≠ ((.slice Ao58 t150.length co58) : Value).ownBlock) (.slice Ao49 t143.length co49) t143) ∧ Aside0 (Kd.R (Kd.int .i64) 3 wc w.heap.size (fun k_ => some k_ ≠ ((.slice Ao45 t140.length co45) : Value).ownBlock ∧ some k_ ≠ ((.slice Ao49 t143.length co49) : Value).ownBlock ∧ some k_ ≠ ((.slice Ao58 t150.length co58) : Value).ownBlock) (.slice Ao53 t147.length co53) t147) ∧ Aside0 (Kd.R (Kd.int .i64) 3 wc w.heap.size (fun k_ => some k_ ≠ ((.slice Ao45 t140.length co45) : Value).ownBlock ∧ some k_ ≠ ((.slice Ao49 t143.length co49) : Value).ownBlock ∧ some k_ ≠ ((.slice Ao53 t147.length co53) : Value).ownBlock) (.slice Ao58 t150.length co58) t150) ∧ Aside0 (wc.heap[gb120]? = some (.cells #[(.slice A0_0 l0_0.length c0_0), (.slice A0_1 l0_1.length c0_1)] 32 (0, 0))) ∧ Aside0 (wc.heap[gb121]? = some (.cells #[(.slice A1_0 l1_0.length c1_0), (.slice A1_1 l1_1.length c1_1)] 32 (0, 0))) ∧ Aside0 (wc.heap[gb146]? = some (.cells #[(.slice Ao45 t140.length co45), (.slice Ao49 t143.length co49)] 35 (0, 0))) ∧ Aside0 (wc.heap[gb153]? = some (.cells #[(.slice Ao53 t147.length co53), (.slice Ao58 t150.length co58)] 35 (0, 0))) ∧ Aside0 (Below w.heap.size w wc))
 case first =>
  have H := HC26.out
  clear HC26
  replace H := Option.bind_eq_some_iff.mp H
  obtain ⟨t158, A610, H⟩ := H
  (try dsimp only at H)
  have A61 := Aside0.mk A610
  clear A610
  by_cases c62 : t158 = true
  rotate_left
  ·replace c62 := Bool.eq_false_iff.mpr c62
   subst c62
   have H1 : (laws_FnExactPlanTo.j0 k a2 t136 t139 t154 t157 true l0_0 l0_1 l1_0 l1_1 t140 t143 t147 t150) = some r := by rw [if_neg (show ¬ (false = true) by decide)] at H; exact H
   clear H
   have H := H1
   clear H1
   exact absurd H (by rw [hrt.out]; cases k <;> simp [laws_FnExactPlanTo.j0])
  subst c62
  have H1 : (laws_FnExactPlanTo.j0 k a2 t136 t139 t154 t157 (t157 != t139) l0_0 l0_1 l1_0 l1_1 t140 t143 t147 t150) = some r := by rw [if_pos rfl] at H; exact H
  clear H
  have H := H1
  clear H1
  have H' := Aside0.mk H
  clear H
  obtain ⟨Ao63, co63, eo63⟩ := Kd.R_slice HO156.out
  subst eo63
  obtain ⟨Ao64, co64, eo64⟩ := Kd.R_slice HO138.out
  subst eo64
  go_wp2_with (first | ((with_reducible refine gate_callee (f := 15) rfl ?_); refine gl 51 Try.func15 #[.slice Ao63 t154.length co63, .slice Ao64 t136.length co64] ?_; (with_reducible refine (laws_eqMoveS.calls k _ _ t154 _ _ t136 true _ ?side1 ?side2 ?side3 ?side4 A61.out).mono ?_); (case side1 => exact cr HO156); (case side2 => exact (Kd.R_reads' HO156.out).2.1); (case side3 => exact cr HO138); (case side4 => exact (Kd.R_reads' HO138.out).2.1); rintro e w65 ⟨rfl, hb⟩; refine ⟨_, rfl, ?_⟩; replace HO126 := rb HO126 hb; replace HO129 := rb HO129 hb; replace HO132 := rb HO132 hb; replace HO135 := rb HO135 hb; replace HO138 := rb HO138 hb; replace HO142 := rb HO142 hb; replace HO145 := rb HO145 hb; replace HO149 := rb HO149 hb; replace HO152 := rb HO152 hb; replace HO156 := rb HO156 hb; replace BK120 := bb BK120 hb; replace BK121 := bb BK121 hb; replace BK146 := bb BK146 hb; replace BK153 := bb BK153 hb; replace HB := bs HB hb; (try clear hb)))
  go_meet
  case rel => exact ⟨_, ((t157 != t139)), (by first | rfl | (simp; done) | (simp [*]; done)), H', ⟨by first | omega | exact Nat.le_refl _⟩, ⟨by exact Kd.R_mono HO138.out (fun _ hk => hk.2)⟩, ⟨by exact Kd.R_mono HO156.out (fun _ hk => hk.2)⟩, ⟨by exact Kd.R_mono HO142.out (fun _ hk => ⟨hk.1.1.1.1.1.1, ⟨hk.1.2, hk.2⟩⟩)⟩, ⟨by exact Kd.R_mono HO145.out (fun _ hk => ⟨hk.1.1.1.1.1.1, ⟨hk.1.2, hk.2⟩⟩)⟩, ⟨by exact Kd.R_mono HO149.out (fun _ hk => ⟨hk.1.2, ⟨hk.2, hk.1.1.1.1.1.1⟩⟩)⟩, ⟨by exact Kd.R_mono HO152.out (fun _ hk => ⟨hk.1.2, ⟨hk.2, hk.1.1.1.1.1.1⟩⟩)⟩, ⟨bk BK120⟩, ⟨bk BK121⟩, ⟨bk BK146⟩, ⟨bk BK153⟩, ⟨bw HB⟩⟩
 case rest =>
  clear HC26
  try clear c1
  try clear c2
  try clear p2
  try clear c4
  try clear c5
  try clear c5b0
  try clear c6
  try clear c8
  try clear c12
  try clear c12b0
  try clear c15
  try clear c18
  try clear c20
  try clear c24
  try clear c25
  try clear c29
  try clear c46
  try clear c47
  try clear c54
  try clear c55
  try clear c56
  try clear c62
  try clear hcz16_0
  try clear hcz16_1
  try clear hcz18_0
  try clear hcz18_1
  try clear hcz30_0
  try clear hcz30_1
  try clear hcz32_0
  try clear hcz32_1
  try clear hcz42_0
  try clear hcz42_1
  try clear hcz48_0
  try clear hcz48_1
  try clear hcz50_0
  try clear hcz50_1
  try clear hcz57_0
  try clear hcz57_1
  try clear hcz59_0
  try clear hcz59_1
  try clear hcz9_0
  try clear hcz9_1
  try clear hfz16_0
  try clear hfz16_1
  try clear hfz18_0
  try clear hfz18_1
  try clear hfz30_0
  try clear hfz30_1
  try clear hfz32_0
  try clear hfz32_1
  try clear hfz42_0
  try clear hfz42_1
  try clear hfz48_0
  try clear hfz48_1
  try clear hfz50_0
  try clear hfz50_1
  try clear hfz57_0
  try clear hfz57_1
  try clear hfz59_0
  try clear hfz59_1
  try clear hfz9_0
  try clear hfz9_1
  obtain ⟨kq, x57_25, rfl, HA, HJ25, HO_8, HO_12, HO_147000, HO_147001, HO_154000, HO_154001, BK120, BK121, BK146, BK153, HB⟩ := hcut
  cases kq with
  | zero => exact absurd HA.out (by simp [laws_FnExactPlanTo.j0])
  | succ kj25 =>
   have H := HA.out
   clear HA
   simp only [laws_FnExactPlanTo.j0] at H
   by_cases c66 : x57_25 = true
   ·subst c66
    have H1 : (some false) = some r := by rw [if_pos rfl] at H; exact H
    clear H
    have H := H1
    clear H1
    exact absurd ((Option.some.inj H).trans hrt.out) (by decide)
   replace c66 := Bool.eq_false_iff.mpr c66
   subst c66
   have H1 : ((laws_toVessels.f kj25 l0_0 l0_1).bind fun bt159 => ((laws_eqVessels.f kj25 t140 t143 bt159.1 bt159.2).bind fun t165 => (if t165 = true then ((laws_toVessels.f kj25 l1_0 l1_1).bind fun bt166 => ((laws_eqVessels.f kj25 t147 t150 bt166.1 bt166.2).bind fun t172 => (if t172 = true then ((laws_markVessels.f kj25 t140 t143 1).bind fun bt173 => ((laws_markVessels.f kj25 t147 t150 bt173.1).bind fun bt176 => (if bt176.1 < 0 then (laws_FnExactPlanTo.j1 kj25 a2 t136 t139 t154 true l0_0 l0_1 l1_0 l1_1) else ((laws_eqMoveS.f kj25 t154 t136).bind fun t179 => (if t179 = true then (laws_FnExactPlanTo.j1 kj25 a2 t136 t139 t154 (t157 != t139) l0_0 l0_1 l1_0 l1_1) else (laws_FnExactPlanTo.j1 kj25 a2 t136 t139 t154 true l0_0 l0_1 l1_0 l1_1)))))) else (some false)))) else (some false)))) = some r := by rw [if_neg (show ¬ (false = true) by decide)] at H; exact H
   clear H
   have H := H1
   clear H1
   replace H := Option.bind_eq_some_iff.mp H
   obtain ⟨⟨t159, t162⟩, A670, H⟩ := H
   (try dsimp only at H)
   have A67 := Aside0.mk A670
   clear A670
   replace H := Option.bind_eq_some_iff.mp H
   obtain ⟨t165, A680, H⟩ := H
   (try dsimp only at H)
   have A68 := Aside0.mk A680
   clear A680
   by_cases c69 : t165 = true
   rotate_left
   ·replace c69 := Bool.eq_false_iff.mpr c69
    subst c69
    have H1 : (some false) = some r := by rw [if_neg (show ¬ (false = true) by decide)] at H; exact H
    clear H
    have H := H1
    clear H1
    exact absurd ((Option.some.inj H).trans hrt.out) (by decide)
   subst c69
   have H1 : ((laws_toVessels.f kj25 l1_0 l1_1).bind fun bt166 => ((laws_eqVessels.f kj25 t147 t150 bt166.1 bt166.2).bind fun t172 => (if t172 = true then ((laws_markVessels.f kj25 t140 t143 1).bind fun bt173 => ((laws_markVessels.f kj25 t147 t150 bt173.1).bind fun bt176 => (if bt176.1 < 0 then (laws_FnExactPlanTo.j1 kj25 a2 t136 t139 t154 true l0_0 l0_1 l1_0 l1_1) else ((laws_eqMoveS.f kj25 t154 t136).bind fun t179 => (if t179 = true then (laws_FnExactPlanTo.j1 kj25 a2 t136 t139 t154 (t157 != t139) l0_0 l0_1 l1_0 l1_1) else (laws_FnExactPlanTo.j1 kj25 a2 t136 t139 t154 true l0_0 l0_1 l1_0 l1_1)))))) else (some false)))) = some r := by rw [if_pos rfl] at H; exact H
   clear H
   have H := H1
   clear H1
   replace H := Option.bind_eq_some_iff.mp H
   obtain ⟨⟨t166, t169⟩, A700, H⟩ := H
   (try dsimp only at H)
   have A70 := Aside0.mk A700
   clear A700
   replace H := Option.bind_eq_some_iff.mp H
   obtain ⟨t172, A710, H⟩ := H
   (try dsimp only at H)
   have A71 := Aside0.mk A710
   clear A710
   by_cases c72 : t172 = true
   rotate_left
   ·replace c72 := Bool.eq_false_iff.mpr c72
    subst c72
    have H1 : (some false) = some r := by rw [if_neg (show ¬ (false = true) by decide)] at H; exact H
    clear H
    have H := H1
    clear H1
    exact absurd ((Option.some.inj H).trans hrt.out) (by decide)
   subst c72
   have H1 : ((laws_markVessels.f kj25 t140 t143 1).bind fun bt173 => ((laws_markVessels.f kj25 t147 t150 bt173.1).bind fun bt176 => (if bt176.1 < 0 then (laws_FnExactPlanTo.j1 kj25 a2 t136 t139 t154 true l0_0 l0_1 l1_0 l1_1) else ((laws_eqMoveS.f kj25 t154 t136).bind fun t179 => (if t179 = true then (laws_FnExactPlanTo.j1 kj25 a2 t136 t139 t154 (t157 != t139) l0_0 l0_1 l1_0 l1_1) else (laws_FnExactPlanTo.j1 kj25 a2 t136 t139 t154 true l0_0 l0_1 l1_0 l1_1)))))) = some r := by rw [if_pos rfl] at H; exact H
   clear H
   have H := H1
   clear H1
   replace H := Option.bind_eq_some_iff.mp H
   obtain ⟨⟨t173, t174, t175⟩, A730, H⟩ := H
   (try dsimp only at H)
   have A73 := Aside0.mk A730
   clear A730
   replace H := Option.bind_eq_some_iff.mp H
   obtain ⟨⟨t176, t177, t178⟩, A740, H⟩ := H
   (try dsimp only at H)
   have A74 := Aside0.mk A740
   clear A740
   have HC75 := Aside0.mk H
   clear H
   try go_wp2
   replace HO_8 := Aside0.mk (Kd.R_drew HO_8.out)
   replace HO_12 := Aside0.mk (Kd.R_drew HO_12.out)
   replace HO_147000 := Aside0.mk (Kd.R_drew HO_147000.out)
   replace HO_147001 := Aside0.mk (Kd.R_drew HO_147001.out)
   replace HO_154000 := Aside0.mk (Kd.R_drew HO_154000.out)
   replace HO_154001 := Aside0.mk (Kd.R_drew HO_154001.out)
   replace BK120 := Aside0.mk (blk_drew BK120.out)
   replace BK121 := Aside0.mk (blk_drew BK121.out)
   replace BK146 := Aside0.mk (blk_drew BK146.out)
   replace BK153 := Aside0.mk (blk_drew BK153.out)
   replace HB := Aside0.mk (below_drew1 HB.out)
   refine start_ (n := 5) (S := fun w' => w'.cell? ⟨gb146, 0, none⟩ = some (.slice Ao45 t140.length co45) ∧ w'.cell? ⟨gb146, 1, none⟩ = some (.slice Ao49 t143.length co49) ∧ w'.cell? ⟨gb120, 0, none⟩ = some (.slice A0_0 l0_0.length c0_0) ∧ w'.cell? ⟨gb120, 1, none⟩ = some (.slice A0_1 l0_1.length c0_1)) (ds := []) #[false, false, false, false, false] (by kernel_rfl) rfl rfl ⟨bc0 BK146, bc1 BK146, bc0 BK120, bc1 BK120⟩ (fun hHeld => ?_)
   generalize wc.drew = w76 at HO_8 HO_12 HO_147000 HO_147001 HO_154000 HO_154001 BK120 BK121 BK146 BK153 HB hHeld ⊢
   refine take_ (i := 0) (N := some 58) (v := ?_) (a' := ?_) #[true, false, false, false, false] rfl rfl (by kernel_rfl) (fun _ _ _ h => h) (Or.inl ⟨by rfl, ?_⟩) hHeld ?_ ?_
   rotate_left; (rintro w' ⟨s0, s1, s2, s3⟩; go_simp; with_reducible rfl); rotate_left; (simp only [sqa, sqb, sqc, sqd, i64_w, i32_w]; rfl)
   refine take_ (i := 1) (N := some 59) (v := ?_) (a' := ?_) #[true, true, false, false, false] rfl rfl (by kernel_rfl) (fun _ _ _ h => h) (Or.inl ⟨by rfl, ?_⟩) hHeld ?_ ?_
   rotate_left; (rintro w' ⟨s0, s1, s2, s3⟩; go_simp; with_reducible rfl); rotate_left; (simp only [sqa, sqb, sqc, sqd, i64_w, i32_w]; rfl)
   refine one_ (i := 2) (N := some 60) #[true, true, true, false, false] rfl rfl (by kernel_rfl) (by decide) (fun K hK => ?_)
   refine gs Try.func20 #[.agg #[.slice A0_0 l0_0.length c0_0, .slice A0_1 l0_1.length c0_1]] ?_
   with_reducible refine (laws_toVessels.calls kj25 _ _ l0_0 _ _ l0_1 t159 t162 _ ?side1 ?side2 ?side3 ?side4 A67.out).mono ?_
   (case side1 => exact ck HR0_0 HB)
   (case side2 => exact HC0_0.out)
   (case side3 => exact ck HR0_1 HB)
   (case side4 => exact HC0_1.out)
   rintro e w77 ⟨v160, v163, rfl, ho0, ho1, hb⟩
   refine ⟨_, rfl, ?_⟩
   replace HO_8 := rb HO_8 hb
   replace HO_12 := rb HO_12 hb
   have HO161 := Aside0.mk (Kd.R_lower (Kd.R_new' (Kd.R_new' (Kd.R_new' (Kd.R_new' ho0 (Kd.R_lt (rk HO_147000))) (Kd.R_lt (rk HO_147001))) (Kd.R_lt (rk HO_154000))) (Kd.R_lt (rk HO_154001))) (below_size (bw HB)))
   have HO164 := Aside0.mk (Kd.R_lower (Kd.R_new' (Kd.R_new' (Kd.R_new' (Kd.R_new' ho1 (Kd.R_lt (rk HO_147000))) (Kd.R_lt (rk HO_147001))) (Kd.R_lt (rk HO_154000))) (Kd.R_lt (rk HO_154001))) (below_size (bw HB)))
   replace HO_147000 := Aside0.mk (Kd.R_mono (Kd.R_told (Kd.R_told (Kd.R_old (rk HO_147000) hb) (Kd.R_base ho0)) (Kd.R_base ho1)) (fun _ h_ => h_.1))
   replace HO_147001 := Aside0.mk (Kd.R_mono (Kd.R_told (Kd.R_told (Kd.R_old (rk HO_147001) hb) (Kd.R_base ho0)) (Kd.R_base ho1)) (fun _ h_ => h_.1))
   replace HO_154000 := Aside0.mk (Kd.R_mono (Kd.R_told (Kd.R_told (Kd.R_old (rk HO_154000) hb) (Kd.R_base ho0)) (Kd.R_base ho1)) (fun _ h_ => h_.1))
   replace HO_154001 := Aside0.mk (Kd.R_mono (Kd.R_told (Kd.R_told (Kd.R_old (rk HO_154001) hb) (Kd.R_base ho0)) (Kd.R_base ho1)) (fun _ h_ => h_.1))
   replace BK120 := bb BK120 hb
   replace BK121 := bb BK121 hb
   replace BK146 := bb BK146 hb
   replace BK153 := bb BK153 hb
   replace HB := bs HB hb
   (try clear hb); (try clear hb2); (try clear hk); (try clear hi); (try clear ho0); (try clear ho1)
   obtain ⟨Ao78, co78, eo78⟩ := Kd.R_slice HO161.out
   (first | subst eo78 | (injection eo78 with f1_ f2_ f3_; have f4_ := f1_.symm; have f5_ := f3_.symm; clear f1_ f2_ f3_; subst f4_; subst f5_))
   obtain ⟨Ao79, co79, eo79⟩ := Kd.R_slice HO164.out
   (first | subst eo79 | (injection eo79 with f1_ f2_ f3_; have f4_ := f1_.symm; have f5_ := f3_.symm; clear f1_ f2_ f3_; subst f4_; subst f5_))
   refine hK.out _ _ ⟨bc0 BK146, bc1 BK146, bc0 BK120, bc1 BK120⟩ (fun hHeld => ?_)
   clear hK K
   refine norm_ (a' := ?_) ?_ ?_; rotate_left; (show Act.put _ (some 60) _ = _; simp only [sqa, sqb, sqc, sqd, i64_w, i32_w]; rfl)
   refine one_ (i := 3) (N := some 61) #[true, true, true, true, false] rfl rfl (by kernel_rfl) (by decide) (fun K hK => ?_)
   refine gs Try.func22 #[.agg #[.slice Ao45 t140.length co45, .slice Ao49 t143.length co49], .agg #[.slice Ao78 t159.length co78, .slice Ao79 t162.length co79]] ?_
   with_reducible refine (laws_eqVessels.calls kj25 _ _ t140 _ _ t143 _ _ t159 _ _ t162 true _ ?side1 ?side2 ?side3 ?side4 ?side5 ?side6 ?side7 ?side8 A68.out).mono ?_
   (case side1 => exact cr HO_147000)
   (case side2 => exact (Kd.R_reads' HO_147000.out).2.1)
   (case side3 => exact cr HO_147001)
   (case side4 => exact (Kd.R_reads' HO_147001.out).2.1)
   (case side5 => exact cr HO161)
   (case side6 => exact (Kd.R_reads' HO161.out).2.1)
   (case side7 => exact cr HO164)
   (case side8 => exact (Kd.R_reads' HO164.out).2.1)
   rintro e w80 ⟨rfl, hb⟩
   refine ⟨_, rfl, ?_⟩
   replace HO_8 := rb HO_8 hb
   replace HO_12 := rb HO_12 hb
   replace HO_147000 := rb HO_147000 hb
   replace HO_147001 := rb HO_147001 hb
   replace HO_154000 := rb HO_154000 hb
   replace HO_154001 := rb HO_154001 hb
   replace HO161 := rb HO161 hb
   replace HO164 := rb HO164 hb
   replace BK120 := bb BK120 hb
   replace BK121 := bb BK121 hb
   replace BK146 := bb BK146 hb
   replace BK153 := bb BK153 hb
   replace HB := bs HB hb
   (try clear hb); (try clear hb2); (try clear hk); (try clear hi)
   refine hK.out _ _ ⟨bc0 BK146, bc1 BK146, bc0 BK120, bc1 BK120⟩ (fun hHeld => ?_)
   clear hK K
   refine norm_ (a' := ?_) ?_ ?_; rotate_left; (show Act.put _ (some 61) _ = _; simp only [sqa, sqb, sqc, sqd, i64_w, i32_w]; rfl)
   refine pure_ (i := 4) (N := some 62) (v := ?_) (a' := ?_) #[true, true, true, true, true] rfl rfl (by kernel_rfl) (fun _ _ _ h => h) (Or.inl ⟨by rfl, ?_⟩) ?_ ?_
   rotate_left; (intro w'; go_simp; with_reducible rfl); rotate_left; (simp only [sqa, sqb, sqc, sqd, i64_w, i32_w]; rfl)
   refine done_ (by kernel_rfl) ?_
   try go_wp2
   replace HO_8 := Aside0.mk (Kd.R_drew HO_8.out)
   replace HO_12 := Aside0.mk (Kd.R_drew HO_12.out)
   replace HO_147000 := Aside0.mk (Kd.R_drew HO_147000.out)
   replace HO_147001 := Aside0.mk (Kd.R_drew HO_147001.out)
   replace HO_154000 := Aside0.mk (Kd.R_drew HO_154000.out)
   replace HO_154001 := Aside0.mk (Kd.R_drew HO_154001.out)
   replace HO161 := Aside0.mk (Kd.R_drew HO161.out)
   replace HO164 := Aside0.mk (Kd.R_drew HO164.out)
   replace BK120 := Aside0.mk (blk_drew BK120.out)
   replace BK121 := Aside0.mk (blk_drew BK121.out)
   replace BK146 := Aside0.mk (blk_drew BK146.out)
   replace BK153 := Aside0.mk (blk_drew BK153.out)
   replace HB := Aside0.mk (below_drew1 HB.out)
   refine start_ (n := 5) (S := fun w' => w'.cell? ⟨gb153, 0, none⟩ = some (.slice Ao53 t147.length co53) ∧ w'.cell? ⟨gb153, 1, none⟩ = some (.slice Ao58 t150.length co58) ∧ w'.cell? ⟨gb121, 0, none⟩ = some (.slice A1_0 l1_0.length c1_0) ∧ w'.cell? ⟨gb121, 1, none⟩ = some (.slice A1_1 l1_1.length c1_1)) (ds := []) #[false, false, false, false, false] (by kernel_rfl) rfl rfl ⟨bc0 BK153, bc1 BK153, bc0 BK121, bc1 BK121⟩ (fun hHeld => ?_)
   generalize w80.drew = w81 at HO_8 HO_12 HO_147000 HO_147001 HO_154000 HO_154001 HO161 HO164 BK120 BK121 BK146 BK153 HB hHeld ⊢
   refine take_ (i := 0) (N := some 63) (v := ?_) (a' := ?_) #[true, false, false, false, false] rfl rfl (by kernel_rfl) (fun _ _ _ h => h) (Or.inl ⟨by rfl, ?_⟩) hHeld ?_ ?_
   rotate_left; (rintro w' ⟨s0, s1, s2, s3⟩; go_simp; with_reducible rfl); rotate_left; (simp only [sqa, sqb, sqc, sqd, i64_w, i32_w]; rfl)
   refine take_ (i := 1) (N := some 64) (v := ?_) (a' := ?_) #[true, true, false, false, false] rfl rfl (by kernel_rfl) (fun _ _ _ h => h) (Or.inl ⟨by rfl, ?_⟩) hHeld ?_ ?_
   rotate_left; (rintro w' ⟨s0, s1, s2, s3⟩; go_simp; with_reducible rfl); rotate_left; (simp only [sqa, sqb, sqc, sqd, i64_w, i32_w]; rfl)
   refine one_ (i := 2) (N := some 65) #[true, true, true, false, false] rfl rfl (by kernel_rfl) (by decide) (fun K hK => ?_)
   refine gs Try.func20 #[.agg #[.slice A1_0 l1_0.length c1_0, .slice A1_1 l1_1.length c1_1]] ?_
   with_reducible refine (laws_toVessels.calls kj25 _ _ l1_0 _ _ l1_1 t166 t169 _ ?side1 ?side2 ?side3 ?side4 A70.out).mono ?_
   (case side1 => exact ck HR1_0 HB)
   (case side2 => exact HC1_0.out)
   (case side3 => exact ck HR1_1 HB)
   (case side4 => exact HC1_1.out)
   rintro e w82 ⟨v167, v170, rfl, ho0, ho1, hb⟩
   refine ⟨_, rfl, ?_⟩
   replace HO_8 := rb HO_8 hb
   replace HO_12 := rb HO_12 hb
   have HO168 := Aside0.mk (Kd.R_lower (Kd.R_new' (Kd.R_new' (Kd.R_new' (Kd.R_new' (Kd.R_new' (Kd.R_new' ho0 (Kd.R_lt (rk HO_147000))) (Kd.R_lt (rk HO_147001))) (Kd.R_lt (rk HO_154000))) (Kd.R_lt (rk HO_154001))) (Kd.R_lt (rk HO161))) (Kd.R_lt (rk HO164))) (below_size (bw HB)))
   have HO171 := Aside0.mk (Kd.R_lower (Kd.R_new' (Kd.R_new' (Kd.R_new' (Kd.R_new' (Kd.R_new' (Kd.R_new' ho1 (Kd.R_lt (rk HO_147000))) (Kd.R_lt (rk HO_147001))) (Kd.R_lt (rk HO_154000))) (Kd.R_lt (rk HO_154001))) (Kd.R_lt (rk HO161))) (Kd.R_lt (rk HO164))) (below_size (bw HB)))
   replace HO_147000 := Aside0.mk (Kd.R_mono (Kd.R_told (Kd.R_told (Kd.R_old (rk HO_147000) hb) (Kd.R_base ho0)) (Kd.R_base ho1)) (fun _ h_ => h_.1))
   replace HO_147001 := Aside0.mk (Kd.R_mono (Kd.R_told (Kd.R_told (Kd.R_old (rk HO_147001) hb) (Kd.R_base ho0)) (Kd.R_base ho1)) (fun _ h_ => h_.1))
   replace HO_154000 := Aside0.mk (Kd.R_mono (Kd.R_told (Kd.R_told (Kd.R_old (rk HO_154000) hb) (Kd.R_base ho0)) (Kd.R_base ho1)) (fun _ h_ => h_.1))
   replace HO_154001 := Aside0.mk (Kd.R_mono (Kd.R_told (Kd.R_told (Kd.R_old (rk HO_154001) hb) (Kd.R_base ho0)) (Kd.R_base ho1)) (fun _ h_ => h_.1))
   replace HO161 := Aside0.mk (Kd.R_mono (Kd.R_told (Kd.R_told (Kd.R_old (rk HO161) hb) (Kd.R_base ho0)) (Kd.R_base ho1)) (fun _ h_ => h_.1))
   replace HO164 := Aside0.mk (Kd.R_mono (Kd.R_told (Kd.R_told (Kd.R_old (rk HO164) hb) (Kd.R_base ho0)) (Kd.R_base ho1)) (fun _ h_ => h_.1))
   replace BK120 := bb BK120 hb
   replace BK121 := bb BK121 hb
   replace BK146 := bb BK146 hb
   replace BK153 := bb BK153 hb
   replace HB := bs HB hb
   (try clear hb); (try clear hb2); (try clear hk); (try clear hi); (try clear ho0); (try clear ho1)
   obtain ⟨Ao83, co83, eo83⟩ := Kd.R_slice HO168.out
   (first | subst eo83 | (injection eo83 with f1_ f2_ f3_; have f4_ := f1_.symm; have f5_ := f3_.symm; clear f1_ f2_ f3_; subst f4_; subst f5_))
   obtain ⟨Ao84, co84, eo84⟩ := Kd.R_slice HO171.out
   (first | subst eo84 | (injection eo84 with f1_ f2_ f3_; have f4_ := f1_.symm; have f5_ := f3_.symm; clear f1_ f2_ f3_; subst f4_; subst f5_))
   refine hK.out _ _ ⟨bc0 BK153, bc1 BK153, bc0 BK121, bc1 BK121⟩ (fun hHeld => ?_)
   clear hK K
   refine norm_ (a' := ?_) ?_ ?_; rotate_left; (show Act.put _ (some 65) _ = _; simp only [sqa, sqb, sqc, sqd, i64_w, i32_w]; rfl)
   refine one_ (i := 3) (N := some 66) #[true, true, true, true, false] rfl rfl (by kernel_rfl) (by decide) (fun K hK => ?_)
   refine gs Try.func22 #[.agg #[.slice Ao53 t147.length co53, .slice Ao58 t150.length co58], .agg #[.slice Ao83 t166.length co83, .slice Ao84 t169.length co84]] ?_
   with_reducible refine (laws_eqVessels.calls kj25 _ _ t147 _ _ t150 _ _ t166 _ _ t169 true _ ?side1 ?side2 ?side3 ?side4 ?side5 ?side6 ?side7 ?side8 A71.out).mono ?_
   (case side1 => exact cr HO_154000)
   (case side2 => exact (Kd.R_reads' HO_154000.out).2.1)
   (case side3 => exact cr HO_154001)
   (case side4 => exact (Kd.R_reads' HO_154001.out).2.1)
   (case side5 => exact cr HO168)
   (case side6 => exact (Kd.R_reads' HO168.out).2.1)
   (case side7 => exact cr HO171)
   (case side8 => exact (Kd.R_reads' HO171.out).2.1)
   rintro e w85 ⟨rfl, hb⟩
   refine ⟨_, rfl, ?_⟩
   replace HO_8 := rb HO_8 hb
   replace HO_12 := rb HO_12 hb
   replace HO_147000 := rb HO_147000 hb
   replace HO_147001 := rb HO_147001 hb
   replace HO_154000 := rb HO_154000 hb
   replace HO_154001 := rb HO_154001 hb
   replace HO161 := rb HO161 hb
   replace HO164 := rb HO164 hb
   replace HO168 := rb HO168 hb
   replace HO171 := rb HO171 hb
   replace BK120 := bb BK120 hb
   replace BK121 := bb BK121 hb
   replace BK146 := bb BK146 hb
   replace BK153 := bb BK153 hb
   replace HB := bs HB hb
   (try clear hb); (try clear hb2); (try clear hk); (try clear hi)
   refine hK.out _ _ ⟨bc0 BK153, bc1 BK153, bc0 BK121, bc1 BK121⟩ (fun hHeld => ?_)
   clear hK K
   refine norm_ (a' := ?_) ?_ ?_; rotate_left; (show Act.put _ (some 66) _ = _; simp only [sqa, sqb, sqc, sqd, i64_w, i32_w]; rfl)
   refine pure_ (i := 4) (N := some 67) (v := ?_) (a' := ?_) #[true, true, true, true, true] rfl rfl (by kernel_rfl) (fun _ _ _ h => h) (Or.inl ⟨by rfl, ?_⟩) ?_ ?_
   rotate_left; (intro w'; go_simp; with_reducible rfl); rotate_left; (simp only [sqa, sqb, sqc, sqd, i64_w, i32_w]; rfl)
   refine done_ (by kernel_rfl) ?_
   have hnb86 := NB146_120.out
   have hnc86 := NB120_146.out
   have hnb87 := NB146_121.out
   have hnc87 := NB121_146.out
   have hnb88 := NB146_153.out
   have hnc88 := NB153_146.out
   have hcz89_0 := bc0 BK146
   have hcz89_1 := bc1 BK146
   have hfz89_0 := blk_frozen BK146.out 0
   have hfz89_1 := blk_frozen BK146.out 1
   go_upto_region 21 with (first | ((with_reducible refine gate_callee (f := 23) rfl ?_); refine gl 70 Try.func23 #[.agg #[.slice Ao45 t140.length co45, .slice Ao49 t143.length co49], .int .i64 1] ?_; (with_reducible refine (laws_markVessels.calls kj25 (fun k_ => some k_ = (.slice Ao45 t140.length co45 : Value).ownBlock) (.slice Ao45 t140.length co45) t140 (fun k_ => some k_ = (.slice Ao49 t143.length co49 : Value).ownBlock) (.slice Ao49 t143.length co49) t143 1 t173 t174 t175 w _ ?side1 ?side2 ?side3 ?side4 ?side5 A73.out).mono ?_); (case side1 => repeat (first | (with_reducible first | exact HB.out | apply below_alloc | apply pw_below_drewN | apply below_drew1 | refine below_set ?_ GE120.out | refine below_set ?_ GE121.out | refine below_set ?_ GE146.out | refine below_set ?_ GE153.out) | exact HB.out)); (case side2 => exact Kd.R_tight rfl HO_147000.out); (case side3 => exact fun k_ e_ => (HO_147000.out.1 k_ e_.symm).1.1.1.1.1); (case side4 => exact Kd.R_tight rfl HO_147001.out); (case side5 => exact fun k_ e_ => (HO_147001.out.1 k_ e_.symm).1.1.1.1.1); rintro e w90 ⟨rfl, hy0, hy1, hb, hkp⟩; refine ⟨_, rfl, ?_⟩; replace HO_8 := Aside0.mk (Kd.R_mono (ok' := fun k_ => some k_ ≠ (v155 : Value).ownBlock) (Kd.R_keptB ((Kd.R_apart' (Kd.R_apart' HO_8.out (Kd.R_typed HO_147000.out) (by decide)) (Kd.R_typed HO_147001.out) (by decide))) hkp (fun k_ hk_ hs_ => Or.elim hs_ (fun e_ => (hk_.1.2) e_) (fun e_ => (hk_.2) e_))) (fun k_ hk_ => hk_.1.1.1)); replace HO_12 := Aside0.mk (Kd.R_mono (ok' := fun k_ => some k_ ≠ (v137 : Value).ownBlock) (Kd.R_keptB ((Kd.R_apart' (Kd.R_apart' HO_12.out (Kd.R_typed HO_147000.out) (by decide)) (Kd.R_typed HO_147001.out) (by decide))) hkp (fun k_ hk_ hs_ => Or.elim hs_ (fun e_ => (hk_.1.2) e_) (fun e_ => (hk_.2) e_))) (fun k_ hk_ => hk_.1.1.1)); replace HO_154000 := Aside0.mk (Kd.R_mono (ok' := fun k_ => some k_ ≠ (.slice Ao45 t140.length co45 : Value).ownBlock ∧ some k_ ≠ (.slice Ao49 t143.length co49 : Value).ownBlock ∧ some k_ ≠ (.slice Ao58 t150.length co58 : Value).ownBlock ∧ some k_ ≠ (.slice Ao78 t159.length co78 : Value).ownBlock ∧ some k_ ≠ (.slice Ao79 t162.length co79 : Value).ownBlock ∧ some k_ ≠ (.slice Ao83 t166.length co83 : Value).ownBlock ∧ some k_ ≠ (.slice Ao84 t169.length co84 : Value).ownBlock) (Kd.R_keptB (HO_154000.out) hkp (fun k_ hk_ hs_ => Or.elim hs_ (fun e_ => (hk_.1.1.1.1.1) e_) (fun e_ => (hk_.1.1.1.1.2.1) e_))) (fun k_ hk_ => ⟨hk_.1.1.1.1.1.1, hk_.1.1.1.1.1.2.1, hk_.1.1.1.1.1.2.2, hk_.1.1.1.1.2, hk_.1.1.1.2, hk_.1.1.2, hk_.1.2⟩)); replace HO_154001 := Aside0.mk (Kd.R_mono (ok' := fun k_ => some k_ ≠ (.slice Ao45 t140.length co45 : Value).ownBlock ∧ some k_ ≠ (.slice Ao49 t143.length co49 : Value).ownBlock ∧ some k_ ≠ (.slice Ao53 t147.length co53 : Value).ownBlock ∧ some k_ ≠ (.slice Ao78 t159.length co78 : Value).ownBlock ∧ some k_ ≠ (.slice Ao79 t162.length co79 : Value).ownBlock ∧ some k_ ≠ (.slice Ao83 t166.length co83 : Value).ownBlock ∧ some k_ ≠ (.slice Ao84 t169.length co84 : Value).ownBlock) (Kd.R_keptB (HO_154001.out) hkp (fun k_ hk_ hs_ => Or.elim hs_ (fun e_ => (hk_.1.1.1.1.1) e_) (fun e_ => (hk_.1.1.1.1.2.1) e_))) (fun k_ hk_ => ⟨hk_.1.1.1.1.1.1, hk_.1.1.1.1.1.2.1, hk_.1.1.1.1.1.2.2, hk_.1.1.1.1.2, hk_.1.1.1.2, hk_.1.1.2, hk_.1.2⟩)); replace BK120 := Aside0.mk (blk_kept (bk BK120) hkp (fun hs_ => Or.elim hs_ (fun e_ => (fun e_ => (Kd.R_ne HO_147000.out BK120.out (by decide)) e_) e_) (fun e_ => (fun e_ => (Kd.R_ne HO_147001.out BK120.out (by decide)) e_) e_))); replace BK121 := Aside0.mk (blk_kept (bk BK121) hkp (fun hs_ => Or.elim hs_ (fun e_ => (fun e_ => (Kd.R_ne HO_147000.out BK121.out (by decide)) e_) e_) (fun e_ => (fun e_ => (Kd.R_ne HO_147001.out BK121.out (by decide)) e_) e_))); replace BK146 := Aside0.mk (blk_kept (bk BK146) hkp (fun hs_ => Or.elim hs_ (fun e_ => (fun e_ => (Kd.R_ne HO_147000.out BK146.out (by decide)) e_) e_) (fun e_ => (fun e_ => (Kd.R_ne HO_147001.out BK146.out (by decide)) e_) e_))); replace BK153 := Aside0.mk (blk_kept (bk BK153) hkp (fun hs_ => Or.elim hs_ (fun e_ => (fun e_ => (Kd.R_ne HO_147000.out BK153.out (by decide)) e_) e_) (fun e_ => (fun e_ => (Kd.R_ne HO_147001.out BK153.out (by decide)) e_) e_))); replace HO_147000 := Aside0.mk (Kd.R_reok rfl hy0 (fun k_ e_ => HO_147000.out.1 k_ e_)); replace HO_147001 := Aside0.mk (Kd.R_reok rfl hy1 (fun k_ e_ => HO_147001.out.1 k_ e_)); replace HO161 := Aside0.mk (Kd.R_mono (ok' := fun k_ => some k_ ≠ (.slice Ao45 t140.length co45 : Value).ownBlock ∧ some k_ ≠ (.slice Ao49 t143.length co49 : Value).ownBlock ∧ some k_ ≠ (.slice Ao53 t147.length co53 : Value).ownBlock ∧ some k_ ≠ (.slice Ao58 t150.length co58 : Value).ownBlock ∧ some k_ ≠ (.slice Ao79 t162.length co79 : Value).ownBlock ∧ some k_ ≠ (.slice Ao83 t166.length co83 : Value).ownBlock ∧ some k_ ≠ (.slice Ao84 t169.length co84 : Value).ownBlock) (Kd.R_keptB (HO161.out) hkp (fun k_ hk_ hs_ => Or.elim hs_ (fun e_ => (hk_.1.1.1.1.1.2) e_) (fun e_ => (hk_.1.1.1.1.2) e_))) (fun k_ hk_ => ⟨hk_.1.1.1.1.1.1.2, hk_.1.1.1.1.1.2, hk_.1.1.1.1.2, hk_.1.1.1.2, hk_.1.1.1.1.1.1.1, hk_.1.1.2, hk_.1.2⟩)); replace HO164 := Aside0.mk (Kd.R_mono (ok' := fun k_ => some k_ ≠ (.slice Ao45 t140.length co45 : Value).ownBlock ∧ some k_ ≠ (.slice Ao49 t143.length co49 : Value).ownBlock ∧ some k_ ≠ (.slice Ao53 t147.length co53 : Value).ownBlock ∧ some k_ ≠ (.slice Ao58 t150.length co58 : Value).ownBlock ∧ some k_ ≠ (.slice Ao78 t159.length co78 : Value).ownBlock ∧ some k_ ≠ (.slice Ao83 t166.length co83 : Value).ownBlock ∧ some k_ ≠ (.slice Ao84 t169.length co84 : Value).ownBlock) (Kd.R_keptB (HO164.out) hkp (fun k_ hk_ hs_ => Or.elim hs_ (fun e_ => (hk_.1.1.1.1.1.2) e_) (fun e_ => (hk_.1.1.1.1.2) e_))) (fun k_ hk_ => ⟨hk_.1.1.1.1.1.1.2, hk_.1.1.1.1.1.2, hk_.1.1.1.1.2, hk_.1.1.1.2, hk_.1.1.1.1.1.1.1, hk_.1.1.2, hk_.1.2⟩)); replace HO168 := Aside0.mk (Kd.R_mono (ok' := fun k_ => some k_ ≠ (.slice Ao45 t140.length co45 : Value).ownBlock ∧ some k_ ≠ (.slice Ao49 t143.length co49 : Value).ownBlock ∧ some k_ ≠ (.slice Ao53 t147.length co53 : Value).ownBlock ∧ some k_ ≠ (.slice Ao58 t150.length co58 : Value).ownBlock ∧ some k_ ≠ (.slice Ao78 t159.length co78 : Value).ownBlock ∧ some k_ ≠ (.slice Ao79 t162.length co79 : Value).ownBlock ∧ some k_ ≠ (.slice Ao84 t169.length co84 : Value).ownBlock) (Kd.R_keptB (HO168.out) hkp (fun k_ hk_ hs_ => Or.elim hs_ (fun e_ => (hk_.1.1.1.1.1.2) e_) (fun e_ => (hk_.1.1.1.1.2) e_))) (fun k_ hk_ => ⟨hk_.1.1.1.1.1.1.2, hk_.1.1.1.1.1.2, hk_.1.1.1.1.2, hk_.1.1.1.2, hk_.1.1.2, hk_.1.2, hk_.1.1.1.1.1.1.1⟩)); replace HO171 := Aside0.mk (Kd.R_mono (ok' := fun k_ => some k_ ≠ (.slice Ao45 t140.length co45 : Value).ownBlock ∧ some k_ ≠ (.slice Ao49 t143.length co49 : Value).ownBlock ∧ some k_ ≠ (.slice Ao53 t147.length co53 : Value).ownBlock ∧ some k_ ≠ (.slice Ao58 t150.length co58 : Value).ownBlock ∧ some k_ ≠ (.slice Ao78 t159.length co78 : Value).ownBlock ∧ some k_ ≠ (.slice Ao79 t162.length co79 : Value).ownBlock ∧ some k_ ≠ (.slice Ao83 t166.length co83 : Value).ownBlock) (Kd.R_keptB (HO171.out) hkp (fun k_ hk_ hs_ => Or.elim hs_ (fun e_ => (hk_.1.1.1.1.1.2) e_) (fun e_ => (hk_.1.1.1.1.2) e_))) (fun k_ hk_ => ⟨hk_.1.1.1.1.1.1.2, hk_.1.1.1.1.1.2, hk_.1.1.1.1.2, hk_.1.1.1.2, hk_.1.1.2, hk_.1.2, hk_.1.1.1.1.1.1.1⟩)); replace HB := Aside0.mk (hb); (try clear hb); (try clear hkp); (try clear hy0); (try clear hy1); have hnb91 := NB153_120.out; have hnc91 := NB120_153.out; have hnb92 := NB153_121.out; have hnc92 := NB121_153.out; have hcz93_0 := bc0 BK153; have hcz93_1 := bc1 BK153; have hfz93_0 := blk_frozen BK153.out 0; have hfz93_1 := blk_frozen BK153.out 1) | ((with_reducible refine gate_callee (f := 23) rfl ?_); refine gl 73 Try.func23 #[.agg #[.slice Ao53 t147.length co53, .slice Ao58 t150.length co58], .int .i64 t173] ?_; (with_reducible refine (laws_markVessels.calls kj25 (fun k_ => some k_ = (.slice Ao53 t147.length co53 : Value).ownBlock) (.slice Ao53 t147.length co53) t147 (fun k_ => some k_ = (.slice Ao58 t150.length co58 : Value).ownBlock) (.slice Ao58 t150.length co58) t150 t173 t176 t177 t178 w _ ?side1 ?side2 ?side3 ?side4 ?side5 A74.out).mono ?_); (case side1 => repeat (first | (with_reducible first | exact HB.out | apply below_alloc | apply pw_below_drewN | apply below_drew1 | refine below_set ?_ GE120.out | refine below_set ?_ GE121.out | refine below_set ?_ GE146.out | refine below_set ?_ GE153.out) | exact HB.out)); (case side2 => exact Kd.R_tight rfl HO_154000.out); (case side3 => exact fun k_ e_ => (HO_154000.out.1 k_ e_.symm).2.2.1); (case side4 => exact Kd.R_tight rfl HO_154001.out); (case side5 => exact fun k_ e_ => (HO_154001.out.1 k_ e_.symm).2.2.1); rintro e w94 ⟨rfl, hy0, hy1, hb, hkp⟩; refine ⟨_, rfl, ?_⟩; replace HO_8 := Aside0.mk (Kd.R_mono (ok' := fun k_ => some k_ ≠ (v155 : Value).ownBlock) (Kd.R_keptB ((Kd.R_apart' (Kd.R_apart' HO_8.out (Kd.R_typed HO_154000.out) (by decide)) (Kd.R_typed HO_154001.out) (by decide))) hkp (fun k_ hk_ hs_ => Or.elim hs_ (fun e_ => (hk_.1.2) e_) (fun e_ => (hk_.2) e_))) (fun k_ hk_ => hk_.1.1.1)); replace HO_12 := Aside0.mk (Kd.R_mono (ok' := fun k_ => some k_ ≠ (v137 : Value).ownBlock) (Kd.R_keptB ((Kd.R_apart' (Kd.R_apart' HO_12.out (Kd.R_typed HO_154000.out) (by decide)) (Kd.R_typed HO_154001.out) (by decide))) hkp (fun k_ hk_ hs_ => Or.elim hs_ (fun e_ => (hk_.1.2) e_) (fun e_ => (hk_.2) e_))) (fun k_ hk_ => hk_.1.1.1)); replace HO_147000 := Aside0.mk (Kd.R_mono (ok' := fun k_ => some k_ ≠ (.slice Ao49 t143.length co49 : Value).ownBlock ∧ some k_ ≠ (.slice Ao53 t147.length co53 : Value).ownBlock ∧ some k_ ≠ (.slice Ao58 t150.length co58 : Value).ownBlock ∧ some k_ ≠ (.slice Ao78 t159.length co78 : Value).ownBlock ∧ some k_ ≠ (.slice Ao79 t162.length co79 : Value).ownBlock ∧ some k_ ≠ (.slice Ao83 t166.length co83 : Value).ownBlock ∧ some k_ ≠ (.slice Ao84 t169.length co84 : Value).ownBlock) (Kd.R_keptB (HO_147000.out) hkp (fun k_ hk_ hs_ => Or.elim hs_ (fun e_ => (hk_.1.1.1.1.2.1) e_) (fun e_ => (hk_.1.1.1.1.2.2) e_))) (fun k_ hk_ => ⟨hk_.1.1.1.1.1.1, hk_.1.1.1.1.1.2.1, hk_.1.1.1.1.1.2.2, hk_.1.1.1.1.2, hk_.1.1.1.2, hk_.1.1.2, hk_.1.2⟩)); replace HO_147001 := Aside0.mk (Kd.R_mono (ok' := fun k_ => some k_ ≠ (.slice Ao45 t140.length co45 : Value).ownBlock ∧ some k_ ≠ (.slice Ao53 t147.length co53 : Value).ownBlock ∧ some k_ ≠ (.slice Ao58 t150.length co58 : Value).ownBlock ∧ some k_ ≠ (.slice Ao78 t159.length co78 : Value).ownBlock ∧ some k_ ≠ (.slice Ao79 t162.length co79 : Value).ownBlock ∧ some k_ ≠ (.slice Ao83 t166.length co83 : Value).ownBlock ∧ some k_ ≠ (.slice Ao84 t169.length co84 : Value).ownBlock) (Kd.R_keptB (HO_147001.out) hkp (fun k_ hk_ hs_ => Or.elim hs_ (fun e_ => (hk_.1.1.1.1.2.1) e_) (fun e_ => (hk_.1.1.1.1.2.2) e_))) (fun k_ hk_ => ⟨hk_.1.1.1.1.1.1, hk_.1.1.1.1.1.2.1, hk_.1.1.1.1.1.2.2, hk_.1.1.1.1.2, hk_.1.1.1.2, hk_.1.1.2, hk_.1.2⟩)); replace BK120 := Aside0.mk (blk_kept (bk BK120) hkp (fun hs_ => Or.elim hs_ (fun e_ => (fun e_ => (Kd.R_ne HO_154000.out BK120.out (by decide)) e_) e_) (fun e_ => (fun e_ => (Kd.R_ne HO_154001.out BK120.out (by decide)) e_) e_))); replace BK121 := Aside0.mk (blk_kept (bk BK121) hkp (fun hs_ => Or.elim hs_ (fun e_ => (fun e_ => (Kd.R_ne HO_154000.out BK121.out (by decide)) e_) e_) (fun e_ => (fun e_ => (Kd.R_ne HO_154001.out BK121.out (by decide)) e_) e_))); replace BK146 := Aside0.mk (blk_kept (bk BK146) hkp (fun hs_ => Or.elim hs_ (fun e_ => (fun e_ => (Kd.R_ne HO_154000.out BK146.out (by decide)) e_) e_) (fun e_ => (fun e_ => (Kd.R_ne HO_154001.out BK146.out (by decide)) e_) e_))); replace BK153 := Aside0.mk (blk_kept (bk BK153) hkp (fun hs_ => Or.elim hs_ (fun e_ => (fun e_ => (Kd.R_ne HO_154000.out BK153.out (by decide)) e_) e_) (fun e_ => (fun e_ => (Kd.R_ne HO_154001.out BK153.out (by decide)) e_) e_))); replace HO_154000 := Aside0.mk (Kd.R_reok rfl hy0 (fun k_ e_ => HO_154000.out.1 k_ e_)); replace HO_154001 := Aside0.mk (Kd.R_reok rfl hy1 (fun k_ e_ => HO_154001.out.1 k_ e_)); replace HO161 := Aside0.mk (Kd.R_mono (ok' := fun k_ => some k_ ≠ (.slice Ao45 t140.length co45 : Value).ownBlock ∧ some k_ ≠ (.slice Ao49 t143.length co49 : Value).ownBlock ∧ some k_ ≠ (.slice Ao53 t147.length co53 : Value).ownBlock ∧ some k_ ≠ (.slice Ao58 t150.length co58 : Value).ownBlock ∧ some k_ ≠ (.slice Ao79 t162.length co79 : Value).ownBlock ∧ some k_ ≠ (.slice Ao83 t166.length co83 : Value).ownBlock ∧ some k_ ≠ (.slice Ao84 t169.length co84 : Value).ownBlock) (Kd.R_keptB (HO161.out) hkp (fun k_ hk_ hs_ => Or.elim hs_ (fun e_ => (hk_.2.2.1) e_) (fun e_ => (hk_.2.2.2.1) e_))) (fun k_ hk_ => ⟨hk_.1.1, hk_.1.2.1, hk_.1.2.2.1, hk_.1.2.2.2.1, hk_.1.2.2.2.2.1, hk_.1.2.2.2.2.2.1, hk_.1.2.2.2.2.2.2⟩)); replace HO164 := Aside0.mk (Kd.R_mono (ok' := fun k_ => some k_ ≠ (.slice Ao45 t140.length co45 : Value).ownBlock ∧ some k_ ≠ (.slice Ao49 t143.length co49 : Value).ownBlock ∧ some k_ ≠ (.slice Ao53 t147.length co53 : Value).ownBlock ∧ some k_ ≠ (.slice Ao58 t150.length co58 : Value).ownBlock ∧ some k_ ≠ (.slice Ao78 t159.length co78 : Value).ownBlock ∧ some k_ ≠ (.slice Ao83 t166.length co83 : Value).ownBlock ∧ some k_ ≠ (.slice Ao84 t169.length co84 : Value).ownBlock) (Kd.R_keptB (HO164.out) hkp (fun k_ hk_ hs_ => Or.elim hs_ (fun e_ => (hk_.2.2.1) e_) (fun e_ => (hk_.2.2.2.1) e_))) (fun k_ hk_ => ⟨hk_.1.1, hk_.1.2.1, hk_.1.2.2.1, hk_.1.2.2.2.1, hk_.1.2.2.2.2.1, hk_.1.2.2.2.2.2.1, hk_.1.2.2.2.2.2.2⟩)); replace HO168 := Aside0.mk (Kd.R_mono (ok' := fun k_ => some k_ ≠ (.slice Ao45 t140.length co45 : Value).ownBlock ∧ some k_ ≠ (.slice Ao49 t143.length co49 : Value).ownBlock ∧ some k_ ≠ (.slice Ao53 t147.length co53 : Value).ownBlock ∧ some k_ ≠ (.slice Ao58 t150.length co58 : Value).ownBlock ∧ some k_ ≠ (.slice Ao78 t159.length co78 : Value).ownBlock ∧ some k_ ≠ (.slice Ao79 t162.length co79 : Value).ownBlock ∧ some k_ ≠ (.slice Ao84 t169.length co84 : Value).ownBlock) (Kd.R_keptB (HO168.out) hkp (fun k_ hk_ hs_ => Or.elim hs_ (fun e_ => (hk_.2.2.1) e_) (fun e_ => (hk_.2.2.2.1) e_))) (fun k_ hk_ => ⟨hk_.1.1, hk_.1.2.1, hk_.1.2.2.1, hk_.1.2.2.2.1, hk_.1.2.2.2.2.1, hk_.1.2.2.2.2.2.1, hk_.1.2.2.2.2.2.2⟩)); replace HO171 := Aside0.mk (Kd.R_mono (ok' := fun k_ => some k_ ≠ (.slice Ao45 t140.length co45 : Value).ownBlock ∧ some k_ ≠ (.slice Ao49 t143.length co49 : Value).ownBlock ∧ some k_ ≠ (.slice Ao53 t147.length co53 : Value).ownBlock ∧ some k_ ≠ (.slice Ao58 t150.length co58 : Value).ownBlock ∧ some k_ ≠ (.slice Ao78 t159.length co78 : Value).ownBlock ∧ some k_ ≠ (.slice Ao79 t162.length co79 : Value).ownBlock ∧ some k_ ≠ (.slice Ao83 t166.length co83 : Value).ownBlock) (Kd.R_keptB (HO171.out) hkp (fun k_ hk_ hs_ => Or.elim hs_ (fun e_ => (hk_.2.2.1) e_) (fun e_ => (hk_.2.2.2.1) e_))) (fun k_ hk_ => ⟨hk_.1.1, hk_.1.2.1, hk_.1.2.2.1, hk_.1.2.2.2.1, hk_.1.2.2.2.2.1, hk_.1.2.2.2.2.2.1, hk_.1.2.2.2.2.2.2⟩)); replace HB := Aside0.mk (hb); (try clear hb); (try clear hkp); (try clear hy0); (try clear hy1)))
   (try simp only [Act.put, List.setIfInBounds_toArray, List.set_cons_zero, List.set_cons_succ])
   go_cut [86] (fun v86 wc => ∃ (kq : Nat) (x86_74 : Bool), v86 = .bool x86_74 ∧ Aside0 (laws_FnExactPlanTo.j1 kq a2 t136 t139 t154 x86_74 l0_0 l0_1 l1_0 l1_1 = some r) ∧ Aside0 (kq ≤ kj25) ∧ Aside0 (Kd.R k55 55 wc w.heap.size (fun k_ => some k_ ≠ (v155 : Value).ownBlock) v137 t136) ∧ Aside0 (Kd.R k55 55 wc w.heap.size (fun k_ => some k_ ≠ (v137 : Value).ownBlock) v155 t154) ∧ Aside0 (Kd.R (Kd.int .i64) 3 wc w.heap.size (fun k_ => some k_ ≠ ((.slice Ao49 t143.length co49) : Value).ownBlock ∧ some k_ ≠ ((.slice Ao53 t147.length co53) : Value).ownBlock ∧ some k_ ≠ ((.slice Ao58 t150.length co58) : Value).ownBlock) (.slice Ao45 t140.length co45) t174) ∧ Aside0 (Kd.R (Kd.int .i64) 3 wc w.heap.size (fun k_ => some k_ ≠ ((.slice Ao45 t140.length co45) : Value).ownBlock ∧ some k_ ≠ ((.slice Ao53 t147.length co53) : Value).ownBlock ∧ some k_ ≠ ((.slice Ao58 t150.length co58) : Value).ownBlock) (.slice Ao49 t143.length co49) t175) ∧ Aside0 (Kd.R (Kd.int .i64) 3 wc w.heap.size (fun k_ => some k_ ≠ ((.slice Ao45 t140.length co45) : Value).ownBlock ∧ some k_ ≠ ((.slice Ao49 t143.length co49) : Value).ownBlock ∧ some k_ ≠ ((.slice Ao58 t150.length co58) : Value).ownBlock) (.slice Ao53 t147.length co53) t177) ∧ Aside0 (Kd.R (Kd.int .i64) 3 wc w.heap.size (fun k_ => some k_ ≠ ((.slice Ao45 t140.length co45) : Value).ownBlock ∧ some k_ ≠ ((.slice Ao49 t143.length co49) : Value).ownBlock ∧ some k_ ≠ ((.slice Ao53 t147.length co53) : Value).ownBlock) (.slice Ao58 t150.length co58) t178) ∧ Aside0 (wc.heap[gb120]? = some (.cells #[(.slice A0_0 l0_0.length c0_0), (.slice A0_1 l0_1.length c0_1)] 32 (0, 0))) ∧ Aside0 (wc.heap[gb121]? = some (.cells #[(.slice A1_0 l1_0.length c1_0), (.slice A1_1 l1_1.length c1_1)] 32 (0, 0))) ∧ Aside0 (wc.heap[gb146]? = some (.cells #[(.slice Ao45 t140.length co45), (.slice Ao49 t143.length co49)] 35 (0, 0))) ∧ Aside0 (wc.heap[gb153]? = some (.cells #[(.slice Ao53 t147.length co53), (.slice Ao58 t150.length co58)] 35 (0, 0))) ∧ Aside0 (Below w.heap.size w wc))
   case first =>
    have H := HC75.out
    clear HC75
    by_cases c95 : t176 < 0
    ·rw [if_pos c95] at H
     have c95b0 : decide (t176 < 0) = true := decide_eq_true c95
     clear c95
     (first | rw [c95b0] | (simp only [i64_w, i32_w]; rw [c95b0]) | skip)
     exact absurd H (by rw [hrt.out]; cases kj25 <;> simp [laws_FnExactPlanTo.j1])
    rw [if_neg c95] at H
    have c95b0 : decide (t176 < 0) = false := decide_eq_false c95
    clear c95
    (first | rw [c95b0] | (simp only [i64_w, i32_w]; rw [c95b0]) | skip)
    replace H := Option.bind_eq_some_iff.mp H
    obtain ⟨t179, A960, H⟩ := H
    (try dsimp only at H)
    have A96 := Aside0.mk A960
    clear A960
    by_cases c97 : t179 = true
    rotate_left
    ·replace c97 := Bool.eq_false_iff.mpr c97
     subst c97
     have H1 : (laws_FnExactPlanTo.j1 kj25 a2 t136 t139 t154 true l0_0 l0_1 l1_0 l1_1) = some r := by rw [if_neg (show ¬ (false = true) by decide)] at H; exact H
     clear H
     have H := H1
     clear H1
     exact absurd H (by rw [hrt.out]; cases kj25 <;> simp [laws_FnExactPlanTo.j1])
    subst c97
    have H1 : (laws_FnExactPlanTo.j1 kj25 a2 t136 t139 t154 (t157 != t139) l0_0 l0_1 l1_0 l1_1) = some r := by rw [if_pos rfl] at H; exact H
    clear H
    have H := H1
    clear H1
    have H' := Aside0.mk H
    clear H
    obtain ⟨Ao98, co98, eo98⟩ := Kd.R_slice HO_12.out
    subst eo98
    obtain ⟨Ao99, co99, eo99⟩ := Kd.R_slice HO_8.out
    subst eo99
    go_wp2_with (first | (go_at_call 15; (with_reducible refine (laws_eqMoveS.calls kj25 _ _ t154 _ _ t136 true _ ?side1 ?side2 ?side3 ?side4 A96.out).mono ?_); (case side1 => exact cr HO_12); (case side2 => exact (Kd.R_reads' HO_12.out).2.1); (case side3 => exact cr HO_8); (case side4 => exact (Kd.R_reads' HO_8.out).2.1); rintro e w100 ⟨rfl, hb⟩; replace HO_8 := rb HO_8 hb; replace HO_12 := rb HO_12 hb; replace HO_147000 := rb HO_147000 hb; replace HO_147001 := rb HO_147001 hb; replace HO_154000 := rb HO_154000 hb; replace HO_154001 := rb HO_154001 hb; replace HO161 := rb HO161 hb; replace HO164 := rb HO164 hb; replace HO168 := rb HO168 hb; replace HO171 := rb HO171 hb; replace BK120 := bb BK120 hb; replace BK121 := bb BK121 hb; replace BK146 := bb BK146 hb; replace BK153 := bb BK153 hb; replace HB := bs HB hb; (try clear hb)))
    go_meet
    case rel => exact ⟨_, ((t157 != t139)), (by first | rfl | (simp; done) | (simp [*]; done)), H', ⟨by have := HJ25.out; first | omega | exact Nat.le_refl _⟩, ⟨rk HO_8⟩, ⟨rk HO_12⟩, ⟨by exact Kd.R_mono HO_147000.out (fun _ hk => ⟨hk.1, ⟨hk.2.1, hk.2.2.1⟩⟩)⟩, ⟨by exact Kd.R_mono HO_147001.out (fun _ hk => ⟨hk.1, ⟨hk.2.1, hk.2.2.1⟩⟩)⟩, ⟨by exact Kd.R_mono HO_154000.out (fun _ hk => ⟨hk.1, ⟨hk.2.1, hk.2.2.1⟩⟩)⟩, ⟨by exact Kd.R_mono HO_154001.out (fun _ hk => ⟨hk.1, ⟨hk.2.1, hk.2.2.1⟩⟩)⟩, ⟨bk BK120⟩, ⟨bk BK121⟩, ⟨bk BK146⟩, ⟨bk BK153⟩, ⟨bw HB⟩⟩
   case rest =>
    clear HC75
    try clear c1
    try clear c2
    try clear p2
    try clear c4
    try clear c5
    try clear c5b0
    try clear c6
    try clear c7
    try clear c8
    try clear c9
    try clear c12
    try clear c12b0
    try clear c15
    try clear c18
    try clear c20
    try clear c22
    try clear c23
    try clear c24
    try clear c25
    try clear c29
    try clear c46
    try clear c47
    try clear c54
    try clear c55
    try clear c56
    try clear c62
    try clear c66
    try clear c69
    try clear c72
    try clear c86
    try clear c87
    try clear c88
    try clear c91
    try clear c92
    try clear c95
    try clear c95b0
    try clear c97
    try clear hcz16_0
    try clear hcz16_1
    try clear hcz18_0
    try clear hcz18_1
    try clear hcz30_0
    try clear hcz30_1
    try clear hcz32_0
    try clear hcz32_1
    try clear hcz42_0
    try clear hcz42_1
    try clear hcz48_0
    try clear hcz48_1
    try clear hcz50_0
    try clear hcz50_1
    try clear hcz57_0
    try clear hcz57_1
    try clear hcz59_0
    try clear hcz59_1
    try clear hcz89_0
    try clear hcz89_1
    try clear hcz93_0
    try clear hcz93_1
    try clear hcz9_0
    try clear hcz9_1
    try clear hfz16_0
    try clear hfz16_1
    try clear hfz18_0
    try clear hfz18_1
    try clear hfz30_0
    try clear hfz30_1
    try clear hfz32_0
    try clear hfz32_1
    try clear hfz42_0
    try clear hfz42_1
    try clear hfz48_0
    try clear hfz48_1
    try clear hfz50_0
    try clear hfz50_1
    try clear hfz57_0
    try clear hfz57_1
    try clear hfz59_0
    try clear hfz59_1
    try clear hfz89_0
    try clear hfz89_1
    try clear hfz93_0
    try clear hfz93_1
    try clear hfz9_0
    try clear hfz9_1
    try clear p2
    obtain ⟨kq, x86_74, rfl, HA, HJ74, HO_8, HO_12, HO_147000, HO_147001, HO_154000, HO_154001, BK120, BK121, BK146, BK153, HB⟩ := hcut
    have hl147000_74 := (Kd.R_reads' HO_147000.out).1
    rw [hl147000_74] at HO_147000
    (try simp only [hl147000_74])
    (try simp only [hl147000_74] at BK120)
    (try simp only [hl147000_74] at BK121)
    (try simp only [hl147000_74] at BK146)
    (try simp only [hl147000_74] at BK153)
    (try simp only [hl147000_74] at HO_8)
    (try simp only [hl147000_74] at HO_12)
    (try simp only [hl147000_74] at HO_147001)
    (try simp only [hl147000_74] at HO_154000)
    (try simp only [hl147000_74] at HO_154001)
    have hl147001_74 := (Kd.R_reads' HO_147001.out).1
    rw [hl147001_74] at HO_147001
    (try simp only [hl147001_74])
    (try simp only [hl147001_74] at BK120)
    (try simp only [hl147001_74] at BK121)
    (try simp only [hl147001_74] at BK146)
    (try simp only [hl147001_74] at BK153)
    (try simp only [hl147001_74] at HO_8)
    (try simp only [hl147001_74] at HO_12)
    (try simp only [hl147001_74] at HO_147000)
    (try simp only [hl147001_74] at HO_154000)
    (try simp only [hl147001_74] at HO_154001)
    have hl154000_74 := (Kd.R_reads' HO_154000.out).1
    rw [hl154000_74] at HO_154000
    (try simp only [hl154000_74])
    (try simp only [hl154000_74] at BK120)
    (try simp only [hl154000_74] at BK121)
    (try simp only [hl154000_74] at BK146)
    (try simp only [hl154000_74] at BK153)
    (try simp only [hl154000_74] at HO_8)
    (try simp only [hl154000_74] at HO_12)
    (try simp only [hl154000_74] at HO_147000)
    (try simp only [hl154000_74] at HO_147001)
    (try simp only [hl154000_74] at HO_154001)
    have hl154001_74 := (Kd.R_reads' HO_154001.out).1
    rw [hl154001_74] at HO_154001
    (try simp only [hl154001_74])
    (try simp only [hl154001_74] at BK120)
    (try simp only [hl154001_74] at BK121)
    (try simp only [hl154001_74] at BK146)
    (try simp only [hl154001_74] at BK153)
    (try simp only [hl154001_74] at HO_8)
    (try simp only [hl154001_74] at HO_12)
    (try simp only [hl154001_74] at HO_147000)
    (try simp only [hl154001_74] at HO_147001)
    (try simp only [hl154001_74] at HO_154000)
    cases kq with
    | zero => exact absurd HA.out (by simp [laws_FnExactPlanTo.j1])
    | succ kj74 =>
     have H := HA.out
     clear HA
     simp only [laws_FnExactPlanTo.j1] at H
     by_cases c101 : x86_74 = true
     ·subst c101
      have H1 : (some false) = some r := by rw [if_pos rfl] at H; exact H
      clear H
      have H := H1
      clear H1
      exact absurd ((Option.some.inj H).trans hrt.out) (by decide)
     replace c101 := Bool.eq_false_iff.mpr c101
     subst c101
     have H1 : ((laws_markMoveS.f kj74 t154 1).bind fun bt180 => ((laws_heldMoveS.f kj74 bt180.2 1).bind fun t182 => (if t182 < 0 then (some false) else (if t182 = bt180.1 then ((laws_toVessels.f kj74 l0_0 l0_1).bind fun bt183 => ((laws_toVessels.f kj74 l1_0 l1_1).bind fun bt189 => ((impl_PlanTo.f kj74 bt183.1 bt183.2 bt189.1 bt189.2 a2).bind fun bt195 => ((laws_eqMoveS.f kj74 bt195.1 t136).bind fun t199 => (if t199 = true then (laws_FnExactPlanTo.j2 kj74 bt180.2 bt180.1 (bt195.2 != t139)) else (laws_FnExactPlanTo.j2 kj74 bt180.2 bt180.1 true)))))) else (some false))))) = some r := by rw [if_neg (show ¬ (false = true) by decide)] at H; exact H
     clear H
     have H := H1
     clear H1
     replace H := Option.bind_eq_some_iff.mp H
     obtain ⟨⟨t180, t181⟩, A1020, H⟩ := H
     (try dsimp only at H)
     have A102 := Aside0.mk A1020
     clear A1020
     replace H := Option.bind_eq_some_iff.mp H
     obtain ⟨t182, A1030, H⟩ := H
     (try dsimp only at H)
     have A103 := Aside0.mk A1030
     clear A1030
     by_cases c104 : t182 < 0
     ·rw [if_pos c104] at H
      have c104b0 : decide (t182 < 0) = true := decide_eq_true c104
      clear c104
      exact absurd ((Option.some.inj H).trans hrt.out) (by decide)
     rw [if_neg c104] at H
     have c104b0 : decide (t182 < 0) = false := decide_eq_false c104
     clear c104
     by_cases c105 : t182 = t180
     rotate_left
     ·rw [if_neg c105] at H
      have c105b0 : (t182 == t180) = false := beq_eq_false_iff_ne.mpr c105
      have c105b1 : (t182 != t180) = true := bne_iff_ne.mpr c105
      exact absurd ((Option.some.inj H).trans hrt.out) (by decide)
     rw [if_pos c105] at H
     have c105b0 : (t182 == t180) = true := beq_iff_eq.mpr c105
     have c105b1 : (t182 != t180) = false := bne_eq_false_iff_eq.mpr c105
     clear c105
     replace H := Option.bind_eq_some_iff.mp H
     obtain ⟨⟨t183, t186⟩, A1060, H⟩ := H
     (try dsimp only at H)
     have A106 := Aside0.mk A1060
     clear A1060
     replace H := Option.bind_eq_some_iff.mp H
     obtain ⟨⟨t189, t192⟩, A1070, H⟩ := H
     (try dsimp only at H)
     have A107 := Aside0.mk A1070
     clear A1070
     replace H := Option.bind_eq_some_iff.mp H
     obtain ⟨⟨t195, t198⟩, A1080, H⟩ := H
     (try dsimp only at H)
     have A108 := Aside0.mk A1080
     clear A1080
     have HC109 := Aside0.mk H
     clear H
     obtain ⟨Ao110, co110, eo110⟩ := Kd.R_slice HO_12.out
     subst eo110
     try go_wp2_with (first | ((with_reducible refine gate_callee (f := 16) rfl ?_); refine gl 89 Try.func16 #[.slice Ao110 t154.length co110, .int .i64 1] ?_; (with_reducible refine (laws_markMoveS.calls kj74 (fun k_ => some k_ = (.slice Ao110 t154.length co110 : Value).ownBlock) (.slice Ao110 t154.length co110) t154 1 t180 t181 w _ ?side1 ?side2 A102.out).mono ?_); (case side1 => repeat (first | (with_reducible first | exact HB.out | apply below_alloc | apply pw_below_drewN | apply below_drew1 | refine below_set ?_ GE120.out | refine below_set ?_ GE121.out | refine below_set ?_ GE146.out | refine below_set ?_ GE153.out) | exact HB.out)); (case side2 => exact Kd.R_tight rfl HO_12.out); rintro e w111 ⟨rfl, hy0, hb, hkp⟩; refine ⟨_, rfl, ?_⟩; replace HO_8 := Aside0.mk (Kd.R_mono (ok' := fun k_ => some k_ ≠ (.slice Ao110 t154.length co110 : Value).ownBlock) (Kd.R_keptB (HO_8.out) hkp (fun k_ hk_ hs_ => (hk_) hs_)) (fun k_ hk_ => hk_.1)); replace HO_147000 := Aside0.mk (Kd.R_mono (ok' := fun k_ => some k_ ≠ (.slice Ao49 t175.length co49 : Value).ownBlock ∧ some k_ ≠ (.slice Ao53 t177.length co53 : Value).ownBlock ∧ some k_ ≠ (.slice Ao58 t178.length co58 : Value).ownBlock) (Kd.R_keptB ((Kd.R_apart' HO_147000.out (Kd.R_typed HO_12.out) (by decide))) hkp (fun k_ hk_ hs_ => (hk_.2) hs_)) (fun k_ hk_ => ⟨hk_.1.1.1, hk_.1.1.2.1, hk_.1.1.2.2⟩)); replace HO_147001 := Aside0.mk (Kd.R_mono (ok' := fun k_ => some k_ ≠ (.slice Ao45 t174.length co45 : Value).ownBlock ∧ some k_ ≠ (.slice Ao53 t177.length co53 : Value).ownBlock ∧ some k_ ≠ (.slice Ao58 t178.length co58 : Value).ownBlock) (Kd.R_keptB ((Kd.R_apart' HO_147001.out (Kd.R_typed HO_12.out) (by decide))) hkp (fun k_ hk_ hs_ => (hk_.2) hs_)) (fun k_ hk_ => ⟨hk_.1.1.1, hk_.1.1.2.1, hk_.1.1.2.2⟩)); replace HO_154000 := Aside0.mk (Kd.R_mono (ok' := fun k_ => some k_ ≠ (.slice Ao45 t174.length co45 : Value).ownBlock ∧ some k_ ≠ (.slice Ao49 t175.length co49 : Value).ownBlock ∧ some k_ ≠ (.slice Ao58 t178.length co58 : Value).ownBlock) (Kd.R_keptB ((Kd.R_apart' HO_154000.out (Kd.R_typed HO_12.out) (by decide))) hkp (fun k_ hk_ hs_ => (hk_.2) hs_)) (fun k_ hk_ => ⟨hk_.1.1.1, hk_.1.1.2.1, hk_.1.1.2.2⟩)); replace HO_154001 := Aside0.mk (Kd.R_mono (ok' := fun k_ => some k_ ≠ (.slice Ao45 t174.length co45 : Value).ownBlock ∧ some k_ ≠ (.slice Ao49 t175.length co49 : Value).ownBlock ∧ some k_ ≠ (.slice Ao53 t177.length co53 : Value).ownBlock) (Kd.R_keptB ((Kd.R_apart' HO_154001.out (Kd.R_typed HO_12.out) (by decide))) hkp (fun k_ hk_ hs_ => (hk_.2) hs_)) (fun k_ hk_ => ⟨hk_.1.1.1, hk_.1.1.2.1, hk_.1.1.2.2⟩)); replace BK120 := Aside0.mk (blk_kept (bk BK120) hkp (fun hs_ => (fun e_ => (Kd.R_ne HO_12.out BK120.out (by decide)) e_) hs_)); replace BK121 := Aside0.mk (blk_kept (bk BK121) hkp (fun hs_ => (fun e_ => (Kd.R_ne HO_12.out BK121.out (by decide)) e_) hs_)); replace BK146 := Aside0.mk (blk_kept (bk BK146) hkp (fun hs_ => (fun e_ => (Kd.R_ne HO_12.out BK146.out (by decide)) e_) hs_)); replace BK153 := Aside0.mk (blk_kept (bk BK153) hkp (fun hs_ => (fun e_ => (Kd.R_ne HO_12.out BK153.out (by decide)) e_) hs_)); replace HO_12 := Aside0.mk (Kd.R_reok rfl hy0 (fun k_ e_ => HO_12.out.1 k_ e_)); replace HB := Aside0.mk (hb); (try clear hb); (try clear hkp); (try clear hy0)) | ((with_reducible refine gate_callee (f := 17) rfl ?_); refine goesL_ (some 92) rfl rfl Try.func17 (by kernel_rfl) rfl #[.slice Ao110 t181.length co110, .int .i64 1] rfl (by (try simp only [List.map_toArray, List.map_cons, List.map_nil]); first | done | (rw [show t181.length = t154.length from (Kd.R_reads' HO_12.out).1.symm] <;> rfl) | rfl | (simp only [List.length_drop, List.length_take]; rfl)) ?_; (with_reducible refine (laws_heldMoveS.calls kj74 _ _ t181 1 t182 _ ?side1 ?side2 A103.out).mono ?_); (case side1 => exact cr HO_12); (case side2 => rw [show t181.length = t154.length from (Kd.R_reads' HO_12.out).1.symm]; exact (Kd.R_reads' HO_12.out).2.1); rintro e w' ⟨rfl, ⟨nd, rfl⟩⟩; refine ⟨_, rfl, ?_⟩))
     (try (rw [drewN_self w111]; generalize hq_ : World.drewN w111 _ = w111; have n0_ : Aside0 (Kd.R k55 55 w111 w.heap.size (fun k_ => some k_ ≠ (v137 : Value).ownBlock) (.slice Ao110 t154.length co110) t181) := ⟨by rw [← hq_]; exact (rk HO_12)⟩; have n1_ : Aside0 (Kd.R (Kd.int .i64) 3 w111 w.heap.size (fun k_ => some k_ ≠ (.slice Ao49 t175.length co49 : Value).ownBlock ∧ some k_ ≠ (.slice Ao53 t177.length co53 : Value).ownBlock ∧ some k_ ≠ (.slice Ao58 t178.length co58 : Value).ownBlock) (.slice Ao45 t174.length co45) t174) := ⟨by rw [← hq_]; exact (rk HO_147000)⟩; have n2_ : Aside0 (Kd.R (Kd.int .i64) 3 w111 w.heap.size (fun k_ => some k_ ≠ (.slice Ao45 t174.length co45 : Value).ownBlock ∧ some k_ ≠ (.slice Ao53 t177.length co53 : Value).ownBlock ∧ some k_ ≠ (.slice Ao58 t178.length co58 : Value).ownBlock) (.slice Ao49 t175.length co49) t175) := ⟨by rw [← hq_]; exact (rk HO_147001)⟩; have n3_ : Aside0 (Kd.R (Kd.int .i64) 3 w111 w.heap.size (fun k_ => some k_ ≠ (.slice Ao45 t174.length co45 : Value).ownBlock ∧ some k_ ≠ (.slice Ao49 t175.length co49 : Value).ownBlock ∧ some k_ ≠ (.slice Ao58 t178.length co58 : Value).ownBlock) (.slice Ao53 t177.length co53) t177) := ⟨by rw [← hq_]; exact (rk HO_154000)⟩; have n4_ : Aside0 (Kd.R (Kd.int .i64) 3 w111 w.heap.size (fun k_ => some k_ ≠ (.slice Ao45 t174.length co45 : Value).ownBlock ∧ some k_ ≠ (.slice Ao49 t175.length co49 : Value).ownBlock ∧ some k_ ≠ (.slice Ao53 t177.length co53 : Value).ownBlock) (.slice Ao58 t178.length co58) t178) := ⟨by rw [← hq_]; exact (rk HO_154001)⟩; have n5_ : Aside0 (Kd.R k55 55 w111 w.heap.size (fun k_ => some k_ ≠ (.slice Ao110 t154.length co110 : Value).ownBlock) v137 t136) := ⟨by rw [← hq_]; exact (rk HO_8)⟩; have n6_ : Aside0 (w111.heap[gb120]? = some (.cells #[.slice A0_0 l0_0.length c0_0, .slice A0_1 l0_1.length c0_1] 32 (0, 0))) := ⟨by rw [← hq_]; exact (bk BK120)⟩; have n7_ : Aside0 (w111.heap[gb121]? = some (.cells #[.slice A1_0 l1_0.length c1_0, .slice A1_1 l1_1.length c1_1] 32 (0, 0))) := ⟨by rw [← hq_]; exact (bk BK121)⟩; have n8_ : Aside0 (w111.heap[gb146]? = some (.cells #[.slice Ao45 t174.length co45, .slice Ao49 t175.length co49] 35 (0, 0))) := ⟨by rw [← hq_]; exact (bk BK146)⟩; have n9_ : Aside0 (w111.heap[gb153]? = some (.cells #[.slice Ao53 t177.length co53, .slice Ao58 t178.length co58] 35 (0, 0))) := ⟨by rw [← hq_]; exact (bk BK153)⟩; have n10_ : Aside0 (Below w.heap.size w w111) := ⟨by rw [← hq_]; exact (bw HB)⟩; clear HO_12 HO_147000 HO_147001 HO_154000 HO_154001 HO_8 BK120 BK121 BK146 BK153 HB hq_; have HO_12 := n0_; have HO_147000 := n1_; have HO_147001 := n2_; have HO_154000 := n3_; have HO_154001 := n4_; have HO_8 := n5_; have BK120 := n6_; have BK121 := n7_; have BK146 := n8_; have BK153 := n9_; have HB := n10_; clear n0_ n1_ n2_ n3_ n4_ n5_ n6_ n7_ n8_ n9_ n10_))
     replace HO_8 := Aside0.mk (Kd.R_drew HO_8.out)
     replace HO_12 := Aside0.mk (Kd.R_drew HO_12.out)
     replace HO_147000 := Aside0.mk (Kd.R_drew HO_147000.out)
     replace HO_147001 := Aside0.mk (Kd.R_drew HO_147001.out)
     replace HO_154000 := Aside0.mk (Kd.R_drew HO_154000.out)
     replace HO_154001 := Aside0.mk (Kd.R_drew HO_154001.out)
     replace BK120 := Aside0.mk (blk_drew BK120.out)
     replace BK121 := Aside0.mk (blk_drew BK121.out)
     replace BK146 := Aside0.mk (blk_drew BK146.out)
     replace BK153 := Aside0.mk (blk_drew BK153.out)
     replace HB := Aside0.mk (below_drew1 HB.out)
     refine start_ (n := 11) (S := fun w' => w'.cell? ⟨gb120, 0, none⟩ = some (.slice A0_0 l0_0.length c0_0) ∧ w'.cell? ⟨gb120, 1, none⟩ = some (.slice A0_1 l0_1.length c0_1) ∧ w'.cell? ⟨gb121, 0, none⟩ = some (.slice A1_0 l1_0.length c1_0) ∧ w'.cell? ⟨gb121, 1, none⟩ = some (.slice A1_1 l1_1.length c1_1)) (ds := []) (bl 11 0) (by kernel_rfl) rfl rfl ⟨bc0 BK120, bc1 BK120, bc0 BK121, bc1 BK121⟩ (fun hHeld => ?_); refine with_tabW laws_FnExactPlanTo.tab31 laws_FnExactPlanTo.bits31 (fun HT_ HW_ => ?_)
     generalize w111.drew = w112 at HO_8 HO_12 HO_147000 HO_147001 HO_154000 HO_154001 BK120 BK121 BK146 BK153 HB hHeld ⊢
     refine pu 4 103 (bl 11 16) HT_.out (v := ?_) (a' := ?_) ?_ ?_ ?_
     rotate_left; (intro w'; go_simp; with_reducible rfl); rotate_left; (simp only [sqa, sqb, sqc, sqd, i64_w, i32_w]; rfl)
     refine tk 0 99 (bl 11 17) HT_.out HW_.out hHeld (v := ?_) (a' := ?_) ?_ ?_ ?_
     rotate_left; (rintro w' ⟨s0, s1, s2, s3⟩; go_simp; with_reducible rfl); rotate_left; (simp only [sqa, sqb, sqc, sqd, i64_w, i32_w]; rfl)
     refine tk 2 101 (bl 11 21) HT_.out HW_.out hHeld (v := ?_) (a' := ?_) ?_ ?_ ?_
     rotate_left; (rintro w' ⟨s0, s1, s2, s3⟩; go_simp; with_reducible rfl); rotate_left; (simp only [sqa, sqb, sqc, sqd, i64_w, i32_w]; rfl)
     refine on 1 100 (bl 11 23) HT_.out (fun K hK => ?_)
     refine gs Try.func20 #[.agg #[.slice A0_0 l0_0.length c0_0, .slice A0_1 l0_1.length c0_1]] ?_
     with_reducible refine (laws_toVessels.calls kj74 _ _ l0_0 _ _ l0_1 t183 t186 _ ?side1 ?side2 ?side3 ?side4 A106.out).mono ?_
     (case side1 => exact ck HR0_0 HB)
     (case side2 => exact HC0_0.out)
     (case side3 => exact ck HR0_1 HB)
     (case side4 => exact HC0_1.out)
     rintro e w113 ⟨v184, v187, rfl, ho0, ho1, hb⟩
     refine ⟨_, rfl, ?_⟩
     replace HO_8 := rb HO_8 hb
     replace HO_12 := rb HO_12 hb
     have HO185 := Aside0.mk (Kd.R_lower (Kd.R_new' (Kd.R_new' (Kd.R_new' (Kd.R_new' ho0 (Kd.R_lt (rk HO_147000))) (Kd.R_lt (rk HO_147001))) (Kd.R_lt (rk HO_154000))) (Kd.R_lt (rk HO_154001))) (below_size (bw HB)))
     have HO188 := Aside0.mk (Kd.R_lower (Kd.R_new' (Kd.R_new' (Kd.R_new' (Kd.R_new' ho1 (Kd.R_lt (rk HO_147000))) (Kd.R_lt (rk HO_147001))) (Kd.R_lt (rk HO_154000))) (Kd.R_lt (rk HO_154001))) (below_size (bw HB)))
     replace HO_147000 := Aside0.mk (Kd.R_mono (Kd.R_told (Kd.R_told (Kd.R_old (rk HO_147000) hb) (Kd.R_base ho0)) (Kd.R_base ho1)) (fun _ h_ => h_.1))
     replace HO_147001 := Aside0.mk (Kd.R_mono (Kd.R_told (Kd.R_told (Kd.R_old (rk HO_147001) hb) (Kd.R_base ho0)) (Kd.R_base ho1)) (fun _ h_ => h_.1))
     replace HO_154000 := Aside0.mk (Kd.R_mono (Kd.R_told (Kd.R_told (Kd.R_old (rk HO_154000) hb) (Kd.R_base ho0)) (Kd.R_base ho1)) (fun _ h_ => h_.1))
     replace HO_154001 := Aside0.mk (Kd.R_mono (Kd.R_told (Kd.R_told (Kd.R_old (rk HO_154001) hb) (Kd.R_base ho0)) (Kd.R_base ho1)) (fun _ h_ => h_.1))
     replace BK120 := bb BK120 hb
     replace BK121 := bb BK121 hb
     replace BK146 := bb BK146 hb
     replace BK153 := bb BK153 hb
     replace HB := bs HB hb
     (try clear hb); (try clear hb2); (try clear hk); (try clear hi); (try clear ho0); (try clear ho1)
     refine hK.out _ _ ⟨bc0 BK120, bc1 BK120, bc0 BK121, bc1 BK121⟩ (fun hHeld => ?_)
     clear hK K
     refine norm_ (a' := ?_) ?_ ?_; rotate_left; (show Act.put _ (some 100) _ = _; simp only [sqa, sqb, sqc, sqd, i64_w, i32_w]; rfl)
     refine on 3 102 (bl 11 31) HT_.out (fun K hK => ?_)
     refine gs Try.func20 #[.agg #[.slice A1_0 l1_0.length c1_0, .slice A1_1 l1_1.length c1_1]] ?_
     with_reducible refine (laws_toVessels.calls kj74 _ _ l1_0 _ _ l1_1 t189 t192 _ ?side1 ?side2 ?side3 ?side4 A107.out).mono ?_
     (case side1 => exact ck HR1_0 HB)
     (case side2 => exact HC1_0.out)
     (case side3 => exact ck HR1_1 HB)
     (case side4 => exact HC1_1.out)
     rintro e w114 ⟨v190, v193, rfl, ho0, ho1, hb⟩
     refine ⟨_, rfl, ?_⟩
     replace HO_8 := rb HO_8 hb
     replace HO_12 := rb HO_12 hb
     have HO191 := Aside0.mk (Kd.R_lower (Kd.R_new' (Kd.R_new' (Kd.R_new' (Kd.R_new' (Kd.R_new' (Kd.R_new' ho0 (Kd.R_lt (rk HO_147000))) (Kd.R_lt (rk HO_147001))) (Kd.R_lt (rk HO_154000))) (Kd.R_lt (rk HO_154001))) (Kd.R_lt (rk HO185))) (Kd.R_lt (rk HO188))) (below_size (bw HB)))
     have HO194 := Aside0.mk (Kd.R_lower (Kd.R_new' (Kd.R_new' (Kd.R_new' (Kd.R_new' (Kd.R_new' (Kd.R_new' ho1 (Kd.R_lt (rk HO_147000))) (Kd.R_lt (rk HO_147001))) (Kd.R_lt (rk HO_154000))) (Kd.R_lt (rk HO_154001))) (Kd.R_lt (rk HO185))) (Kd.R_lt (rk HO188))) (below_size (bw HB)))
     replace HO_147000 := Aside0.mk (Kd.R_mono (Kd.R_told (Kd.R_told (Kd.R_old (rk HO_147000) hb) (Kd.R_base ho0)) (Kd.R_base ho1)) (fun _ h_ => h_.1))
     replace HO_147001 := Aside0.mk (Kd.R_mono (Kd.R_told (Kd.R_told (Kd.R_old (rk HO_147001) hb) (Kd.R_base ho0)) (Kd.R_base ho1)) (fun _ h_ => h_.1))
     replace HO_154000 := Aside0.mk (Kd.R_mono (Kd.R_told (Kd.R_told (Kd.R_old (rk HO_154000) hb) (Kd.R_base ho0)) (Kd.R_base ho1)) (fun _ h_ => h_.1))
     replace HO_154001 := Aside0.mk (Kd.R_mono (Kd.R_told (Kd.R_told (Kd.R_old (rk HO_154001) hb) (Kd.R_base ho0)) (Kd.R_base ho1)) (fun _ h_ => h_.1))
     replace HO185 := Aside0.mk (Kd.R_mono (Kd.R_told (Kd.R_told (Kd.R_old (rk HO185) hb) (Kd.R_base ho0)) (Kd.R_base ho1)) (fun _ h_ => h_.1))
     replace HO188 := Aside0.mk (Kd.R_mono (Kd.R_told (Kd.R_told (Kd.R_old (rk HO188) hb) (Kd.R_base ho0)) (Kd.R_base ho1)) (fun _ h_ => h_.1))
     replace BK120 := bb BK120 hb
     replace BK121 := bb BK121 hb
     replace BK146 := bb BK146 hb
     replace BK153 := bb BK153 hb
     replace HB := bs HB hb
     (try clear hb); (try clear hb2); (try clear hk); (try clear hi); (try clear ho0); (try clear ho1)
     obtain ⟨Ao115, co115, eo115⟩ := Kd.R_slice HO185.out
     (first | subst eo115 | (injection eo115 with f1_ f2_ f3_; have f4_ := f1_.symm; have f5_ := f3_.symm; clear f1_ f2_ f3_; subst f4_; subst f5_))
     obtain ⟨Ao116, co116, eo116⟩ := Kd.R_slice HO188.out
     (first | subst eo116 | (injection eo116 with f1_ f2_ f3_; have f4_ := f1_.symm; have f5_ := f3_.symm; clear f1_ f2_ f3_; subst f4_; subst f5_))
     obtain ⟨Ao117, co117, eo117⟩ := Kd.R_slice HO191.out
     (first | subst eo117 | (injection eo117 with f1_ f2_ f3_; have f4_ := f1_.symm; have f5_ := f3_.symm; clear f1_ f2_ f3_; subst f4_; subst f5_))
     obtain ⟨Ao118, co118, eo118⟩ := Kd.R_slice HO194.out
     (first | subst eo118 | (injection eo118 with f1_ f2_ f3_; have f4_ := f1_.symm; have f5_ := f3_.symm; clear f1_ f2_ f3_; subst f4_; subst f5_))
     refine hK.out _ _ ⟨bc0 BK120, bc1 BK120, bc0 BK121, bc1 BK121⟩ (fun hHeld => ?_)
     clear hK K
     refine norm_ (a' := ?_) ?_ ?_; rotate_left; (show Act.put _ (some 102) _ = _; simp only [sqa, sqb, sqc, sqd, i64_w, i32_w]; rfl)
     refine on 5 104 (bl 11 63) HT_.out (fun K hK => ?_)
     refine gs Try.func25 #[.agg #[.slice Ao115 t183.length co115, .slice Ao116 t186.length co116], .agg #[.slice Ao117 t189.length co117, .slice Ao118 t192.length co118], .bool a2] ?_
     with_reducible refine (impl_PlanTo.calls kj74 _ _ t183 _ _ t186 _ _ t189 _ _ t192 a2 t195 t198 _ ?side1 ?side2 ?side3 ?side4 ?side5 ?side6 ?side7 ?side8 A108.out).mono ?_
     (case side1 => exact cr HO185)
     (case side2 => exact (Kd.R_reads' HO185.out).2.1)
     (case side3 => exact cr HO188)
     (case side4 => exact (Kd.R_reads' HO188.out).2.1)
     (case side5 => exact cr HO191)
     (case side6 => exact (Kd.R_reads' HO191.out).2.1)
     (case side7 => exact cr HO194)
     (case side8 => exact (Kd.R_reads' HO194.out).2.1)
     rintro e w119 ⟨v196, rfl, ho0, hb⟩
     refine ⟨_, rfl, ?_⟩
     replace HO_147000 := rb HO_147000 hb
     replace HO_147001 := rb HO_147001 hb
     replace HO_154000 := rb HO_154000 hb
     replace HO_154001 := rb HO_154001 hb
     replace HO185 := rb HO185 hb
     replace HO188 := rb HO188 hb
     replace HO191 := rb HO191 hb
     replace HO194 := rb HO194 hb
     have HO197 := Aside0.mk (Kd.R_lower (Kd.R_new' (Kd.R_new' ho0 (Kd.R_lt (rk HO_8))) (Kd.R_lt (rk HO_12))) (below_size (bw HB)))
     replace HO_8 := Aside0.mk (Kd.R_elder' (rk HO_8) (Kd.R_base ho0) hb)
     replace HO_12 := Aside0.mk (Kd.R_elder' (rk HO_12) (Kd.R_base ho0) hb)
     replace BK120 := bb BK120 hb
     replace BK121 := bb BK121 hb
     replace BK146 := bb BK146 hb
     replace BK153 := bb BK153 hb
     replace HB := bs HB hb
     (try clear hb); (try clear hb2); (try clear hk); (try clear hi); (try clear ho0)
     refine hK.out _ _ ⟨bc0 BK120, bc1 BK120, bc0 BK121, bc1 BK121⟩ (fun hHeld => ?_)
     clear hK K
     refine norm_ (a' := ?_) ?_ ?_; rotate_left; (show Act.put _ (some 104) _ = _; simp only [sqa, sqb, sqc, sqd, i64_w, i32_w]; rfl)
     refine pu 6 98 (bl 11 127) HT_.out (v := ?_) (a' := ?_) ?_ ?_ ?_
     rotate_left; (intro w'; go_simp; with_reducible rfl); rotate_left; (simp only [sqa, sqb, sqc, sqd, i64_w, i32_w]; rfl)
     refine pu 7 105 (bl 11 255) HT_.out (v := ?_) (a' := ?_) ?_ ?_ ?_
     rotate_left; (intro w'; go_simp; with_reducible rfl); rotate_left; (simp only [sqa, sqb, sqc, sqd, i64_w, i32_w]; rfl)
     refine pu 8 106 (bl 11 511) HT_.out (v := ?_) (a' := ?_) ?_ ?_ ?_
     rotate_left; (intro w'; go_simp; with_reducible rfl); rotate_left; (simp only [sqa, sqb, sqc, sqd, i64_w, i32_w]; rfl)
     refine pu 9 17 (bl 11 1023) HT_.out (v := ?_) (a' := ?_) ?_ ?_ ?_
     rotate_left; (intro w'; go_simp; with_reducible rfl); rotate_left; (simp only [sqa, sqb, sqc, sqd, i64_w, i32_w]; rfl)
     refine pu 10 18 (bl 11 2047) HT_.out (v := ?_) (a' := ?_) ?_ ?_ ?_
     rotate_left; (intro w'; go_simp; with_reducible rfl); rotate_left; (simp only [sqa, sqb, sqc, sqd, i64_w, i32_w]; rfl)
     refine done_ (done_of HT_.out (by kernel_rfl)) ?_
     go_upto_region 32 with (fail)
     go_cut [115] (fun v115 wc => ∃ (kq : Nat) (x115_108 : Bool), v115 = .bool x115_108 ∧ Aside0 (laws_FnExactPlanTo.j2 kq t181 t180 x115_108 = some r) ∧ Aside0 (kq ≤ kj74) ∧ Aside0 (Kd.R k55 55 wc w.heap.size (fun _ => True) (.slice Ao110 t154.length co110) t181) ∧ Aside0 (Kd.R (Kd.int .i64) 3 wc w.heap.size (fun k_ => some k_ ≠ ((.slice Ao49 t175.length co49) : Value).ownBlock ∧ some k_ ≠ ((.slice Ao53 t177.length co53) : Value).ownBlock ∧ some k_ ≠ ((.slice Ao58 t178.length co58) : Value).ownBlock) (.slice Ao45 t174.length co45) t174) ∧ Aside0 (Kd.R (Kd.int .i64) 3 wc w.heap.size (fun k_ => some k_ ≠ ((.slice Ao45 t174.length co45) : Value).ownBlock ∧ some k_ ≠ ((.slice Ao53 t177.length co53) : Value).ownBlock ∧ some k_ ≠ ((.slice Ao58 t178.length co58) : Value).ownBlock) (.slice Ao49 t175.length co49) t175) ∧ Aside0 (Kd.R (Kd.int .i64) 3 wc w.heap.size (fun k_ => some k_ ≠ ((.slice Ao45 t174.length co45) : Value).ownBlock ∧ some k_ ≠ ((.slice Ao49 t175.length co49) : Value).ownBlock ∧ some k_ ≠ ((.slice Ao58 t178.length co58) : Value).ownBlock) (.slice Ao53 t177.length co53) t177) ∧ Aside0 (Kd.R (Kd.int .i64) 3 wc w.heap.size (fun k_ => some k_ ≠ ((.slice Ao45 t174.length co45) : Value).ownBlock ∧ some k_ ≠ ((.slice Ao49 t175.length co49) : Value).ownBlock ∧ some k_ ≠ ((.slice Ao53 t177.length co53) : Value).ownBlock) (.slice Ao58 t178.length co58) t178) ∧ Aside0 (wc.heap[gb120]? = some (.cells #[(.slice A0_0 l0_0.length c0_0), (.slice A0_1 l0_1.length c0_1)] 32 (0, 0))) ∧ Aside0 (wc.heap[gb121]? = some (.cells #[(.slice A1_0 l1_0.length c1_0), (.slice A1_1 l1_1.length c1_1)] 32 (0, 0))) ∧ Aside0 (wc.heap[gb146]? = some (.cells #[(.slice Ao45 t174.length co45), (.slice Ao49 t175.length co49)] 35 (0, 0))) ∧ Aside0 (wc.heap[gb153]? = some (.cells #[(.slice Ao53 t177.length co53), (.slice Ao58 t178.length co58)] 35 (0, 0))) ∧ Aside0 (Below w.heap.size w wc))
     case first =>
      have H := HC109.out
      clear HC109
      replace H := Option.bind_eq_some_iff.mp H
      obtain ⟨t199, A1200, H⟩ := H
      (try dsimp only at H)
      have A120 := Aside0.mk A1200
      clear A1200
      by_cases c121 : t199 = true
      rotate_left
      ·replace c121 := Bool.eq_false_iff.mpr c121
       subst c121
       have H1 : (laws_FnExactPlanTo.j2 kj74 t181 t180 true) = some r := by rw [if_neg (show ¬ (false = true) by decide)] at H; exact H
       clear H
       have H := H1
       clear H1
       exact absurd H (by rw [hrt.out]; cases kj74 <;> simp [laws_FnExactPlanTo.j2])
      subst c121
      have H1 : (laws_FnExactPlanTo.j2 kj74 t181 t180 (t198 != t139)) = some r := by rw [if_pos rfl] at H; exact H
      clear H
      have H := H1
      clear H1
      have H' := Aside0.mk H
      clear H
      obtain ⟨Ao122, co122, eo122⟩ := Kd.R_slice HO197.out
      subst eo122
      obtain ⟨Ao123, co123, eo123⟩ := Kd.R_slice HO_8.out
      subst eo123
      go_wp2_with (first | ((with_reducible refine gate_callee (f := 15) rfl ?_); refine gl 109 Try.func15 #[.slice Ao122 t195.length co122, .slice Ao123 t136.length co123] ?_; (with_reducible refine (laws_eqMoveS.calls kj74 _ _ t195 _ _ t136 true _ ?side1 ?side2 ?side3 ?side4 A120.out).mono ?_); (case side1 => exact cr HO197); (case side2 => exact (Kd.R_reads' HO197.out).2.1); (case side3 => exact cr HO_8); (case side4 => exact (Kd.R_reads' HO_8.out).2.1); rintro e w124 ⟨rfl, hb⟩; refine ⟨_, rfl, ?_⟩; replace HO_8 := rb HO_8 hb; replace HO_12 := rb HO_12 hb; replace HO_147000 := rb HO_147000 hb; replace HO_147001 := rb HO_147001 hb; replace HO_154000 := rb HO_154000 hb; replace HO_154001 := rb HO_154001 hb; replace HO185 := rb HO185 hb; replace HO188 := rb HO188 hb; replace HO191 := rb HO191 hb; replace HO194 := rb HO194 hb; replace HO197 := rb HO197 hb; replace BK120 := bb BK120 hb; replace BK121 := bb BK121 hb; replace BK146 := bb BK146 hb; replace BK153 := bb BK153 hb; replace HB := bs HB hb; (try clear hb)))
      go_meet
      case rel => exact ⟨_, ((t198 != t139)), (by first | rfl | (simp; done) | (simp [*]; done)), H', ⟨by have := HJ25.out; have := HJ74.out; first | omega | exact Nat.le_refl _⟩, ⟨by (try simp only [hl147000_74]); (try simp only [hl147001_74]); (try simp only [hl154000_74]); (try simp only [hl154001_74]); exact Kd.R_mono HO_12.out (fun _ hk => trivial)⟩, ⟨by (try simp only [hl147000_74]); (try simp only [hl147001_74]); (try simp only [hl154000_74]); (try simp only [hl154001_74]); exact Kd.R_mono HO_147000.out (fun _ hk => ⟨hk.1.1.1.1.1, ⟨hk.1.1.1.1.2.1, hk.1.1.1.1.2.2⟩⟩)⟩, ⟨by (try simp only [hl147000_74]); (try simp only [hl147001_74]); (try simp only [hl154000_74]); (try simp only [hl154001_74]); exact Kd.R_mono HO_147001.out (fun _ hk => ⟨hk.1.1.1.1.1, ⟨hk.1.1.1.1.2.1, hk.1.1.1.1.2.2⟩⟩)⟩, ⟨by (try simp only [hl147000_74]); (try simp only [hl147001_74]); (try simp only [hl154000_74]); (try simp only [hl154001_74]); exact Kd.R_mono HO_154000.out (fun _ hk => ⟨hk.1.1.1.1.1, ⟨hk.1.1.1.1.2.1, hk.1.1.1.1.2.2⟩⟩)⟩, ⟨by (try simp only [hl147000_74]); (try simp only [hl147001_74]); (try simp only [hl154000_74]); (try simp only [hl154001_74]); exact Kd.R_mono HO_154001.out (fun _ hk => ⟨hk.1.1.1.1.1, ⟨hk.1.1.1.1.2.1, hk.1.1.1.1.2.2⟩⟩)⟩, ⟨by (try simp only [hl147000_74]); (try simp only [hl147001_74]); (try simp only [hl154000_74]); (try simp only [hl154001_74]); exact bk BK120⟩, ⟨by (try simp only [hl147000_74]); (try simp only [hl147001_74]); (try simp only [hl154000_74]); (try simp only [hl154001_74]); exact bk BK121⟩, ⟨by (try simp only [hl147000_74]); (try simp only [hl147001_74]); (try simp only [hl154000_74]); (try simp only [hl154001_74]); exact bk BK146⟩, ⟨by (try simp only [hl147000_74]); (try simp only [hl147001_74]); (try simp only [hl154000_74]); (try simp only [hl154001_74]); exact bk BK153⟩, ⟨bw HB⟩⟩
     case rest =>
      clear HC109
      try clear c1
      try clear c2
      try clear p2
      try clear c4
      try clear c5
      try clear c5b0
      try clear c6
      try clear c7
      try clear c8
      try clear c9
      try clear c10
      try clear c12
      try clear c12b0
      try clear c15
      try clear c16
      try clear c17
      try clear c18
      try clear c20
      try clear c22
      try clear c23
      try clear c24
      try clear c25
      try clear c29
      try clear c46
      try clear c47
      try clear c54
      try clear c55
      try clear c56
      try clear c62
      try clear c66
      try clear c69
      try clear c72
      try clear c86
      try clear c87
      try clear c88
      try clear c91
      try clear c92
      try clear c95
      try clear c95b0
      try clear c97
      try clear c101
      try clear c104
      try clear c104b0
      try clear c105
      try clear c105b0
      try clear c105b1
      try clear c121
      try clear hcz16_0
      try clear hcz16_1
      try clear hcz18_0
      try clear hcz18_1
      try clear hcz30_0
      try clear hcz30_1
      try clear hcz32_0
      try clear hcz32_1
      try clear hcz42_0
      try clear hcz42_1
      try clear hcz48_0
      try clear hcz48_1
      try clear hcz50_0
      try clear hcz50_1
      try clear hcz57_0
      try clear hcz57_1
      try clear hcz59_0
      try clear hcz59_1
      try clear hcz89_0
      try clear hcz89_1
      try clear hcz93_0
      try clear hcz93_1
      try clear hcz9_0
      try clear hcz9_1
      try clear hfz16_0
      try clear hfz16_1
      try clear hfz18_0
      try clear hfz18_1
      try clear hfz30_0
      try clear hfz30_1
      try clear hfz32_0
      try clear hfz32_1
      try clear hfz42_0
      try clear hfz42_1
      try clear hfz48_0
      try clear hfz48_1
      try clear hfz50_0
      try clear hfz50_1
      try clear hfz57_0
      try clear hfz57_1
      try clear hfz59_0
      try clear hfz59_1
      try clear hfz89_0
      try clear hfz89_1
      try clear hfz93_0
      try clear hfz93_1
      try clear hfz9_0
      try clear hfz9_1
      try clear p2
      obtain ⟨kq, x115_108, rfl, HA, HJ108, HO_12, HO_147000, HO_147001, HO_154000, HO_154001, BK120, BK121, BK146, BK153, HB⟩ := hcut
      have hl12_108 := (Kd.R_reads' HO_12.out).1
      rw [hl12_108] at HO_12
      (try simp only [hl12_108])
      (try simp only [hl12_108] at BK120)
      (try simp only [hl12_108] at BK121)
      (try simp only [hl12_108] at BK146)
      (try simp only [hl12_108] at BK153)
      (try simp only [hl12_108] at HO_147000)
      (try simp only [hl12_108] at HO_147001)
      (try simp only [hl12_108] at HO_154000)
      (try simp only [hl12_108] at HO_154001)
      cases kq with
      | zero => exact absurd HA.out (by simp [laws_FnExactPlanTo.j2])
      | succ kj108 =>
       have H := HA.out
       clear HA
       simp only [laws_FnExactPlanTo.j2] at H
       by_cases c125 : x115_108 = true
       ·subst c125
        have H1 : (some false) = some r := by rw [if_pos rfl] at H; exact H
        clear H
        have H := H1
        clear H1
        exact absurd ((Option.some.inj H).trans hrt.out) (by decide)
       replace c125 := Bool.eq_false_iff.mpr c125
       subst c125
       have H1 : ((laws_heldMoveS.f kj108 t181 1).bind fun t200 => (if t200 < 0 then (some false) else (if t200 = t180 then (some true) else (some false)))) = some r := by rw [if_neg (show ¬ (false = true) by decide)] at H; exact H
       clear H
       have H := H1
       clear H1
       replace H := Option.bind_eq_some_iff.mp H
       obtain ⟨t200, A1260, H⟩ := H
       (try dsimp only at H)
       have A126 := Aside0.mk A1260
       clear A1260
       by_cases c127 : t200 < 0
       ·rw [if_pos c127] at H
        have c127b0 : decide (t200 < 0) = true := decide_eq_true c127
        clear c127
        exact absurd ((Option.some.inj H).trans hrt.out) (by decide)
       rw [if_neg c127] at H
       have c127b0 : decide (t200 < 0) = false := decide_eq_false c127
       clear c127
       by_cases c128 : t200 = t180
       rotate_left
       ·rw [if_neg c128] at H
        have c128b0 : (t200 == t180) = false := beq_eq_false_iff_ne.mpr c128
        have c128b1 : (t200 != t180) = true := bne_iff_ne.mpr c128
        exact absurd ((Option.some.inj H).trans hrt.out) (by decide)
       rw [if_pos c128] at H
       have c128b0 : (t200 == t180) = true := beq_iff_eq.mpr c128
       have c128b1 : (t200 != t180) = false := bne_eq_false_iff_eq.mpr c128
       clear c128
       obtain rfl := Option.some.inj H
       go_wp2_with (first | ((with_reducible refine gate_callee (f := 17) rfl ?_); refine gl 118 Try.func17 #[.slice Ao110 t181.length co110, .int .i64 1] ?_; (with_reducible refine (laws_heldMoveS.calls kj108 _ _ t181 1 t200 _ ?side1 ?side2 A126.out).mono ?_); (case side1 => exact cr HO_12); (case side2 => exact (Kd.R_reads' HO_12.out).2.1); rintro e w' ⟨rfl, ⟨nd, rfl⟩⟩; refine ⟨_, rfl, ?_⟩))
       go_ret
       exact ⟨by first | rfl | (simp [errW_none, errW_some] <;> rfl) | (simp [*, errW_none, errW_some] <;> rfl), bw HB⟩
end Go.Proofs.Ytieioddimkafbaa.V
