-- Functions of the program as plain functions, and that the calls come to them. Written by a program (ownprint.py); nothing here is trusted: Lean checks it.
import Derived.Test.YtigpkicbigpilaaTfVx4
import Derived.Test.YtigpkicbigpilaaTfVsP
import Derived.Test.YtigpkicbigpilaaTfViP
namespace Go.Proofs.Ytigpkicbigpilaa.V
open Go.RowKit Go.Proofs.YtigpkicbigpilaaW.PrintWords Go.Proofs.YtigpkicbigpilaaW.PrintLast Go.Proofs.YtigpkicbigpilaaW.PrintMore Go.Proofs.Ytigpkicbigpilaa.Sq
attribute [local go_sem] max2_int min2_int max_two min_two max_three min_three max_four min_four   -- for this text's walks alone
set_option linter.unusedVariables false
set_option linter.unusedSimpArgs false
def laws_FnExactCountPlans.j0 : Nat → Bool → List Int → List Int → List Int → List Int → List Int → List Int → List Int → List Int → Option (Bool)
 | 0, _, _, _, _, _, _, _, _, _ => none
 | k + 1, x51, x112000, x112001, x113000, x113001, x136000, x136001, x143000, x143001 => if x51 = true then (some false) else ((laws_toVessels.f k x112000 x112001).bind fun bt145 => ((laws_eqVessels.f k x136000 x136001 bt145.1 bt145.2).bind fun t151 => (if t151 = true then ((laws_toVessels.f k x113000 x113001).bind fun bt152 => ((laws_eqVessels.f k x143000 x143001 bt152.1 bt152.2).bind fun t158 => (if t158 = true then (some true) else (some false)))) else (some false))))
def laws_FnExactCountPlans.f (k : Nat) (l0_0 : List Int) (l0_1 : List Int) (l1_0 : List Int) (l1_1 : List Int) (a2 : Bool) : Option (Bool) := (laws_szVessels.f l0_0 l0_1 1048576).bind fun t113 => (if t113 < 0 then (some true) else ((laws_szVessels.f l1_0 l1_1 t113).bind fun t114 => (if t114 < 0 then (some true) else ((laws_toVessels.f k l0_0 l0_1).bind fun bt115 => ((laws_toVessels.f k l1_0 l1_1).bind fun bt121 => ((spec_CountPlans.f k bt115.1 bt115.2 bt121.1 bt121.2 a2).bind fun bt127 => ((laws_toVessels.f k l0_0 l0_1).bind fun bt129 => ((laws_toVessels.f k l1_0 l1_1).bind fun bt136 => ((impl_CountPlans.f k bt129.1 bt129.2 bt136.1 bt136.2 a2).bind fun bt143 => (if bt143.1 = bt127.1 then (laws_FnExactCountPlans.j0 k (bt143.2 != bt127.2) l0_0 l0_1 l1_0 l1_1 bt129.1 bt129.2 bt136.1 bt136.2) else (laws_FnExactCountPlans.j0 k true l0_0 l0_1 l1_0 l1_1 bt129.1 bt129.2 bt136.1 bt136.2)))))))))))
def laws_FnExactCountPlans.T8 : Bool × List (List Nat × List Nat) := (true, [([], []), ([0], [0]), ([], []), ([2, 1], [2]), ([], []), ([1, 3, 4, 3], [1, 3, 4]), ([5], [5]), ([6], [6]), ([6], [6]), ([7, 5, 0, 1, 2, 3, 4, 5, 6, 7], [7]), ([8, 9, 0, 1, 2, 3, 4, 5, 6, 7, 8, 9], [8])])
def laws_FnExactCountPlans.B8 : List Nat := [0, 1, 0, 7, 0, 31, 63, 127, 127, 255, 1023]
theorem laws_FnExactCountPlans.tab8 : rtab .any (opsOf Try.f10 8) = laws_FnExactCountPlans.T8 := by kernel_rfl
theorem laws_FnExactCountPlans.bits8 : waitsOk laws_FnExactCountPlans.T8.2 laws_FnExactCountPlans.B8 = true := by kernel_rfl
set_option maxHeartbeats 8000000 in
set_option maxRecDepth 100000 in
theorem laws_FnExactCountPlans.calls (k : Nat) (A0_0 : Option Addr) (c0_0 : Nat) (l0_0 : List Int) (A0_1 : Option Addr) (c0_1 : Nat) (l0_1 : List Int) (A1_0 : Option Addr) (c1_0 : Nat) (l1_0 : List Int) (A1_1 : Option Addr) (c1_1 : Nat) (l1_1 : List Int) (a2 : Bool) (r : Bool) (w : World) (hr0_0 : Kd.C (Kd.int .i64) w A0_0 l0_0.length l0_0) (hc0_0 : l0_0.length ≤ c0_0) (hr0_1 : Kd.C (Kd.int .i64) w A0_1 l0_1.length l0_1) (hc0_1 : l0_1.length ≤ c0_1) (hr1_0 : Kd.C (Kd.int .i64) w A1_0 l1_0.length l1_0) (hc1_0 : l1_0.length ≤ c1_0) (hr1_1 : Kd.C (Kd.int .i64) w A1_1 l1_1.length l1_1) (hc1_1 : l1_1.length ≤ c1_1) (hrt : Aside0 (r = true)) (h : laws_FnExactCountPlans.f k l0_0 l0_1 l1_0 l1_1 a2 = some r) :
  Calls Try.prog 10 #[.agg #[.slice A0_0 l0_0.length c0_0, .slice A0_1 l0_1.length c0_1], .agg #[.slice A1_0 l1_0.length c1_0, .slice A1_1 l1_1.length c1_1], .bool a2] w fun e w' => e = .returned (.bool r) ∧ Below w.heap.size w w' := by
 have hu24 := Try.underlying24
 have hu29 := Try.underlying29
 have HR0_0 := Aside0.mk hr0_0
 have HC0_0 := Aside0.mk hc0_0
 clear hr0_0 hc0_0
 have HR0_1 := Aside0.mk hr0_1
 have HC0_1 := Aside0.mk hc0_1
 clear hr0_1 hc0_1
 have HR1_0 := Aside0.mk hr1_0
 have HC1_0 := Aside0.mk hc1_0
 clear hr1_0 hc1_0
 have HR1_1 := Aside0.mk hr1_1
 have HC1_1 := Aside0.mk hc1_1
 clear hr1_1 hc1_1
 have HB := Aside0.mk (Below.refl w.heap.size w)
 have H : ((laws_szVessels.f l0_0 l0_1 1048576).bind fun t113 => (if t113 < 0 then (some true) else ((laws_szVessels.f l1_0 l1_1 t113).bind fun t114 => (if t114 < 0 then (some true) else ((laws_toVessels.f k l0_0 l0_1).bind fun bt115 => ((laws_toVessels.f k l1_0 l1_1).bind fun bt121 => ((spec_CountPlans.f k bt115.1 bt115.2 bt121.1 bt121.2 a2).bind fun bt127 => ((laws_toVessels.f k l0_0 l0_1).bind fun bt129 => ((laws_toVessels.f k l1_0 l1_1).bind fun bt136 => ((impl_CountPlans.f k bt129.1 bt129.2 bt136.1 bt136.2 a2).bind fun bt143 => (if bt143.1 = bt127.1 then (laws_FnExactCountPlans.j0 k (bt143.2 != bt127.2) l0_0 l0_1 l1_0 l1_1 bt129.1 bt129.2 bt136.1 bt136.2) else (laws_FnExactCountPlans.j0 k true l0_0 l0_1 l1_0 l1_1 bt129.1 bt129.2 bt136.1 bt136.2)))))))))))) = some r := h
 clear h
 replace H := Option.bind_eq_some_iff.mp H
 obtain ⟨t113, A40, H⟩ := H
 (try dsimp only at H)
 have A4 := Aside0.mk A40
 clear A40
 by_cases c5 : t113 < 0
 ·rw [if_pos c5] at H
  have c5b0 : decide (t113 < 0) = true := decide_eq_true c5
  clear c5
  obtain rfl := Option.some.inj H
  go_enter Try.func10, Try.ntmps10
  go_wp2_with (first | ((with_reducible refine gate_dst (N := 3) rfl ?_); refine bx 3 #[.slice A0_0 l0_0.length c0_0, .slice A0_1 l0_1.length c0_1] 24 ?_; intro gb111 hg w6 hbox hb; have BK111 := Aside0.mk (hbox); have GW111 := ge HB hg; have GE111 := ge HB hg; replace HB := bs HB hb; clear hb hbox hg) | ((with_reducible refine gate_dst (N := 4) rfl ?_); refine bx 4 #[.slice A1_0 l1_0.length c1_0, .slice A1_1 l1_1.length c1_1] 24 ?_; intro gb112 hg w7 hbox hb; have BK112 := Aside0.mk (hbox); have GW112 := ge HB hg; have GE112 := ge HB hg; replace HB := bs HB hb; have NB111_112 := nl BK111 hg; have NB112_111 := nr BK111 hg; replace BK111 := bb BK111 hb; clear hb hbox hg; have hnb8 := NB111_112.out; have hnc8 := NB112_111.out; have hcz9_0 := bc0 BK111; have hcz9_1 := bc1 BK111; have hfz9_0 := blk_frozen BK111.out 0; have hfz9_1 := blk_frozen BK111.out 1) | ((with_reducible refine gate_callee (f := 17) rfl ?_); refine gl 16 Try.func17 #[.agg #[.slice A0_0 l0_0.length c0_0, .slice A0_1 l0_1.length c0_1], .int .i64 1048576] ?_; (with_reducible refine (laws_szVessels.calls _ _ l0_0 _ _ l0_1 1048576 t113 _ ?side1 ?side2 ?side3 ?side4 A4.out).mono ?_); (case side1 => exact ck HR0_0 HB); (case side2 => exact HC0_0.out); (case side3 => exact ck HR0_1 HB); (case side4 => exact HC0_1.out); rintro e w10 ⟨rfl, hb⟩; refine ⟨_, rfl, ?_⟩; replace BK111 := bb BK111 hb; replace BK112 := bb BK112 hb; replace HB := bs HB hb; (try clear hb)))
  go_ret
  exact ⟨by first | rfl | (simp [errW_none, errW_some] <;> rfl) | (simp [*, errW_none, errW_some] <;> rfl), bw HB⟩
 rw [if_neg c5] at H
 have c5b0 : decide (t113 < 0) = false := decide_eq_false c5
 clear c5
 replace H := Option.bind_eq_some_iff.mp H
 obtain ⟨t114, A110, H⟩ := H
 (try dsimp only at H)
 have A11 := Aside0.mk A110
 clear A110
 by_cases c12 : t114 < 0
 ·rw [if_pos c12] at H
  have c12b0 : decide (t114 < 0) = true := decide_eq_true c12
  clear c12
  obtain rfl := Option.some.inj H
  go_enter Try.func10, Try.ntmps10
  go_wp2_with (first | ((with_reducible refine gate_dst (N := 3) rfl ?_); refine bx 3 #[.slice A0_0 l0_0.length c0_0, .slice A0_1 l0_1.length c0_1] 24 ?_; intro gb111 hg w13 hbox hb; have BK111 := Aside0.mk (hbox); have GW111 := ge HB hg; have GE111 := ge HB hg; replace HB := bs HB hb; clear hb hbox hg) | ((with_reducible refine gate_dst (N := 4) rfl ?_); refine bx 4 #[.slice A1_0 l1_0.length c1_0, .slice A1_1 l1_1.length c1_1] 24 ?_; intro gb112 hg w14 hbox hb; have BK112 := Aside0.mk (hbox); have GW112 := ge HB hg; have GE112 := ge HB hg; replace HB := bs HB hb; have NB111_112 := nl BK111 hg; have NB112_111 := nr BK111 hg; replace BK111 := bb BK111 hb; clear hb hbox hg; have hnb15 := NB111_112.out; have hnc15 := NB112_111.out; have hcz16_0 := bc0 BK111; have hcz16_1 := bc1 BK111; have hfz16_0 := blk_frozen BK111.out 0; have hfz16_1 := blk_frozen BK111.out 1) | ((with_reducible refine gate_callee (f := 17) rfl ?_); refine gl 16 Try.func17 #[.agg #[.slice A0_0 l0_0.length c0_0, .slice A0_1 l0_1.length c0_1], .int .i64 1048576] ?_; (with_reducible refine (laws_szVessels.calls _ _ l0_0 _ _ l0_1 1048576 t113 _ ?side1 ?side2 ?side3 ?side4 A4.out).mono ?_); (case side1 => exact ck HR0_0 HB); (case side2 => exact HC0_0.out); (case side3 => exact ck HR0_1 HB); (case side4 => exact HC0_1.out); rintro e w17 ⟨rfl, hb⟩; refine ⟨_, rfl, ?_⟩; replace BK111 := bb BK111 hb; replace BK112 := bb BK112 hb; replace HB := bs HB hb; (try clear hb); have hcz18_0 := bc0 BK112; have hcz18_1 := bc1 BK112; have hfz18_0 := blk_frozen BK112.out 0; have hfz18_1 := blk_frozen BK112.out 1) | ((with_reducible refine gate_callee (f := 17) rfl ?_); refine gl 21 Try.func17 #[.agg #[.slice A1_0 l1_0.length c1_0, .slice A1_1 l1_1.length c1_1], .int .i64 t113] ?_; (with_reducible refine (laws_szVessels.calls _ _ l1_0 _ _ l1_1 t113 t114 _ ?side1 ?side2 ?side3 ?side4 A11.out).mono ?_); (case side1 => exact ck HR1_0 HB); (case side2 => exact HC1_0.out); (case side3 => exact ck HR1_1 HB); (case side4 => exact HC1_1.out); rintro e w19 ⟨rfl, hb⟩; refine ⟨_, rfl, ?_⟩; replace BK111 := bb BK111 hb; replace BK112 := bb BK112 hb; replace HB := bs HB hb; (try clear hb)))
  go_ret
  exact ⟨by first | rfl | (simp [errW_none, errW_some] <;> rfl) | (simp [*, errW_none, errW_some] <;> rfl), bw HB⟩
 rw [if_neg c12] at H
 have c12b0 : decide (t114 < 0) = false := decide_eq_false c12
 clear c12
 replace H := Option.bind_eq_some_iff.mp H
 obtain ⟨⟨t115, t118⟩, A200, H⟩ := H
 (try dsimp only at H)
 have A20 := Aside0.mk A200
 clear A200
 replace H := Option.bind_eq_some_iff.mp H
 obtain ⟨⟨t121, t124⟩, A210, H⟩ := H
 (try dsimp only at H)
 have A21 := Aside0.mk A210
 clear A210
 replace H := Option.bind_eq_some_iff.mp H
 obtain ⟨⟨t127, t128⟩, A220, H⟩ := H
 (try dsimp only at H)
 have A22 := Aside0.mk A220
 clear A220
 replace H := Option.bind_eq_some_iff.mp H
 obtain ⟨⟨t129, t132⟩, A230, H⟩ := H
 (try dsimp only at H)
 have A23 := Aside0.mk A230
 clear A230
 replace H := Option.bind_eq_some_iff.mp H
 obtain ⟨⟨t136, t139⟩, A240, H⟩ := H
 (try dsimp only at H)
 have A24 := Aside0.mk A240
 clear A240
 replace H := Option.bind_eq_some_iff.mp H
 obtain ⟨⟨t143, t144⟩, A250, H⟩ := H
 (try dsimp only at H)
 have A25 := Aside0.mk A250
 clear A250
 have HC26 := Aside0.mk H
 clear H
 go_enter Try.func10, Try.ntmps10
 try go_wp2_with (first | ((with_reducible refine gate_dst (N := 3) rfl ?_); refine bx 3 #[.slice A0_0 l0_0.length c0_0, .slice A0_1 l0_1.length c0_1] 24 ?_; intro gb111 hg w27 hbox hb; have BK111 := Aside0.mk (hbox); have GW111 := ge HB hg; have GE111 := ge HB hg; replace HB := bs HB hb; clear hb hbox hg) | ((with_reducible refine gate_dst (N := 4) rfl ?_); refine bx 4 #[.slice A1_0 l1_0.length c1_0, .slice A1_1 l1_1.length c1_1] 24 ?_; intro gb112 hg w28 hbox hb; have BK112 := Aside0.mk (hbox); have GW112 := ge HB hg; have GE112 := ge HB hg; replace HB := bs HB hb; have NB111_112 := nl BK111 hg; have NB112_111 := nr BK111 hg; replace BK111 := bb BK111 hb; clear hb hbox hg; have hnb29 := NB111_112.out; have hnc29 := NB112_111.out; have hcz30_0 := bc0 BK111; have hcz30_1 := bc1 BK111; have hfz30_0 := blk_frozen BK111.out 0; have hfz30_1 := blk_frozen BK111.out 1) | ((with_reducible refine gate_callee (f := 17) rfl ?_); refine gl 16 Try.func17 #[.agg #[.slice A0_0 l0_0.length c0_0, .slice A0_1 l0_1.length c0_1], .int .i64 1048576] ?_; (with_reducible refine (laws_szVessels.calls _ _ l0_0 _ _ l0_1 1048576 t113 _ ?side1 ?side2 ?side3 ?side4 A4.out).mono ?_); (case side1 => exact ck HR0_0 HB); (case side2 => exact HC0_0.out); (case side3 => exact ck HR0_1 HB); (case side4 => exact HC0_1.out); rintro e w31 ⟨rfl, hb⟩; refine ⟨_, rfl, ?_⟩; replace BK111 := bb BK111 hb; replace BK112 := bb BK112 hb; replace HB := bs HB hb; (try clear hb); have hcz32_0 := bc0 BK112; have hcz32_1 := bc1 BK112; have hfz32_0 := blk_frozen BK112.out 0; have hfz32_1 := blk_frozen BK112.out 1) | ((with_reducible refine gate_callee (f := 17) rfl ?_); refine gl 21 Try.func17 #[.agg #[.slice A1_0 l1_0.length c1_0, .slice A1_1 l1_1.length c1_1], .int .i64 t113] ?_; (with_reducible refine (laws_szVessels.calls _ _ l1_0 _ _ l1_1 t113 t114 _ ?side1 ?side2 ?side3 ?side4 A11.out).mono ?_); (case side1 => exact ck HR1_0 HB); (case side2 => exact HC1_0.out); (case side3 => exact ck HR1_1 HB); (case side4 => exact HC1_1.out); rintro e w33 ⟨rfl, hb⟩; refine ⟨_, rfl, ?_⟩; replace BK111 := bb BK111 hb; replace BK112 := bb BK112 hb; replace HB := bs HB hb; (try clear hb)))
 replace BK111 := Aside0.mk (blk_drew BK111.out)
 replace BK112 := Aside0.mk (blk_drew BK112.out)
 replace HB := Aside0.mk (below_drew1 HB.out)
 refine start_ (n := 11) (S := fun w' => w'.cell? ⟨gb111, 0, none⟩ = some (.slice A0_0 l0_0.length c0_0) ∧ w'.cell? ⟨gb111, 1, none⟩ = some (.slice A0_1 l0_1.length c0_1) ∧ w'.cell? ⟨gb112, 0, none⟩ = some (.slice A1_0 l1_0.length c1_0) ∧ w'.cell? ⟨gb112, 1, none⟩ = some (.slice A1_1 l1_1.length c1_1)) (ds := []) (bl 11 0) (by kernel_rfl) rfl rfl ⟨bc0 BK111, bc1 BK111, bc0 BK112, bc1 BK112⟩ (fun hHeld => ?_); refine with_tabW laws_FnExactCountPlans.tab8 laws_FnExactCountPlans.bits8 (fun HT_ HW_ => ?_)
 generalize w33.drew = w34 at BK111 BK112 HB hHeld ⊢
 refine pu 4 29 (bl 11 16) HT_.out (v := ?_) (a' := ?_) ?_ ?_ ?_
 rotate_left; (intro w'; go_simp; with_reducible rfl); rotate_left; (simp only [sqa, sqb, sqc, sqd, i64_w, i32_w]; rfl)
 refine tk 0 25 (bl 11 17) HT_.out HW_.out hHeld (v := ?_) (a' := ?_) ?_ ?_ ?_
 rotate_left; (rintro w' ⟨s0, s1, s2, s3⟩; go_simp; with_reducible rfl); rotate_left; (simp only [sqa, sqb, sqc, sqd, i64_w, i32_w]; rfl)
 refine tk 2 27 (bl 11 21) HT_.out HW_.out hHeld (v := ?_) (a' := ?_) ?_ ?_ ?_
 rotate_left; (rintro w' ⟨s0, s1, s2, s3⟩; go_simp; with_reducible rfl); rotate_left; (simp only [sqa, sqb, sqc, sqd, i64_w, i32_w]; rfl)
 refine on 1 26 (bl 11 23) HT_.out (fun K hK => ?_)
 refine gs Try.func19 #[.agg #[.slice A0_0 l0_0.length c0_0, .slice A0_1 l0_1.length c0_1]] ?_
 with_reducible refine (laws_toVessels.calls k _ _ l0_0 _ _ l0_1 t115 t118 _ ?side1 ?side2 ?side3 ?side4 A20.out).mono ?_
 (case side1 => exact ck HR0_0 HB)
 (case side2 => exact HC0_0.out)
 (case side3 => exact ck HR0_1 HB)
 (case side4 => exact HC0_1.out)
 rintro e w35 ⟨v116, v119, rfl, ho0, ho1, hb⟩
 refine ⟨_, rfl, ?_⟩
 have HO117 := lo ho0 HB
 have HO120 := lo ho1 HB
 replace BK111 := bb BK111 hb
 replace BK112 := bb BK112 hb
 replace HB := bs HB hb
 (try clear hb); (try clear hb2); (try clear hk); (try clear hi); (try clear ho0); (try clear ho1)
 refine hK.out _ _ ⟨bc0 BK111, bc1 BK111, bc0 BK112, bc1 BK112⟩ (fun hHeld => ?_)
 clear hK K
 refine norm_ (a' := ?_) ?_ ?_; rotate_left; (show Act.put _ (some 26) _ = _; simp only [sqa, sqb, sqc, sqd, i64_w, i32_w]; rfl)
 refine on 3 28 (bl 11 31) HT_.out (fun K hK => ?_)
 refine gs Try.func19 #[.agg #[.slice A1_0 l1_0.length c1_0, .slice A1_1 l1_1.length c1_1]] ?_
 with_reducible refine (laws_toVessels.calls k _ _ l1_0 _ _ l1_1 t121 t124 _ ?side1 ?side2 ?side3 ?side4 A21.out).mono ?_
 (case side1 => exact ck HR1_0 HB)
 (case side2 => exact HC1_0.out)
 (case side3 => exact ck HR1_1 HB)
 (case side4 => exact HC1_1.out)
 rintro e w36 ⟨v122, v125, rfl, ho0, ho1, hb⟩
 refine ⟨_, rfl, ?_⟩
 have HO123 := Aside0.mk (Kd.R_lower (Kd.R_new' (Kd.R_new' ho0 (Kd.R_lt (rk HO117))) (Kd.R_lt (rk HO120))) (below_size (bw HB)))
 have HO126 := Aside0.mk (Kd.R_lower (Kd.R_new' (Kd.R_new' ho1 (Kd.R_lt (rk HO117))) (Kd.R_lt (rk HO120))) (below_size (bw HB)))
 replace HO117 := Aside0.mk (Kd.R_mono (Kd.R_told (Kd.R_told (Kd.R_old (rk HO117) hb) (Kd.R_base ho0)) (Kd.R_base ho1)) (fun _ h_ => h_.1))
 replace HO120 := Aside0.mk (Kd.R_mono (Kd.R_told (Kd.R_told (Kd.R_old (rk HO120) hb) (Kd.R_base ho0)) (Kd.R_base ho1)) (fun _ h_ => h_.1))
 replace BK111 := bb BK111 hb
 replace BK112 := bb BK112 hb
 replace HB := bs HB hb
 (try clear hb); (try clear hb2); (try clear hk); (try clear hi); (try clear ho0); (try clear ho1)
 obtain ⟨Ao37, co37, eo37⟩ := Kd.R_slice HO117.out
 (first | subst eo37 | (injection eo37 with f1_ f2_ f3_; have f4_ := f1_.symm; have f5_ := f3_.symm; clear f1_ f2_ f3_; subst f4_; subst f5_))
 obtain ⟨Ao38, co38, eo38⟩ := Kd.R_slice HO120.out
 (first | subst eo38 | (injection eo38 with f1_ f2_ f3_; have f4_ := f1_.symm; have f5_ := f3_.symm; clear f1_ f2_ f3_; subst f4_; subst f5_))
 obtain ⟨Ao39, co39, eo39⟩ := Kd.R_slice HO123.out
 (first | subst eo39 | (injection eo39 with f1_ f2_ f3_; have f4_ := f1_.symm; have f5_ := f3_.symm; clear f1_ f2_ f3_; subst f4_; subst f5_))
 obtain ⟨Ao40, co40, eo40⟩ := Kd.R_slice HO126.out
 (first | subst eo40 | (injection eo40 with f1_ f2_ f3_; have f4_ := f1_.symm; have f5_ := f3_.symm; clear f1_ f2_ f3_; subst f4_; subst f5_))
 refine hK.out _ _ ⟨bc0 BK111, bc1 BK111, bc0 BK112, bc1 BK112⟩ (fun hHeld => ?_)
 clear hK K
 refine norm_ (a' := ?_) ?_ ?_; rotate_left; (show Act.put _ (some 28) _ = _; simp only [sqa, sqb, sqc, sqd, i64_w, i32_w]; rfl)
 refine on 5 30 (bl 11 63) HT_.out (fun K hK => ?_)
 refine gs Try.func40 #[.agg #[.slice Ao37 t115.length co37, .slice Ao38 t118.length co38], .agg #[.slice Ao39 t121.length co39, .slice Ao40 t124.length co40], .bool a2] ?_
 with_reducible refine (spec_CountPlans.calls k _ _ t115 _ _ t118 _ _ t121 _ _ t124 a2 t127 t128 _ ?side1 ?side2 ?side3 ?side4 ?side5 ?side6 ?side7 ?side8 A22.out).mono ?_
 (case side1 => exact cr HO117)
 (case side2 => exact (Kd.R_reads' HO117.out).2.1)
 (case side3 => exact cr HO120)
 (case side4 => exact (Kd.R_reads' HO120.out).2.1)
 (case side5 => exact cr HO123)
 (case side6 => exact (Kd.R_reads' HO123.out).2.1)
 (case side7 => exact cr HO126)
 (case side8 => exact (Kd.R_reads' HO126.out).2.1)
 rintro e w41 ⟨rfl, hb⟩
 refine ⟨_, rfl, ?_⟩
 replace HO117 := rb HO117 hb
 replace HO120 := rb HO120 hb
 replace HO123 := rb HO123 hb
 replace HO126 := rb HO126 hb
 replace BK111 := bb BK111 hb
 replace BK112 := bb BK112 hb
 replace HB := bs HB hb
 (try clear hb); (try clear hb2); (try clear hk); (try clear hi)
 refine hK.out _ _ ⟨bc0 BK111, bc1 BK111, bc0 BK112, bc1 BK112⟩ (fun hHeld => ?_)
 clear hK K
 refine norm_ (a' := ?_) ?_ ?_; rotate_left; (show Act.put _ (some 30) _ = _; simp only [sqa, sqb, sqc, sqd, i64_w, i32_w]; rfl)
 refine pu 6 24 (bl 11 127) HT_.out (v := ?_) (a' := ?_) ?_ ?_ ?_
 rotate_left; (intro w'; go_simp; with_reducible rfl); rotate_left; (simp only [sqa, sqb, sqc, sqd, i64_w, i32_w]; rfl)
 refine pu 7 31 (bl 11 255) HT_.out (v := ?_) (a' := ?_) ?_ ?_ ?_
 rotate_left; (intro w'; go_simp; with_reducible rfl); rotate_left; (simp only [sqa, sqb, sqc, sqd, i64_w, i32_w]; rfl)
 refine pu 8 32 (bl 11 511) HT_.out (v := ?_) (a' := ?_) ?_ ?_ ?_
 rotate_left; (intro w'; go_simp; with_reducible rfl); rotate_left; (simp only [sqa, sqb, sqc, sqd, i64_w, i32_w]; rfl)
 refine pu 9 8 (bl 11 1023) HT_.out (v := ?_) (a' := ?_) ?_ ?_ ?_
 rotate_left; (intro w'; go_simp; with_reducible rfl); rotate_left; (simp only [sqa, sqb, sqc, sqd, i64_w, i32_w]; rfl)
 refine pu 10 9 (bl 11 2047) HT_.out (v := ?_) (a' := ?_) ?_ ?_ ?_
 rotate_left; (intro w'; go_simp; with_reducible rfl); rotate_left; (simp only [sqa, sqb, sqc, sqd, i64_w, i32_w]; rfl)
 refine done_ (done_of HT_.out (by kernel_rfl)) ?_
 have hcz42_0 := bc0 BK111
 have hcz42_1 := bc1 BK111
 have hfz42_0 := blk_frozen BK111.out 0
 have hfz42_1 := blk_frozen BK111.out 1
 go_upto_region 12 with (first | ((with_reducible refine gate_callee (f := 19) rfl ?_); refine gl 34 Try.func19 #[.agg #[.slice A0_0 l0_0.length c0_0, .slice A0_1 l0_1.length c0_1]] ?_; (with_reducible refine (laws_toVessels.calls k _ _ l0_0 _ _ l0_1 t129 t132 _ ?side1 ?side2 ?side3 ?side4 A23.out).mono ?_); (case side1 => exact ck HR0_0 HB); (case side2 => exact HC0_0.out); (case side3 => exact ck HR0_1 HB); (case side4 => exact HC0_1.out); rintro e w43 ⟨v130, v133, rfl, ho0, ho1, hb⟩; refine ⟨_, rfl, ?_⟩; have HO131 := Aside0.mk (Kd.R_lower (Kd.R_new' (Kd.R_new' (Kd.R_new' (Kd.R_new' ho0 (Kd.R_lt (rk HO117))) (Kd.R_lt (rk HO120))) (Kd.R_lt (rk HO123))) (Kd.R_lt (rk HO126))) (below_size (bw HB))); have HO134 := Aside0.mk (Kd.R_lower (Kd.R_new' (Kd.R_new' (Kd.R_new' (Kd.R_new' ho1 (Kd.R_lt (rk HO117))) (Kd.R_lt (rk HO120))) (Kd.R_lt (rk HO123))) (Kd.R_lt (rk HO126))) (below_size (bw HB))); replace HO117 := Aside0.mk (Kd.R_mono (Kd.R_told (Kd.R_told (Kd.R_old (rk HO117) hb) (Kd.R_base ho0)) (Kd.R_base ho1)) (fun _ h_ => h_.1)); replace HO120 := Aside0.mk (Kd.R_mono (Kd.R_told (Kd.R_told (Kd.R_old (rk HO120) hb) (Kd.R_base ho0)) (Kd.R_base ho1)) (fun _ h_ => h_.1)); replace HO123 := Aside0.mk (Kd.R_mono (Kd.R_told (Kd.R_told (Kd.R_old (rk HO123) hb) (Kd.R_base ho0)) (Kd.R_base ho1)) (fun _ h_ => h_.1)); replace HO126 := Aside0.mk (Kd.R_mono (Kd.R_told (Kd.R_told (Kd.R_old (rk HO126) hb) (Kd.R_base ho0)) (Kd.R_base ho1)) (fun _ h_ => h_.1)); replace BK111 := bb BK111 hb; replace BK112 := bb BK112 hb; replace HB := bs HB hb; (try clear hb); (try clear ho0); (try clear ho1)) | ((with_reducible refine gate_dst (N := 10) rfl ?_); refine bx 10 #[.slice none 0 0, .slice none 0 0] 29 ?_; intro gb135 hg w44 hbox hb; replace HO117 := rb HO117 hb; replace HO120 := rb HO120 hb; replace HO123 := rb HO123 hb; replace HO126 := rb HO126 hb; replace HO131 := rb HO131 hb; replace HO134 := rb HO134 hb; have BK135 := Aside0.mk (hbox); have GW135 := ge HB hg; have GE135 := ge HB hg; replace HB := bs HB hb; have NB111_135 := nl BK111 hg; have NB135_111 := nr BK111 hg; replace BK111 := bb BK111 hb; have NB112_135 := nl BK112 hg; have NB135_112 := nr BK112 hg; replace BK112 := bb BK112 hb; clear hb hbox hg; obtain ⟨Ao45, co45, eo45⟩ := Kd.R_slice HO131.out; subst eo45; have hnb46 := NB135_111.out; have hnc46 := NB111_135.out; have hnb47 := NB135_112.out; have hnc47 := NB112_135.out; have hcz48_0 := bc0 BK135; have hcz48_1 := bc1 BK135; have hfz48_0 := blk_frozen BK135.out 0; have hfz48_1 := blk_frozen BK135.out 1; obtain ⟨Ao49, co49, eo49⟩ := Kd.R_slice HO134.out; subst eo49; have hcz50_0 := bc0 BK112; have hcz50_1 := bc1 BK112; have hfz50_0 := blk_frozen BK112.out 0; have hfz50_1 := blk_frozen BK112.out 1) | ((with_reducible refine gate_callee (f := 19) rfl ?_); refine gl 36 Try.func19 #[.agg #[.slice A1_0 l1_0.length c1_0, .slice A1_1 l1_1.length c1_1]] ?_; (with_reducible refine (laws_toVessels.calls k _ _ l1_0 _ _ l1_1 t136 t139 _ ?side1 ?side2 ?side3 ?side4 A24.out).mono ?_); (case side1 => exact Kd.C_below HR1_0.out (bw HB)); (case side2 => exact HC1_0.out); (case side3 => exact Kd.C_below HR1_1.out (bw HB)); (case side4 => exact HC1_1.out); rintro e w51 ⟨v137, v140, rfl, ho0, ho1, hb⟩; refine ⟨_, rfl, ?_⟩; have HO138 := Aside0.mk (Kd.R_lower (Kd.R_new' (Kd.R_new' (Kd.R_new' (Kd.R_new' (Kd.R_new' (Kd.R_new' ho0 (Kd.R_lt (by exact (Kd.R_mono (Kd.R_far (p := ⟨gb135, 1, none⟩) (Kd.R_far (p := ⟨gb135, 0, none⟩) (Kd.R_types HO117.out BK135.out (by decide)) (fun _ hk => hk.2) (.slice Ao45 t129.length co45)) (fun _ hk => hk.2) (.slice Ao49 t132.length co49)) (fun _ h_ => h_.1))))) (Kd.R_lt (by exact (Kd.R_mono (Kd.R_far (p := ⟨gb135, 1, none⟩) (Kd.R_far (p := ⟨gb135, 0, none⟩) (Kd.R_types HO120.out BK135.out (by decide)) (fun _ hk => hk.2) (.slice Ao45 t129.length co45)) (fun _ hk => hk.2) (.slice Ao49 t132.length co49)) (fun _ h_ => h_.1))))) (Kd.R_lt (by exact (Kd.R_mono (Kd.R_far (p := ⟨gb135, 1, none⟩) (Kd.R_far (p := ⟨gb135, 0, none⟩) (Kd.R_types HO123.out BK135.out (by decide)) (fun _ hk => hk.2) (.slice Ao45 t129.length co45)) (fun _ hk => hk.2) (.slice Ao49 t132.length co49)) (fun _ h_ => h_.1))))) (Kd.R_lt (by exact (Kd.R_mono (Kd.R_far (p := ⟨gb135, 1, none⟩) (Kd.R_far (p := ⟨gb135, 0, none⟩) (Kd.R_types HO126.out BK135.out (by decide)) (fun _ hk => hk.2) (.slice Ao45 t129.length co45)) (fun _ hk => hk.2) (.slice Ao49 t132.length co49)) (fun _ h_ => h_.1))))) (Kd.R_lt (by exact (Kd.R_mono (Kd.R_far (p := ⟨gb135, 1, none⟩) (Kd.R_far (p := ⟨gb135, 0, none⟩) (Kd.R_types HO131.out BK135.out (by decide)) (fun _ hk => hk.2) (.slice Ao45 t129.length co45)) (fun _ hk => hk.2) (.slice Ao49 t132.length co49)) (fun _ h_ => h_.1))))) (Kd.R_lt (by exact (Kd.R_mono (Kd.R_far (p := ⟨gb135, 1, none⟩) (Kd.R_far (p := ⟨gb135, 0, none⟩) (Kd.R_types HO134.out BK135.out (by decide)) (fun _ hk => hk.2) (.slice Ao45 t129.length co45)) (fun _ hk => hk.2) (.slice Ao49 t132.length co49)) (fun _ h_ => h_.1))))) (below_size (bw HB))); have HO141 := Aside0.mk (Kd.R_lower (Kd.R_new' (Kd.R_new' (Kd.R_new' (Kd.R_new' (Kd.R_new' (Kd.R_new' ho1 (Kd.R_lt (by exact (Kd.R_mono (Kd.R_far (p := ⟨gb135, 1, none⟩) (Kd.R_far (p := ⟨gb135, 0, none⟩) (Kd.R_types HO117.out BK135.out (by decide)) (fun _ hk => hk.2) (.slice Ao45 t129.length co45)) (fun _ hk => hk.2) (.slice Ao49 t132.length co49)) (fun _ h_ => h_.1))))) (Kd.R_lt (by exact (Kd.R_mono (Kd.R_far (p := ⟨gb135, 1, none⟩) (Kd.R_far (p := ⟨gb135, 0, none⟩) (Kd.R_types HO120.out BK135.out (by decide)) (fun _ hk => hk.2) (.slice Ao45 t129.length co45)) (fun _ hk => hk.2) (.slice Ao49 t132.length co49)) (fun _ h_ => h_.1))))) (Kd.R_lt (by exact (Kd.R_mono (Kd.R_far (p := ⟨gb135, 1, none⟩) (Kd.R_far (p := ⟨gb135, 0, none⟩) (Kd.R_types HO123.out BK135.out (by decide)) (fun _ hk => hk.2) (.slice Ao45 t129.length co45)) (fun _ hk => hk.2) (.slice Ao49 t132.length co49)) (fun _ h_ => h_.1))))) (Kd.R_lt (by exact (Kd.R_mono (Kd.R_far (p := ⟨gb135, 1, none⟩) (Kd.R_far (p := ⟨gb135, 0, none⟩) (Kd.R_types HO126.out BK135.out (by decide)) (fun _ hk => hk.2) (.slice Ao45 t129.length co45)) (fun _ hk => hk.2) (.slice Ao49 t132.length co49)) (fun _ h_ => h_.1))))) (Kd.R_lt (by exact (Kd.R_mono (Kd.R_far (p := ⟨gb135, 1, none⟩) (Kd.R_far (p := ⟨gb135, 0, none⟩) (Kd.R_types HO131.out BK135.out (by decide)) (fun _ hk => hk.2) (.slice Ao45 t129.length co45)) (fun _ hk => hk.2) (.slice Ao49 t132.length co49)) (fun _ h_ => h_.1))))) (Kd.R_lt (by exact (Kd.R_mono (Kd.R_far (p := ⟨gb135, 1, none⟩) (Kd.R_far (p := ⟨gb135, 0, none⟩) (Kd.R_types HO134.out BK135.out (by decide)) (fun _ hk => hk.2) (.slice Ao45 t129.length co45)) (fun _ hk => hk.2) (.slice Ao49 t132.length co49)) (fun _ h_ => h_.1))))) (below_size (bw HB))); replace HO117 := Aside0.mk (Kd.R_mono (Kd.R_told (Kd.R_told (Kd.R_old (by exact (Kd.R_mono (Kd.R_far (p := ⟨gb135, 1, none⟩) (Kd.R_far (p := ⟨gb135, 0, none⟩) (Kd.R_types HO117.out BK135.out (by decide)) (fun _ hk => hk.2) (.slice Ao45 t129.length co45)) (fun _ hk => hk.2) (.slice Ao49 t132.length co49)) (fun _ h_ => h_.1))) hb) (Kd.R_base ho0)) (Kd.R_base ho1)) (fun _ h_ => h_.1)); replace HO120 := Aside0.mk (Kd.R_mono (Kd.R_told (Kd.R_told (Kd.R_old (by exact (Kd.R_mono (Kd.R_far (p := ⟨gb135, 1, none⟩) (Kd.R_far (p := ⟨gb135, 0, none⟩) (Kd.R_types HO120.out BK135.out (by decide)) (fun _ hk => hk.2) (.slice Ao45 t129.length co45)) (fun _ hk => hk.2) (.slice Ao49 t132.length co49)) (fun _ h_ => h_.1))) hb) (Kd.R_base ho0)) (Kd.R_base ho1)) (fun _ h_ => h_.1)); replace HO123 := Aside0.mk (Kd.R_mono (Kd.R_told (Kd.R_told (Kd.R_old (by exact (Kd.R_mono (Kd.R_far (p := ⟨gb135, 1, none⟩) (Kd.R_far (p := ⟨gb135, 0, none⟩) (Kd.R_types HO123.out BK135.out (by decide)) (fun _ hk => hk.2) (.slice Ao45 t129.length co45)) (fun _ hk => hk.2) (.slice Ao49 t132.length co49)) (fun _ h_ => h_.1))) hb) (Kd.R_base ho0)) (Kd.R_base ho1)) (fun _ h_ => h_.1)); replace HO126 := Aside0.mk (Kd.R_mono (Kd.R_told (Kd.R_told (Kd.R_old (by exact (Kd.R_mono (Kd.R_far (p := ⟨gb135, 1, none⟩) (Kd.R_far (p := ⟨gb135, 0, none⟩) (Kd.R_types HO126.out BK135.out (by decide)) (fun _ hk => hk.2) (.slice Ao45 t129.length co45)) (fun _ hk => hk.2) (.slice Ao49 t132.length co49)) (fun _ h_ => h_.1))) hb) (Kd.R_base ho0)) (Kd.R_base ho1)) (fun _ h_ => h_.1)); replace HO131 := Aside0.mk (Kd.R_mono (Kd.R_told (Kd.R_told (Kd.R_old (by exact (Kd.R_mono (Kd.R_far (p := ⟨gb135, 1, none⟩) (Kd.R_far (p := ⟨gb135, 0, none⟩) (Kd.R_types HO131.out BK135.out (by decide)) (fun _ hk => hk.2) (.slice Ao45 t129.length co45)) (fun _ hk => hk.2) (.slice Ao49 t132.length co49)) (fun _ h_ => h_.1))) hb) (Kd.R_base ho0)) (Kd.R_base ho1)) (fun _ h_ => h_.1)); replace HO134 := Aside0.mk (Kd.R_mono (Kd.R_told (Kd.R_told (Kd.R_old (by exact (Kd.R_mono (Kd.R_far (p := ⟨gb135, 1, none⟩) (Kd.R_far (p := ⟨gb135, 0, none⟩) (Kd.R_types HO134.out BK135.out (by decide)) (fun _ hk => hk.2) (.slice Ao45 t129.length co45)) (fun _ hk => hk.2) (.slice Ao49 t132.length co49)) (fun _ h_ => h_.1))) hb) (Kd.R_base ho0)) (Kd.R_base ho1)) (fun _ h_ => h_.1)); replace BK111 := bb BK111 hb; replace BK112 := bb BK112 hb; replace BK135 := Aside0.mk (blk_below (g := gb135) (o := .cells #[.slice Ao45 t129.length co45, .slice Ao49 t132.length co49] 29 (0, 0)) (by refine blk_put (cs := #[.slice Ao45 t129.length co45, .slice none 0 0]) ?_ 1 _ rfl; refine blk_put (cs := #[.slice none 0 0, .slice none 0 0]) ?_ 0 _ rfl; exact bk BK135) hb); replace HB := bs HB hb; (try clear hb); (try clear ho0); (try clear ho1)) | ((with_reducible refine gate_dst (N := 11) rfl ?_); refine bx 11 #[.slice none 0 0, .slice none 0 0] 29 ?_; intro gb142 hg w52 hbox hb; replace HO117 := rb HO117 hb; replace HO120 := rb HO120 hb; replace HO123 := rb HO123 hb; replace HO126 := rb HO126 hb; replace HO131 := rb HO131 hb; replace HO134 := rb HO134 hb; replace HO138 := rb HO138 hb; replace HO141 := rb HO141 hb; have BK142 := Aside0.mk (hbox); have GW142 := ge HB hg; have GE142 := ge HB hg; replace HB := bs HB hb; have NB111_142 := nl BK111 hg; have NB142_111 := nr BK111 hg; replace BK111 := bb BK111 hb; have NB112_142 := nl BK112 hg; have NB142_112 := nr BK112 hg; replace BK112 := bb BK112 hb; have NB135_142 := nl BK135 hg; have NB142_135 := nr BK135 hg; replace BK135 := bb BK135 hb; clear hb hbox hg; obtain ⟨Ao53, co53, eo53⟩ := Kd.R_slice HO138.out; subst eo53; have hnb54 := NB142_111.out; have hnc54 := NB111_142.out; have hnb55 := NB142_112.out; have hnc55 := NB112_142.out; have hnb56 := NB142_135.out; have hnc56 := NB135_142.out; have hcz57_0 := bc0 BK142; have hcz57_1 := bc1 BK142; have hfz57_0 := blk_frozen BK142.out 0; have hfz57_1 := blk_frozen BK142.out 1; obtain ⟨Ao58, co58, eo58⟩ := Kd.R_slice HO141.out; subst eo58; have hcz59_0 := bc0 BK135; have hcz59_1 := bc1 BK135; have hfz59_0 := blk_frozen BK135.out 0; have hfz59_1 := blk_frozen BK135.out 1) | ((with_reducible refine gate_callee (f := 41) rfl ?_); refine gl 41 Try.func41 #[.agg #[.slice Ao45 t129.length co45, .slice Ao49 t132.length co49], .agg #[.slice Ao53 t136.length co53, .slice Ao58 t139.length co58], .bool a2] ?_; (with_reducible refine (impl_CountPlans.calls k _ _ t129 _ _ t132 _ _ t136 _ _ t139 a2 t143 t144 _ ?side1 ?side2 ?side3 ?side4 ?side5 ?side6 ?side7 ?side8 A25.out).mono ?_); (case side1 => refine (Kd.R_reads' (e := 3) (base := w.heap.size) (ok := fun k_ => ((((((some k_ ≠ (.slice Ao49 t132.length co49 : Value).ownBlock ∧ some k_ ≠ (.slice Ao37 t115.length co37 : Value).ownBlock) ∧ some k_ ≠ (.slice Ao38 t118.length co38 : Value).ownBlock) ∧ some k_ ≠ (.slice Ao39 t121.length co39 : Value).ownBlock) ∧ some k_ ≠ (.slice Ao40 t124.length co40 : Value).ownBlock) ∧ some k_ ≠ (.slice Ao53 t136.length co53 : Value).ownBlock) ∧ some k_ ≠ (.slice Ao58 t139.length co58 : Value).ownBlock)) (n := t129.length) (c := co45) ?_).2.2; exact (by exact (Kd.R_mono (Kd.R_far (p := ⟨gb142, 1, none⟩) (Kd.R_far (p := ⟨gb142, 0, none⟩) (Kd.R_types HO131.out BK142.out (by decide)) (fun _ hk => hk.2) (.slice Ao53 t136.length co53)) (fun _ hk => hk.2) (.slice Ao58 t139.length co58)) (fun _ h_ => h_.1)))); (case side2 => exact (Kd.R_reads' HO131.out).2.1); (case side3 => refine (Kd.R_reads' (e := 3) (base := w.heap.size) (ok := fun k_ => ((((((some k_ ≠ (.slice Ao45 t129.length co45 : Value).ownBlock ∧ some k_ ≠ (.slice Ao37 t115.length co37 : Value).ownBlock) ∧ some k_ ≠ (.slice Ao38 t118.length co38 : Value).ownBlock) ∧ some k_ ≠ (.slice Ao39 t121.length co39 : Value).ownBlock) ∧ some k_ ≠ (.slice Ao40 t124.length co40 : Value).ownBlock) ∧ some k_ ≠ (.slice Ao53 t136.length co53 : Value).ownBlock) ∧ some k_ ≠ (.slice Ao58 t139.length co58 : Value).ownBlock)) (n := t132.length) (c := co49) ?_).2.2; exact (by exact (Kd.R_mono (Kd.R_far (p := ⟨gb142, 1, none⟩) (Kd.R_far (p := ⟨gb142, 0, none⟩) (Kd.R_types HO134.out BK142.out (by decide)) (fun _ hk => hk.2) (.slice Ao53 t136.length co53)) (fun _ hk => hk.2) (.slice Ao58 t139.length co58)) (fun _ h_ => h_.1)))); (case side4 => exact (Kd.R_reads' HO134.out).2.1); (case side5 => refine (Kd.R_reads' (e := 3) (base := w.heap.size) (ok := fun k_ => ((((((some k_ ≠ (.slice Ao58 t139.length co58 : Value).ownBlock ∧ some k_ ≠ (.slice Ao37 t115.length co37 : Value).ownBlock) ∧ some k_ ≠ (.slice Ao38 t118.length co38 : Value).ownBlock) ∧ some k_ ≠ (.slice Ao39 t121.length co39 : Value).ownBlock) ∧ some k_ ≠ (.slice Ao40 t124.length co40 : Value).ownBlock) ∧ some k_ ≠ (.slice Ao45 t129.length co45 : Value).ownBlock) ∧ some k_ ≠ (.slice Ao49 t132.length co49 : Value).ownBlock)) (n := t136.length) (c := co53) ?_).2.2; exact (by exact (Kd.R_mono (Kd.R_far (p := ⟨gb142, 1, none⟩) (Kd.R_far (p := ⟨gb142, 0, none⟩) (Kd.R_types HO138.out BK142.out (by decide)) (fun _ hk => hk.2) (.slice Ao53 t136.length co53)) (fun _ hk => hk.2) (.slice Ao58 t139.length co58)) (fun _ h_ => h_.1)))); (case side6 => exact (Kd.R_reads' HO138.out).2.1); (case side7 => refine (Kd.R_reads' (e := 3) (base := w.heap.size) (ok := fun k_ => ((((((some k_ ≠ (.slice Ao53 t136.length co53 : Value).ownBlock ∧ some k_ ≠ (.slice Ao37 t115.length co37 : Value).ownBlock) ∧ some k_ ≠ (.slice Ao38 t118.length co38 : Value).ownBlock) ∧ some k_ ≠ (.slice Ao39 t121.length co39 : Value).ownBlock) ∧ some k_ ≠ (.slice Ao40 t124.length co40 : Value).ownBlock) ∧ some k_ ≠ (.slice Ao45 t129.length co45 : Value).ownBlock) ∧ some k_ ≠ (.slice Ao49 t132.length co49 : Value).ownBlock)) (n := t139.length) (c := co58) ?_).2.2; exact (by exact (Kd.R_mono (Kd.R_far (p := ⟨gb142, 1, none⟩) (Kd.R_far (p := ⟨gb142, 0, none⟩) (Kd.R_types HO141.out BK142.out (by decide)) (fun _ hk => hk.2) (.slice Ao53 t136.length co53)) (fun _ hk => hk.2) (.slice Ao58 t139.length co58)) (fun _ h_ => h_.1)))); (case side8 => exact (Kd.R_reads' HO141.out).2.1); rintro e w60 ⟨rfl, hb⟩; refine ⟨_, rfl, ?_⟩; replace HO117 := Aside0.mk (Kd.R_below (by exact (Kd.R_mono (Kd.R_far (p := ⟨gb142, 1, none⟩) (Kd.R_far (p := ⟨gb142, 0, none⟩) (Kd.R_types HO117.out BK142.out (by decide)) (fun _ hk => hk.2) (.slice Ao53 t136.length co53)) (fun _ hk => hk.2) (.slice Ao58 t139.length co58)) (fun _ h_ => h_.1))) hb); replace HO120 := Aside0.mk (Kd.R_below (by exact (Kd.R_mono (Kd.R_far (p := ⟨gb142, 1, none⟩) (Kd.R_far (p := ⟨gb142, 0, none⟩) (Kd.R_types HO120.out BK142.out (by decide)) (fun _ hk => hk.2) (.slice Ao53 t136.length co53)) (fun _ hk => hk.2) (.slice Ao58 t139.length co58)) (fun _ h_ => h_.1))) hb); replace HO123 := Aside0.mk (Kd.R_below (by exact (Kd.R_mono (Kd.R_far (p := ⟨gb142, 1, none⟩) (Kd.R_far (p := ⟨gb142, 0, none⟩) (Kd.R_types HO123.out BK142.out (by decide)) (fun _ hk => hk.2) (.slice Ao53 t136.length co53)) (fun _ hk => hk.2) (.slice Ao58 t139.length co58)) (fun _ h_ => h_.1))) hb); replace HO126 := Aside0.mk (Kd.R_below (by exact (Kd.R_mono (Kd.R_far (p := ⟨gb142, 1, none⟩) (Kd.R_far (p := ⟨gb142, 0, none⟩) (Kd.R_types HO126.out BK142.out (by decide)) (fun _ hk => hk.2) (.slice Ao53 t136.length co53)) (fun _ hk => hk.2) (.slice Ao58 t139.length co58)) (fun _ h_ => h_.1))) hb); replace HO131 := Aside0.mk (Kd.R_below (by exact (Kd.R_mono (Kd.R_far (p := ⟨gb142, 1, none⟩) (Kd.R_far (p := ⟨gb142, 0, none⟩) (Kd.R_types HO131.out BK142.out (by decide)) (fun _ hk => hk.2) (.slice Ao53 t136.length co53)) (fun _ hk => hk.2) (.slice Ao58 t139.length co58)) (fun _ h_ => h_.1))) hb); replace HO134 := Aside0.mk (Kd.R_below (by exact (Kd.R_mono (Kd.R_far (p := ⟨gb142, 1, none⟩) (Kd.R_far (p := ⟨gb142, 0, none⟩) (Kd.R_types HO134.out BK142.out (by decide)) (fun _ hk => hk.2) (.slice Ao53 t136.length co53)) (fun _ hk => hk.2) (.slice Ao58 t139.length co58)) (fun _ h_ => h_.1))) hb); replace HO138 := Aside0.mk (Kd.R_below (by exact (Kd.R_mono (Kd.R_far (p := ⟨gb142, 1, none⟩) (Kd.R_far (p := ⟨gb142, 0, none⟩) (Kd.R_types HO138.out BK142.out (by decide)) (fun _ hk => hk.2) (.slice Ao53 t136.length co53)) (fun _ hk => hk.2) (.slice Ao58 t139.length co58)) (fun _ h_ => h_.1))) hb); replace HO141 := Aside0.mk (Kd.R_below (by exact (Kd.R_mono (Kd.R_far (p := ⟨gb142, 1, none⟩) (Kd.R_far (p := ⟨gb142, 0, none⟩) (Kd.R_types HO141.out BK142.out (by decide)) (fun _ hk => hk.2) (.slice Ao53 t136.length co53)) (fun _ hk => hk.2) (.slice Ao58 t139.length co58)) (fun _ h_ => h_.1))) hb); replace BK111 := bb BK111 hb; replace BK112 := bb BK112 hb; replace BK135 := bb BK135 hb; replace BK142 := Aside0.mk (blk_below (g := gb142) (o := .cells #[.slice Ao53 t136.length co53, .slice Ao58 t139.length co58] 29 (0, 0)) (by refine blk_put (cs := #[.slice Ao53 t136.length co53, .slice none 0 0]) ?_ 1 _ rfl; refine blk_put (cs := #[.slice none 0 0, .slice none 0 0]) ?_ 0 _ rfl; exact bk BK142) hb); replace HB := bs HB hb; (try clear hb)))
 (try simp only [Act.put, List.setIfInBounds_toArray, List.set_cons_zero, List.set_cons_succ])
 go_cut [51] (fun v51 wc => ∃ (kq : Nat) (x51_25 : Bool), v51 = .bool x51_25 ∧ Aside0 (laws_FnExactCountPlans.j0 kq x51_25 l0_0 l0_1 l1_0 l1_1 t129 t132 t136 t139 = some r) ∧ Aside0 (kq ≤ k) ∧ Aside0 (Kd.R (Kd.int .i64) 3 wc w.heap.size (fun k_ => some k_ ≠ ((.slice Ao49 t132.length co49) : Value).ownBlock ∧ some k_ ≠ ((.slice Ao53 t136.length co53) : Value).ownBlock ∧ some k_ ≠ ((.slice Ao58 t139.length co58) : Value).ownBlock) (.slice Ao45 t129.length co45) t129) ∧ Aside0 (Kd.R (Kd.int .i64) 3 wc w.heap.size (fun k_ => some k_ ≠ ((.slice Ao45 t129.length co45) : Value).ownBlock ∧ some k_ ≠ ((.slice Ao53 t136.length co53) : Value).ownBlock ∧ some k_ ≠ ((.slice Ao58 t139.length co58) : Value).ownBlock) (.slice Ao49 t132.length co49) t132) ∧ Aside0 (Kd.R (Kd.int .i64) 3 wc w.heap.size (fun k_ => some k_ ≠ ((.slice Ao45 t129.length co45) : Value).ownBlock ∧ some k_ ≠ ((.slice Ao49 t132.length co49) : Value).ownBlock ∧ some k_ ≠ ((.slice Ao58 t139.length co58) : Value).ownBlock) (.slice Ao53 t136.length co53) t136) ∧ Aside0 (Kd.R (Kd.int .i64) 3 wc w.heap.size (fun k_ => some k_ ≠ ((.slice Ao45 t129.length co45) : Value).ownBlock ∧ some k_ ≠ ((.slice Ao49 t132.length co49) : Value).ownBlock ∧ some k_ ≠ ((.slice Ao53 t136.length co53) : Value).ownBlock) (.slice Ao58 t139.length co58) t139) ∧ Aside0 (wc.heap[gb111]? = some (.cells #[(.slice A0_0 l0_0.length c0_0), (.slice A0_1 l0_1.length c0_1)] 24 (0, 0))) ∧ Aside0 (wc.heap[gb112]? = some (.cells #[(.slice A1_0 l1_0.length c1_0), (.slice A1_1 l1_1.length c1_1)] 24 (0, 0))) ∧ Aside0 (wc.heap[gb135]? = some (.cells #[(.slice Ao45 t129.length co45), (.slice Ao49 t132.length co49)] 29 (0, 0))) ∧ Aside0 (wc.heap[gb142]? = some (.cells #[(.slice Ao53 t136.length co53), (.slice Ao58 t139.length co58)] 29 (0, 0))) ∧ Aside0 (Below w.heap.size w wc))
 case first =>
  have H := HC26.out
  clear HC26
  by_cases c61 : t143 = t127
  rotate_left
  ·rw [if_neg c61] at H
   have c61b0 : (t143 == t127) = false := beq_eq_false_iff_ne.mpr c61
   have c61b1 : (t143 != t127) = true := bne_iff_ne.mpr c61
   (first | rw [c61b0] | (simp only [i64_w, i32_w]; rw [c61b0]) | skip)
   exact absurd H (by rw [hrt.out]; cases k <;> simp [laws_FnExactCountPlans.j0])
  rw [if_pos c61] at H
  have c61b0 : (t143 == t127) = true := beq_iff_eq.mpr c61
  have c61b1 : (t143 != t127) = false := bne_eq_false_iff_eq.mpr c61
  clear c61
  (first | rw [c61b0] | (simp only [i64_w, i32_w]; rw [c61b0]) | skip)
  have H' := Aside0.mk H
  clear H
  go_wp2
  go_meet
  case rel => exact ⟨_, ((t144 != t128)), (by first | rfl | (simp; done) | (simp [*]; done)), H', ⟨by first | omega | exact Nat.le_refl _⟩, ⟨by exact Kd.R_mono HO131.out (fun _ hk => ⟨hk.1.1.1.1.1.1, ⟨hk.1.2, hk.2⟩⟩)⟩, ⟨by exact Kd.R_mono HO134.out (fun _ hk => ⟨hk.1.1.1.1.1.1, ⟨hk.1.2, hk.2⟩⟩)⟩, ⟨by exact Kd.R_mono HO138.out (fun _ hk => ⟨hk.1.2, ⟨hk.2, hk.1.1.1.1.1.1⟩⟩)⟩, ⟨by exact Kd.R_mono HO141.out (fun _ hk => ⟨hk.1.2, ⟨hk.2, hk.1.1.1.1.1.1⟩⟩)⟩, ⟨bk BK111⟩, ⟨bk BK112⟩, ⟨bk BK135⟩, ⟨bk BK142⟩, ⟨bw HB⟩⟩
 case rest =>
  clear HC26
  try clear c1
  try clear c2
  try clear p2
  try clear c4
  try clear c5
  try clear c5b0
  try clear c6
  try clear c8
  try clear c10
  try clear c12
  try clear c12b0
  try clear c15
  try clear c17
  try clear c19
  try clear c29
  try clear c40
  try clear c41
  try clear c46
  try clear c47
  try clear c54
  try clear c55
  try clear c56
  try clear c61
  try clear c61b0
  try clear c61b1
  try clear hcz16_0
  try clear hcz16_1
  try clear hcz18_0
  try clear hcz18_1
  try clear hcz30_0
  try clear hcz30_1
  try clear hcz32_0
  try clear hcz32_1
  try clear hcz42_0
  try clear hcz42_1
  try clear hcz48_0
  try clear hcz48_1
  try clear hcz50_0
  try clear hcz50_1
  try clear hcz57_0
  try clear hcz57_1
  try clear hcz59_0
  try clear hcz59_1
  try clear hcz9_0
  try clear hcz9_1
  try clear hfz16_0
  try clear hfz16_1
  try clear hfz18_0
  try clear hfz18_1
  try clear hfz30_0
  try clear hfz30_1
  try clear hfz32_0
  try clear hfz32_1
  try clear hfz42_0
  try clear hfz42_1
  try clear hfz48_0
  try clear hfz48_1
  try clear hfz50_0
  try clear hfz50_1
  try clear hfz57_0
  try clear hfz57_1
  try clear hfz59_0
  try clear hfz59_1
  try clear hfz9_0
  try clear hfz9_1
  obtain ⟨kq, x51_25, rfl, HA, HJ25, HO_136000, HO_136001, HO_143000, HO_143001, BK111, BK112, BK135, BK142, HB⟩ := hcut
  cases kq with
  | zero => exact absurd HA.out (by simp [laws_FnExactCountPlans.j0])
  | succ kj25 =>
   have H := HA.out
   clear HA
   simp only [laws_FnExactCountPlans.j0] at H
   by_cases c62 : x51_25 = true
   ·subst c62
    have H1 : (some false) = some r := by rw [if_pos rfl] at H; exact H
    clear H
    have H := H1
    clear H1
    exact absurd ((Option.some.inj H).trans hrt.out) (by decide)
   replace c62 := Bool.eq_false_iff.mpr c62
   subst c62
   have H1 : ((laws_toVessels.f kj25 l0_0 l0_1).bind fun bt145 => ((laws_eqVessels.f kj25 t129 t132 bt145.1 bt145.2).bind fun t151 => (if t151 = true then ((laws_toVessels.f kj25 l1_0 l1_1).bind fun bt152 => ((laws_eqVessels.f kj25 t136 t139 bt152.1 bt152.2).bind fun t158 => (if t158 = true then (some true) else (some false)))) else (some false)))) = some r := by rw [if_neg (show ¬ (false = true) by decide)] at H; exact H
   clear H
   have H := H1
   clear H1
   replace H := Option.bind_eq_some_iff.mp H
   obtain ⟨⟨t145, t148⟩, A630, H⟩ := H
   (try dsimp only at H)
   have A63 := Aside0.mk A630
   clear A630
   replace H := Option.bind_eq_some_iff.mp H
   obtain ⟨t151, A640, H⟩ := H
   (try dsimp only at H)
   have A64 := Aside0.mk A640
   clear A640
   by_cases c65 : t151 = true
   rotate_left
   ·replace c65 := Bool.eq_false_iff.mpr c65
    subst c65
    have H1 : (some false) = some r := by rw [if_neg (show ¬ (false = true) by decide)] at H; exact H
    clear H
    have H := H1
    clear H1
    exact absurd ((Option.some.inj H).trans hrt.out) (by decide)
   subst c65
   have H1 : ((laws_toVessels.f kj25 l1_0 l1_1).bind fun bt152 => ((laws_eqVessels.f kj25 t136 t139 bt152.1 bt152.2).bind fun t158 => (if t158 = true then (some true) else (some false)))) = some r := by rw [if_pos rfl] at H; exact H
   clear H
   have H := H1
   clear H1
   replace H := Option.bind_eq_some_iff.mp H
   obtain ⟨⟨t152, t155⟩, A660, H⟩ := H
   (try dsimp only at H)
   have A66 := Aside0.mk A660
   clear A660
   replace H := Option.bind_eq_some_iff.mp H
   obtain ⟨t158, A670, H⟩ := H
   (try dsimp only at H)
   have A67 := Aside0.mk A670
   clear A670
   by_cases c68 : t158 = true
   rotate_left
   ·replace c68 := Bool.eq_false_iff.mpr c68
    subst c68
    have H1 : (some false) = some r := by rw [if_neg (show ¬ (false = true) by decide)] at H; exact H
    clear H
    have H := H1
    clear H1
    exact absurd ((Option.some.inj H).trans hrt.out) (by decide)
   subst c68
   have H1 : (some true) = some r := by rw [if_pos rfl] at H; exact H
   clear H
   have H := H1
   clear H1
   obtain rfl := Option.some.inj H
   try go_wp2
   replace HO_136000 := Aside0.mk (Kd.R_drew HO_136000.out)
   replace HO_136001 := Aside0.mk (Kd.R_drew HO_136001.out)
   replace HO_143000 := Aside0.mk (Kd.R_drew HO_143000.out)
   replace HO_143001 := Aside0.mk (Kd.R_drew HO_143001.out)
   replace BK111 := Aside0.mk (blk_drew BK111.out)
   replace BK112 := Aside0.mk (blk_drew BK112.out)
   replace BK135 := Aside0.mk (blk_drew BK135.out)
   replace BK142 := Aside0.mk (blk_drew BK142.out)
   replace HB := Aside0.mk (below_drew1 HB.out)
   refine start_ (n := 5) (S := fun w' => w'.cell? ⟨gb135, 0, none⟩ = some (.slice Ao45 t129.length co45) ∧ w'.cell? ⟨gb135, 1, none⟩ = some (.slice Ao49 t132.length co49) ∧ w'.cell? ⟨gb111, 0, none⟩ = some (.slice A0_0 l0_0.length c0_0) ∧ w'.cell? ⟨gb111, 1, none⟩ = some (.slice A0_1 l0_1.length c0_1)) (ds := []) #[false, false, false, false, false] (by kernel_rfl) rfl rfl ⟨bc0 BK135, bc1 BK135, bc0 BK111, bc1 BK111⟩ (fun hHeld => ?_)
   generalize wc.drew = w69 at HO_136000 HO_136001 HO_143000 HO_143001 BK111 BK112 BK135 BK142 HB hHeld ⊢
   refine take_ (i := 0) (N := some 52) (v := ?_) (a' := ?_) #[true, false, false, false, false] rfl rfl (by kernel_rfl) (fun _ _ _ h => h) (Or.inl ⟨by rfl, ?_⟩) hHeld ?_ ?_
   rotate_left; (rintro w' ⟨s0, s1, s2, s3⟩; go_simp; with_reducible rfl); rotate_left; (simp only [sqa, sqb, sqc, sqd, i64_w, i32_w]; rfl)
   refine take_ (i := 1) (N := some 53) (v := ?_) (a' := ?_) #[true, true, false, false, false] rfl rfl (by kernel_rfl) (fun _ _ _ h => h) (Or.inl ⟨by rfl, ?_⟩) hHeld ?_ ?_
   rotate_left; (rintro w' ⟨s0, s1, s2, s3⟩; go_simp; with_reducible rfl); rotate_left; (simp only [sqa, sqb, sqc, sqd, i64_w, i32_w]; rfl)
   refine one_ (i := 2) (N := some 54) #[true, true, true, false, false] rfl rfl (by kernel_rfl) (by decide) (fun K hK => ?_)
   refine gs Try.func19 #[.agg #[.slice A0_0 l0_0.length c0_0, .slice A0_1 l0_1.length c0_1]] ?_
   with_reducible refine (laws_toVessels.calls kj25 _ _ l0_0 _ _ l0_1 t145 t148 _ ?side1 ?side2 ?side3 ?side4 A63.out).mono ?_
   (case side1 => exact ck HR0_0 HB)
   (case side2 => exact HC0_0.out)
   (case side3 => exact ck HR0_1 HB)
   (case side4 => exact HC0_1.out)
   rintro e w70 ⟨v146, v149, rfl, ho0, ho1, hb⟩
   refine ⟨_, rfl, ?_⟩
   have HO147 := Aside0.mk (Kd.R_lower (Kd.R_new' (Kd.R_new' (Kd.R_new' (Kd.R_new' ho0 (Kd.R_lt (rk HO_136000))) (Kd.R_lt (rk HO_136001))) (Kd.R_lt (rk HO_143000))) (Kd.R_lt (rk HO_143001))) (below_size (bw HB)))
   have HO150 := Aside0.mk (Kd.R_lower (Kd.R_new' (Kd.R_new' (Kd.R_new' (Kd.R_new' ho1 (Kd.R_lt (rk HO_136000))) (Kd.R_lt (rk HO_136001))) (Kd.R_lt (rk HO_143000))) (Kd.R_lt (rk HO_143001))) (below_size (bw HB)))
   replace HO_136000 := Aside0.mk (Kd.R_mono (Kd.R_told (Kd.R_told (Kd.R_old (rk HO_136000) hb) (Kd.R_base ho0)) (Kd.R_base ho1)) (fun _ h_ => h_.1))
   replace HO_136001 := Aside0.mk (Kd.R_mono (Kd.R_told (Kd.R_told (Kd.R_old (rk HO_136001) hb) (Kd.R_base ho0)) (Kd.R_base ho1)) (fun _ h_ => h_.1))
   replace HO_143000 := Aside0.mk (Kd.R_mono (Kd.R_told (Kd.R_told (Kd.R_old (rk HO_143000) hb) (Kd.R_base ho0)) (Kd.R_base ho1)) (fun _ h_ => h_.1))
   replace HO_143001 := Aside0.mk (Kd.R_mono (Kd.R_told (Kd.R_told (Kd.R_old (rk HO_143001) hb) (Kd.R_base ho0)) (Kd.R_base ho1)) (fun _ h_ => h_.1))
   replace BK111 := bb BK111 hb
   replace BK112 := bb BK112 hb
   replace BK135 := bb BK135 hb
   replace BK142 := bb BK142 hb
   replace HB := bs HB hb
   (try clear hb); (try clear hb2); (try clear hk); (try clear hi); (try clear ho0); (try clear ho1)
   obtain ⟨Ao71, co71, eo71⟩ := Kd.R_slice HO147.out
   (first | subst eo71 | (injection eo71 with f1_ f2_ f3_; have f4_ := f1_.symm; have f5_ := f3_.symm; clear f1_ f2_ f3_; subst f4_; subst f5_))
   obtain ⟨Ao72, co72, eo72⟩ := Kd.R_slice HO150.out
   (first | subst eo72 | (injection eo72 with f1_ f2_ f3_; have f4_ := f1_.symm; have f5_ := f3_.symm; clear f1_ f2_ f3_; subst f4_; subst f5_))
   refine hK.out _ _ ⟨bc0 BK135, bc1 BK135, bc0 BK111, bc1 BK111⟩ (fun hHeld => ?_)
   clear hK K
   refine norm_ (a' := ?_) ?_ ?_; rotate_left; (show Act.put _ (some 54) _ = _; simp only [sqa, sqb, sqc, sqd, i64_w, i32_w]; rfl)
   refine one_ (i := 3) (N := some 55) #[true, true, true, true, false] rfl rfl (by kernel_rfl) (by decide) (fun K hK => ?_)
   refine gs Try.func22 #[.agg #[.slice Ao45 t129.length co45, .slice Ao49 t132.length co49], .agg #[.slice Ao71 t145.length co71, .slice Ao72 t148.length co72]] ?_
   with_reducible refine (laws_eqVessels.calls kj25 _ _ t129 _ _ t132 _ _ t145 _ _ t148 true _ ?side1 ?side2 ?side3 ?side4 ?side5 ?side6 ?side7 ?side8 A64.out).mono ?_
   (case side1 => exact cr HO_136000)
   (case side2 => exact (Kd.R_reads' HO_136000.out).2.1)
   (case side3 => exact cr HO_136001)
   (case side4 => exact (Kd.R_reads' HO_136001.out).2.1)
   (case side5 => exact cr HO147)
   (case side6 => exact (Kd.R_reads' HO147.out).2.1)
   (case side7 => exact cr HO150)
   (case side8 => exact (Kd.R_reads' HO150.out).2.1)
   rintro e w73 ⟨rfl, hb⟩
   refine ⟨_, rfl, ?_⟩
   replace HO_136000 := rb HO_136000 hb
   replace HO_136001 := rb HO_136001 hb
   replace HO_143000 := rb HO_143000 hb
   replace HO_143001 := rb HO_143001 hb
   replace HO147 := rb HO147 hb
   replace HO150 := rb HO150 hb
   replace BK111 := bb BK111 hb
   replace BK112 := bb BK112 hb
   replace BK135 := bb BK135 hb
   replace BK142 := bb BK142 hb
   replace HB := bs HB hb
   (try clear hb); (try clear hb2); (try clear hk); (try clear hi)
   refine hK.out _ _ ⟨bc0 BK135, bc1 BK135, bc0 BK111, bc1 BK111⟩ (fun hHeld => ?_)
   clear hK K
   refine norm_ (a' := ?_) ?_ ?_; rotate_left; (show Act.put _ (some 55) _ = _; simp only [sqa, sqb, sqc, sqd, i64_w, i32_w]; rfl)
   refine pure_ (i := 4) (N := some 56) (v := ?_) (a' := ?_) #[true, true, true, true, true] rfl rfl (by kernel_rfl) (fun _ _ _ h => h) (Or.inl ⟨by rfl, ?_⟩) ?_ ?_
   rotate_left; (intro w'; go_simp; with_reducible rfl); rotate_left; (simp only [sqa, sqb, sqc, sqd, i64_w, i32_w]; rfl)
   refine done_ (by kernel_rfl) ?_
   try go_wp2
   replace HO_136000 := Aside0.mk (Kd.R_drew HO_136000.out)
   replace HO_136001 := Aside0.mk (Kd.R_drew HO_136001.out)
   replace HO_143000 := Aside0.mk (Kd.R_drew HO_143000.out)
   replace HO_143001 := Aside0.mk (Kd.R_drew HO_143001.out)
   replace HO147 := Aside0.mk (Kd.R_drew HO147.out)
   replace HO150 := Aside0.mk (Kd.R_drew HO150.out)
   replace BK111 := Aside0.mk (blk_drew BK111.out)
   replace BK112 := Aside0.mk (blk_drew BK112.out)
   replace BK135 := Aside0.mk (blk_drew BK135.out)
   replace BK142 := Aside0.mk (blk_drew BK142.out)
   replace HB := Aside0.mk (below_drew1 HB.out)
   refine start_ (n := 5) (S := fun w' => w'.cell? ⟨gb142, 0, none⟩ = some (.slice Ao53 t136.length co53) ∧ w'.cell? ⟨gb142, 1, none⟩ = some (.slice Ao58 t139.length co58) ∧ w'.cell? ⟨gb112, 0, none⟩ = some (.slice A1_0 l1_0.length c1_0) ∧ w'.cell? ⟨gb112, 1, none⟩ = some (.slice A1_1 l1_1.length c1_1)) (ds := []) #[false, false, false, false, false] (by kernel_rfl) rfl rfl ⟨bc0 BK142, bc1 BK142, bc0 BK112, bc1 BK112⟩ (fun hHeld => ?_)
   generalize w73.drew = w74 at HO_136000 HO_136001 HO_143000 HO_143001 HO147 HO150 BK111 BK112 BK135 BK142 HB hHeld ⊢
   refine take_ (i := 0) (N := some 57) (v := ?_) (a' := ?_) #[true, false, false, false, false] rfl rfl (by kernel_rfl) (fun _ _ _ h => h) (Or.inl ⟨by rfl, ?_⟩) hHeld ?_ ?_
   rotate_left; (rintro w' ⟨s0, s1, s2, s3⟩; go_simp; with_reducible rfl); rotate_left; (simp only [sqa, sqb, sqc, sqd, i64_w, i32_w]; rfl)
   refine take_ (i := 1) (N := some 58) (v := ?_) (a' := ?_) #[true, true, false, false, false] rfl rfl (by kernel_rfl) (fun _ _ _ h => h) (Or.inl ⟨by rfl, ?_⟩) hHeld ?_ ?_
   rotate_left; (rintro w' ⟨s0, s1, s2, s3⟩; go_simp; with_reducible rfl); rotate_left; (simp only [sqa, sqb, sqc, sqd, i64_w, i32_w]; rfl)
   refine one_ (i := 2) (N := some 59) #[true, true, true, false, false] rfl rfl (by kernel_rfl) (by decide) (fun K hK => ?_)
   refine gs Try.func19 #[.agg #[.slice A1_0 l1_0.length c1_0, .slice A1_1 l1_1.length c1_1]] ?_
   with_reducible refine (laws_toVessels.calls kj25 _ _ l1_0 _ _ l1_1 t152 t155 _ ?side1 ?side2 ?side3 ?side4 A66.out).mono ?_
   (case side1 => exact ck HR1_0 HB)
   (case side2 => exact HC1_0.out)
   (case side3 => exact ck HR1_1 HB)
   (case side4 => exact HC1_1.out)
   rintro e w75 ⟨v153, v156, rfl, ho0, ho1, hb⟩
   refine ⟨_, rfl, ?_⟩
   have HO154 := Aside0.mk (Kd.R_lower (Kd.R_new' (Kd.R_new' (Kd.R_new' (Kd.R_new' (Kd.R_new' (Kd.R_new' ho0 (Kd.R_lt (rk HO_136000))) (Kd.R_lt (rk HO_136001))) (Kd.R_lt (rk HO_143000))) (Kd.R_lt (rk HO_143001))) (Kd.R_lt (rk HO147))) (Kd.R_lt (rk HO150))) (below_size (bw HB)))
   have HO157 := Aside0.mk (Kd.R_lower (Kd.R_new' (Kd.R_new' (Kd.R_new' (Kd.R_new' (Kd.R_new' (Kd.R_new' ho1 (Kd.R_lt (rk HO_136000))) (Kd.R_lt (rk HO_136001))) (Kd.R_lt (rk HO_143000))) (Kd.R_lt (rk HO_143001))) (Kd.R_lt (rk HO147))) (Kd.R_lt (rk HO150))) (below_size (bw HB)))
   replace HO_136000 := Aside0.mk (Kd.R_mono (Kd.R_told (Kd.R_told (Kd.R_old (rk HO_136000) hb) (Kd.R_base ho0)) (Kd.R_base ho1)) (fun _ h_ => h_.1))
   replace HO_136001 := Aside0.mk (Kd.R_mono (Kd.R_told (Kd.R_told (Kd.R_old (rk HO_136001) hb) (Kd.R_base ho0)) (Kd.R_base ho1)) (fun _ h_ => h_.1))
   replace HO_143000 := Aside0.mk (Kd.R_mono (Kd.R_told (Kd.R_told (Kd.R_old (rk HO_143000) hb) (Kd.R_base ho0)) (Kd.R_base ho1)) (fun _ h_ => h_.1))
   replace HO_143001 := Aside0.mk (Kd.R_mono (Kd.R_told (Kd.R_told (Kd.R_old (rk HO_143001) hb) (Kd.R_base ho0)) (Kd.R_base ho1)) (fun _ h_ => h_.1))
   replace HO147 := Aside0.mk (Kd.R_mono (Kd.R_told (Kd.R_told (Kd.R_old (rk HO147) hb) (Kd.R_base ho0)) (Kd.R_base ho1)) (fun _ h_ => h_.1))
   replace HO150 := Aside0.mk (Kd.R_mono (Kd.R_told (Kd.R_told (Kd.R_old (rk HO150) hb) (Kd.R_base ho0)) (Kd.R_base ho1)) (fun _ h_ => h_.1))
   replace BK111 := bb BK111 hb
   replace BK112 := bb BK112 hb
   replace BK135 := bb BK135 hb
   replace BK142 := bb BK142 hb
   replace HB := bs HB hb
   (try clear hb); (try clear hb2); (try clear hk); (try clear hi); (try clear ho0); (try clear ho1)
   obtain ⟨Ao76, co76, eo76⟩ := Kd.R_slice HO154.out
   (first | subst eo76 | (injection eo76 with f1_ f2_ f3_; have f4_ := f1_.symm; have f5_ := f3_.symm; clear f1_ f2_ f3_; subst f4_; subst f5_))
   obtain ⟨Ao77, co77, eo77⟩ := Kd.R_slice HO157.out
   (first | subst eo77 | (injection eo77 with f1_ f2_ f3_; have f4_ := f1_.symm; have f5_ := f3_.symm; clear f1_ f2_ f3_; subst f4_; subst f5_))
   refine hK.out _ _ ⟨bc0 BK142, bc1 BK142, bc0 BK112, bc1 BK112⟩ (fun hHeld => ?_)
   clear hK K
   refine norm_ (a' := ?_) ?_ ?_; rotate_left; (show Act.put _ (some 59) _ = _; simp only [sqa, sqb, sqc, sqd, i64_w, i32_w]; rfl)
   refine one_ (i := 3) (N := some 60) #[true, true, true, true, false] rfl rfl (by kernel_rfl) (by decide) (fun K hK => ?_)
   refine gs Try.func22 #[.agg #[.slice Ao53 t136.length co53, .slice Ao58 t139.length co58], .agg #[.slice Ao76 t152.length co76, .slice Ao77 t155.length co77]] ?_
   with_reducible refine (laws_eqVessels.calls kj25 _ _ t136 _ _ t139 _ _ t152 _ _ t155 true _ ?side1 ?side2 ?side3 ?side4 ?side5 ?side6 ?side7 ?side8 A67.out).mono ?_
   (case side1 => exact cr HO_143000)
   (case side2 => exact (Kd.R_reads' HO_143000.out).2.1)
   (case side3 => exact cr HO_143001)
   (case side4 => exact (Kd.R_reads' HO_143001.out).2.1)
   (case side5 => exact cr HO154)
   (case side6 => exact (Kd.R_reads' HO154.out).2.1)
   (case side7 => exact cr HO157)
   (case side8 => exact (Kd.R_reads' HO157.out).2.1)
   rintro e w78 ⟨rfl, hb⟩
   refine ⟨_, rfl, ?_⟩
   replace HO_136000 := rb HO_136000 hb
   replace HO_136001 := rb HO_136001 hb
   replace HO_143000 := rb HO_143000 hb
   replace HO_143001 := rb HO_143001 hb
   replace HO147 := rb HO147 hb
   replace HO150 := rb HO150 hb
   replace HO154 := rb HO154 hb
   replace HO157 := rb HO157 hb
   replace BK111 := bb BK111 hb
   replace BK112 := bb BK112 hb
   replace BK135 := bb BK135 hb
   replace BK142 := bb BK142 hb
   replace HB := bs HB hb
   (try clear hb); (try clear hb2); (try clear hk); (try clear hi)
   refine hK.out _ _ ⟨bc0 BK142, bc1 BK142, bc0 BK112, bc1 BK112⟩ (fun hHeld => ?_)
   clear hK K
   refine norm_ (a' := ?_) ?_ ?_; rotate_left; (show Act.put _ (some 60) _ = _; simp only [sqa, sqb, sqc, sqd, i64_w, i32_w]; rfl)
   refine pure_ (i := 4) (N := some 61) (v := ?_) (a' := ?_) #[true, true, true, true, true] rfl rfl (by kernel_rfl) (fun _ _ _ h => h) (Or.inl ⟨by rfl, ?_⟩) ?_ ?_
   rotate_left; (intro w'; go_simp; with_reducible rfl); rotate_left; (simp only [sqa, sqb, sqc, sqd, i64_w, i32_w]; rfl)
   refine done_ (by kernel_rfl) ?_
   try go_wp2
   go_ret
   exact ⟨by first | rfl | (simp [errW_none, errW_some] <;> rfl) | (simp [*, errW_none, errW_some] <;> rfl), bw HB⟩
end Go.Proofs.Ytigpkicbigpilaa.V
