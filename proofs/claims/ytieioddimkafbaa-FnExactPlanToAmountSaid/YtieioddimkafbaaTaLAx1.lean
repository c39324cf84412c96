-- Functions of the program as plain functions, and that the calls come to them. Written by a program (ownprint.py); nothing here is trusted: Lean checks it.
import Derived.Test.YtieioddimkafbaaTaVx
import Derived.Test.YtieioddimkafbaaTaVsA
import Derived.Test.YtieioddimkafbaaTaViA
namespace Go.Proofs.Ytieioddimkafbaa.V
open Go.RowKit Go.Proofs.YtieioddimkafbaaW.PrintWords Go.Proofs.YtieioddimkafbaaW.PrintLast Go.Proofs.YtieioddimkafbaaW.PrintMore Go.Proofs.Ytieioddimkafbaa.Sq
attribute [local go_sem] max2_int min2_int max_two min_two max_three min_three max_four min_four   -- for this text's walks alone
set_option linter.unusedVariables false
set_option linter.unusedSimpArgs false
mutual
def laws_FnExactPlanToAmount.j0 : Nat → Int → Bool → List (S55) → Bool → List (S55) → Bool → Bool → List Int → List Int → List Int → List Int → Option (Bool)
 | 0, _, _, _, _, _, _, _, _, _, _, _ => none
 | k + 1, x1, x2, x8, x9, x11, x12, x48, x121000, x121001, x139000, x139001 => if x48 = true then (some false) else ((laws_toVessels.f k x121000 x121001).bind fun bt144 => ((laws_eqVessels.f k x139000 x139001 bt144.1 bt144.2).bind fun t150 => (if t150 = true then ((laws_markVessels.f k x139000 x139001 1).bind fun bt151 => (if bt151.1 < 0 then (laws_FnExactPlanToAmount.j1 k x1 x2 x8 x9 x11 true x121000 x121001) else ((laws_eqMoveS.f k x11 x8).bind fun t154 => (if t154 = true then (laws_FnExactPlanToAmount.j1 k x1 x2 x8 x9 x11 (x12 != x9) x121000 x121001) else (laws_FnExactPlanToAmount.j1 k x1 x2 x8 x9 x11 true x121000 x121001))))) else (some false))))
def laws_FnExactPlanToAmount.j1 : Nat → Int → Bool → List (S55) → Bool → List (S55) → Bool → List Int → List Int → Option (Bool)
 | 0, _, _, _, _, _, _, _, _ => none
 | k + 1, x1, x2, x8, x9, x11, x69, x121000, x121001 => if x69 = true then (some false) else ((laws_markMoveS.f k x11 1).bind fun bt155 => ((laws_heldMoveS.f k bt155.2 1).bind fun t157 => (if t157 < 0 then (some false) else (if t157 = bt155.1 then ((laws_toVessels.f k x121000 x121001).bind fun bt158 => ((impl_PlanToAmount.f k bt158.1 bt158.2 x1 x2).bind fun bt164 => ((laws_eqMoveS.f k bt164.1 x8).bind fun t168 => (if t168 = true then (laws_FnExactPlanToAmount.j2 k bt155.2 bt155.1 (bt164.2 != x9)) else (laws_FnExactPlanToAmount.j2 k bt155.2 bt155.1 true))))) else (some false)))))
def laws_FnExactPlanToAmount.j2 : Nat → List (S55) → Int → Bool → Option (Bool)
 | 0, _, _, _ => none
 | k + 1, x11, x14, x97 => if x97 = true then (some false) else ((laws_heldMoveS.f k x11 1).bind fun t169 => (if t169 < 0 then (some false) else (if t169 = x14 then (some true) else (some false))))
end
def laws_FnExactPlanToAmount.f (k : Nat) (l0_0 : List Int) (l0_1 : List Int) (a1 : Int) (a2 : Bool) : Option (Bool) := (laws_szVessels.f l0_0 l0_1 1048576).bind fun t121 => (if t121 < 0 then (some true) else ((laws_toVessels.f k l0_0 l0_1).bind fun bt122 => ((spec_PlanToAmount.f k bt122.1 bt122.2 a1 a2).bind fun bt128 => ((laws_toVessels.f k l0_0 l0_1).bind fun bt132 => ((impl_PlanToAmount.f k bt132.1 bt132.2 a1 a2).bind fun bt139 => ((laws_eqMoveS.f k bt139.1 bt128.1).bind fun t143 => (if t143 = true then (laws_FnExactPlanToAmount.j0 k a1 a2 bt128.1 bt128.2 bt139.1 bt139.2 (bt139.2 != bt128.2) l0_0 l0_1 bt132.1 bt132.2) else (laws_FnExactPlanToAmount.j0 k a1 a2 bt128.1 bt128.2 bt139.1 bt139.2 true l0_0 l0_1 bt132.1 bt132.2))))))))
set_option maxHeartbeats 8000000 in
set_option maxRecDepth 100000 in
theorem laws_FnExactPlanToAmount.calls (k : Nat) (A0_0 : Option Addr) (c0_0 : Nat) (l0_0 : List Int) (A0_1 : Option Addr) (c0_1 : Nat) (l0_1 : List Int) (a1 : Int) (a2 : Bool) (r : Bool) (w : World) (hr0_0 : Kd.C (Kd.int .i64) w A0_0 l0_0.length l0_0) (hc0_0 : l0_0.length ≤ c0_0) (hr0_1 : Kd.C (Kd.int .i64) w A0_1 l0_1.length l0_1) (hc0_1 : l0_1.length ≤ c0_1) (hrt : Aside0 (r = true)) (h : laws_FnExactPlanToAmount.f k l0_0 l0_1 a1 a2 = some r) :
  Calls Try.prog 5 #[.agg #[.slice A0_0 l0_0.length c0_0, .slice A0_1 l0_1.length c0_1], .int .i64 a1, .bool a2] w fun e w' => e = .returned (.bool r) ∧ Below w.heap.size w w' := by
 have hu32 := Try.underlying32
 have hu35 := Try.underlying35
 have HR0_0 := Aside0.mk hr0_0
 have HC0_0 := Aside0.mk hc0_0
 clear hr0_0 hc0_0
 have HR0_1 := Aside0.mk hr0_1
 have HC0_1 := Aside0.mk hc0_1
 clear hr0_1 hc0_1
 have HB := Aside0.mk (Below.refl w.heap.size w)
 have H : ((laws_szVessels.f l0_0 l0_1 1048576).bind fun t121 => (if t121 < 0 then (some true) else ((laws_toVessels.f k l0_0 l0_1).bind fun bt122 => ((spec_PlanToAmount.f k bt122.1 bt122.2 a1 a2).bind fun bt128 => ((laws_toVessels.f k l0_0 l0_1).bind fun bt132 => ((impl_PlanToAmount.f k bt132.1 bt132.2 a1 a2).bind fun bt139 => ((laws_eqMoveS.f k bt139.1 bt128.1).bind fun t143 => (if t143 = true then (laws_FnExactPlanToAmount.j0 k a1 a2 bt128.1 bt128.2 bt139.1 bt139.2 (bt139.2 != bt128.2) l0_0 l0_1 bt132.1 bt132.2) else (laws_FnExactPlanToAmount.j0 k a1 a2 bt128.1 bt128.2 bt139.1 bt139.2 true l0_0 l0_1 bt132.1 bt132.2))))))))) = some r := h
 clear h
 replace H := Option.bind_eq_some_iff.mp H
 obtain ⟨t121, A40, H⟩ := H
 (try dsimp only at H)
 have A4 := Aside0.mk A40
 clear A40
 by_cases c5 : t121 < 0
 ·rw [if_pos c5] at H
  have c5b0 : decide (t121 < 0) = true := decide_eq_true c5
  clear c5
  obtain rfl := Option.some.inj H
  go_enter Try.func5, Try.ntmps5
  go_wp2_with (first | ((with_reducible refine gate_dst (N := 3) rfl ?_); refine bx 3 #[.slice A0_0 l0_0.length c0_0, .slice A0_1 l0_1.length c0_1] 32 ?_; intro gb120 hg w6 hbox hb; have BK120 := Aside0.mk (hbox); have GW120 := ge HB hg; have GE120 := ge HB hg; replace HB := bs HB hb; clear hb hbox hg; have hcz7_0 := bc0 BK120; have hcz7_1 := bc1 BK120; have hfz7_0 := blk_frozen BK120.out 0; have hfz7_1 := blk_frozen BK120.out 1) | ((with_reducible refine gate_callee (f := 18) rfl ?_); refine gl 20 Try.func18 #[.agg #[.slice A0_0 l0_0.length c0_0, .slice A0_1 l0_1.length c0_1], .int .i64 1048576] ?_; (with_reducible refine (laws_szVessels.calls _ _ l0_0 _ _ l0_1 1048576 t121 _ ?side1 ?side2 ?side3 ?side4 A4.out).mono ?_); (case side1 => exact ck HR0_0 HB); (case side2 => exact HC0_0.out); (case side3 => exact ck HR0_1 HB); (case side4 => exact HC0_1.out); rintro e w8 ⟨rfl, hb⟩; refine ⟨_, rfl, ?_⟩; replace BK120 := bb BK120 hb; replace HB := bs HB hb; (try clear hb)))
  go_ret
  exact ⟨by first | rfl | (simp [errW_none, errW_some] <;> rfl) | (simp [*, errW_none, errW_some] <;> rfl), bw HB⟩
 rw [if_neg c5] at H
 have c5b0 : decide (t121 < 0) = false := decide_eq_false c5
 clear c5
 replace H := Option.bind_eq_some_iff.mp H
 obtain ⟨⟨t122, t125⟩, A90, H⟩ := H
 (try dsimp only at H)
 have A9 := Aside0.mk A90
 clear A90
 replace H := Option.bind_eq_some_iff.mp H
 obtain ⟨⟨t128, t131⟩, A100, H⟩ := H
 (try dsimp only at H)
 have A10 := Aside0.mk A100
 clear A100
 replace H := Option.bind_eq_some_iff.mp H
 obtain ⟨⟨t132, t135⟩, A110, H⟩ := H
 (try dsimp only at H)
 have A11 := Aside0.mk A110
 clear A110
 replace H := Option.bind_eq_some_iff.mp H
 obtain ⟨⟨t139, t142⟩, A120, H⟩ := H
 (try dsimp only at H)
 have A12 := Aside0.mk A120
 clear A120
 have HC13 := Aside0.mk H
 clear H
 go_enter Try.func5, Try.ntmps5
 go_upto_region 8 with (first | ((with_reducible refine gate_dst (N := 3) rfl ?_); refine bx 3 #[.slice A0_0 l0_0.length c0_0, .slice A0_1 l0_1.length c0_1] 32 ?_; intro gb120 hg w14 hbox hb; have BK120 := Aside0.mk (hbox); have GW120 := ge HB hg; have GE120 := ge HB hg; replace HB := bs HB hb; clear hb hbox hg; have hcz15_0 := bc0 BK120; have hcz15_1 := bc1 BK120; have hfz15_0 := blk_frozen BK120.out 0; have hfz15_1 := blk_frozen BK120.out 1) | ((with_reducible refine gate_callee (f := 18) rfl ?_); refine gl 20 Try.func18 #[.agg #[.slice A0_0 l0_0.length c0_0, .slice A0_1 l0_1.length c0_1], .int .i64 1048576] ?_; (with_reducible refine (laws_szVessels.calls _ _ l0_0 _ _ l0_1 1048576 t121 _ ?side1 ?side2 ?side3 ?side4 A4.out).mono ?_); (case side1 => exact ck HR0_0 HB); (case side2 => exact HC0_0.out); (case side3 => exact ck HR0_1 HB); (case side4 => exact HC0_1.out); rintro e w16 ⟨rfl, hb⟩; refine ⟨_, rfl, ?_⟩; replace BK120 := bb BK120 hb; replace HB := bs HB hb; (try clear hb); have hcz17_0 := bc0 BK120; have hcz17_1 := bc1 BK120; have hfz17_0 := blk_frozen BK120.out 0; have hfz17_1 := blk_frozen BK120.out 1) | ((with_reducible refine gate_callee (f := 20) rfl ?_); refine gl 25 Try.func20 #[.agg #[.slice A0_0 l0_0.length c0_0, .slice A0_1 l0_1.length c0_1]] ?_; (with_reducible refine (laws_toVessels.calls k _ _ l0_0 _ _ l0_1 t122 t125 _ ?side1 ?side2 ?side3 ?side4 A9.out).mono ?_); (case side1 => exact ck HR0_0 HB); (case side2 => exact HC0_0.out); (case side3 => exact ck HR0_1 HB); (case side4 => exact HC0_1.out); rintro e w18 ⟨v123, v126, rfl, ho0, ho1, hb⟩; refine ⟨_, rfl, ?_⟩; have HO124 := lo ho0 HB; have HO127 := lo ho1 HB; replace BK120 := bb BK120 hb; replace HB := bs HB hb; (try clear hb); (try clear ho0); (try clear ho1); obtain ⟨Ao19, co19, eo19⟩ := Kd.R_slice HO124.out; subst eo19; obtain ⟨Ao20, co20, eo20⟩ := Kd.R_slice HO127.out; subst eo20) | ((with_reducible refine gate_callee (f := 19) rfl ?_); refine gl 28 Try.func19 #[.agg #[.slice Ao19 t122.length co19, .slice Ao20 t125.length co20], .int .i64 a1, .bool a2] ?_; (with_reducible refine (spec_PlanToAmount.calls k _ _ t122 _ _ t125 a1 a2 t128 t131 _ ?side1 ?side2 ?side3 ?side4 A10.out).mono ?_); (case side1 => exact cr HO124); (case side2 => exact (Kd.R_reads' HO124.out).2.1); (case side3 => exact cr HO127); (case side4 => exact (Kd.R_reads' HO127.out).2.1); rintro e w21 ⟨v129, rfl, ho0, hb⟩; refine ⟨_, rfl, ?_⟩; replace HO124 := rb HO124 hb; replace HO127 := rb HO127 hb; have HO130 := lo ho0 HB; replace BK120 := bb BK120 hb; replace HB := bs HB hb; (try clear hb); (try clear ho0); have hcz22_0 := bc0 BK120; have hcz22_1 := bc1 BK120; have hfz22_0 := blk_frozen BK120.out 0; have hfz22_1 := blk_frozen BK120.out 1) | ((with_reducible refine gate_callee (f := 20) rfl ?_); refine gl 32 Try.func20 #[.agg #[.slice A0_0 l0_0.length c0_0, .slice A0_1 l0_1.length c0_1]] ?_; (with_reducible refine (laws_toVessels.calls k _ _ l0_0 _ _ l0_1 t132 t135 _ ?side1 ?side2 ?side3 ?side4 A11.out).mono ?_); (case side1 => exact ck HR0_0 HB); (case side2 => exact HC0_0.out); (case side3 => exact ck HR0_1 HB); (case side4 => exact HC0_1.out); rintro e w23 ⟨v133, v136, rfl, ho0, ho1, hb⟩; refine ⟨_, rfl, ?_⟩; replace HO130 := rb HO130 hb; have HO134 := Aside0.mk (Kd.R_lower (Kd.R_new' (Kd.R_new' ho0 (Kd.R_lt (rk HO124))) (Kd.R_lt (rk HO127))) (below_size (bw HB))); have HO137 := Aside0.mk (Kd.R_lower (Kd.R_new' (Kd.R_new' ho1 (Kd.R_lt (rk HO124))) (Kd.R_lt (rk HO127))) (below_size (bw HB))); replace HO124 := Aside0.mk (Kd.R_mono (Kd.R_told (Kd.R_told (Kd.R_old (rk HO124) hb) (Kd.R_base ho0)) (Kd.R_base ho1)) (fun _ h_ => h_.1)); replace HO127 := Aside0.mk (Kd.R_mono (Kd.R_told (Kd.R_told (Kd.R_old (rk HO127) hb) (Kd.R_base ho0)) (Kd.R_base ho1)) (fun _ h_ => h_.1)); replace BK120 := bb BK120 hb; replace HB := bs HB hb; (try clear hb); (try clear ho0); (try clear ho1)) | ((with_reducible refine gate_dst (N := 10) rfl ?_); refine bx 10 #[.slice none 0 0, .slice none 0 0] 35 ?_; intro gb138 hg w24 hbox hb; replace HO124 := rb HO124 hb; replace HO127 := rb HO127 hb; replace HO130 := rb HO130 hb; replace HO134 := rb HO134 hb; replace HO137 := rb HO137 hb; have BK138 := Aside0.mk (hbox); have GW138 := ge HB hg; have GE138 := ge HB hg; replace HB := bs HB hb; have NB120_138 := nl BK120 hg; have NB138_120 := nr BK120 hg; replace BK120 := bb BK120 hb; clear hb hbox hg; obtain ⟨Ao25, co25, eo25⟩ := Kd.R_slice HO134.out; subst eo25; have hnb26 := NB138_120.out; have hnc26 := NB120_138.out; have hcz27_0 := bc0 BK138; have hcz27_1 := bc1 BK138; have hfz27_0 := blk_frozen BK138.out 0; have hfz27_1 := blk_frozen BK138.out 1; obtain ⟨Ao28, co28, eo28⟩ := Kd.R_slice HO137.out; subst eo28) | ((with_reducible refine gate_callee (f := 21) rfl ?_); refine gl 37 Try.func21 #[.agg #[.slice Ao25 t132.length co25, .slice Ao28 t135.length co28], .int .i64 a1, .bool a2] ?_; (with_reducible refine (impl_PlanToAmount.calls k _ _ t132 _ _ t135 a1 a2 t139 t142 _ ?side1 ?side2 ?side3 ?side4 A12.out).mono ?_); (case side1 => refine (Kd.R_reads' (e := 3) (base := w.heap.size) (ok := fun k_ => ((some k_ ≠ (.slice Ao28 t135.length co28 : Value).ownBlock ∧ some k_ ≠ (.slice Ao19 t122.length co19 : Value).ownBlock) ∧ some k_ ≠ (.slice Ao20 t125.length co20 : Value).ownBlock)) (n := t132.length) (c := co25) ?_).2.2; exact (by exact (Kd.R_mono (Kd.R_far (p := ⟨gb138, 1, none⟩) (Kd.R_far (p := ⟨gb138, 0, none⟩) (Kd.R_types HO134.out BK138.out (by decide)) (fun _ hk => hk.2) (.slice Ao25 t132.length co25)) (fun _ hk => hk.2) (.slice Ao28 t135.length co28)) (fun _ h_ => h_.1)))); (case side2 => exact (Kd.R_reads' HO134.out).2.1); (case side3 => refine (Kd.R_reads' (e := 3) (base := w.heap.size) (ok := fun k_ => ((some k_ ≠ (.slice Ao25 t132.length co25 : Value).ownBlock ∧ some k_ ≠ (.slice Ao19 t122.length co19 : Value).ownBlock) ∧ some k_ ≠ (.slice Ao20 t125.length co20 : Value).ownBlock)) (n := t135.length) (c := co28) ?_).2.2; exact (by exact (Kd.R_mono (Kd.R_far (p := ⟨gb138, 1, none⟩) (Kd.R_far (p := ⟨gb138, 0, none⟩) (Kd.R_types HO137.out BK138.out (by decide)) (fun _ hk => hk.2) (.slice Ao25 t132.length co25)) (fun _ hk => hk.2) (.slice Ao28 t135.length co28)) (fun _ h_ => h_.1)))); (case side4 => exact (Kd.R_reads' HO137.out).2.1); rintro e w29 ⟨v140, rfl, ho0, hb⟩; refine ⟨_, rfl, ?_⟩; replace HO124 := Aside0.mk (Kd.R_below (by exact (Kd.R_mono (Kd.R_far (p := ⟨gb138, 1, none⟩) (Kd.R_far (p := ⟨gb138, 0, none⟩) (Kd.R_types HO124.out BK138.out (by decide)) (fun _ hk => hk.2) (.slice Ao25 t132.length co25)) (fun _ hk => hk.2) (.slice Ao28 t135.length co28)) (fun _ h_ => h_.1))) hb); replace HO127 := Aside0.mk (Kd.R_below (by exact (Kd.R_mono (Kd.R_far (p := ⟨gb138, 1, none⟩) (Kd.R_far (p := ⟨gb138, 0, none⟩) (Kd.R_types HO127.out BK138.out (by decide)) (fun _ hk => hk.2) (.slice Ao25 t132.length co25)) (fun _ hk => hk.2) (.slice Ao28 t135.length co28)) (fun _ h_ => h_.1))) hb); replace HO134 := Aside0.mk (Kd.R_below (by exact (Kd.R_mono (Kd.R_far (p := ⟨gb138, 1, none⟩) (Kd.R_far (p := ⟨gb138, 0, none⟩) (Kd.R_types HO134.out BK138.out (by decide)) (fun _ hk => hk.2) (.slice Ao25 t132.length co25)) (fun _ hk => hk.2) (.slice Ao28 t135.length co28)) (fun _ h_ => h_.1))) hb); replace HO137 := Aside0.mk (Kd.R_below (by exact (Kd.R_mono (Kd.R_far (p := ⟨gb138, 1, none⟩) (Kd.R_far (p := ⟨gb138, 0, none⟩) (Kd.R_types HO137.out BK138.out (by decide)) (fun _ hk => hk.2) (.slice Ao25 t132.length co25)) (fun _ hk => hk.2) (.slice Ao28 t135.length co28)) (fun _ h_ => h_.1))) hb); have HO141 := Aside0.mk (Kd.R_lower (Kd.R_new' ho0 (Kd.R_lt (by exact (Kd.R_mono (Kd.R_far (p := ⟨gb138, 1, none⟩) (Kd.R_far (p := ⟨gb138, 0, none⟩) (Kd.R_types HO130.out BK138.out (by decide)) (fun _ hk => hk.2) (.slice Ao25 t132.length co25)) (fun _ hk => hk.2) (.slice Ao28 t135.length co28)) (fun _ h_ => h_.1))))) (below_size (bw HB))); replace HO130 := Aside0.mk (Kd.R_elder' (by exact (Kd.R_mono (Kd.R_far (p := ⟨gb138, 1, none⟩) (Kd.R_far (p := ⟨gb138, 0, none⟩) (Kd.R_types HO130.out BK138.out (by decide)) (fun _ hk => hk.2) (.slice Ao25 t132.length co25)) (fun _ hk => hk.2) (.slice Ao28 t135.length co28)) (fun _ h_ => h_.1))) (Kd.R_base ho0) hb); replace BK120 := bb BK120 hb; replace BK138 := Aside0.mk (blk_below (g := gb138) (o := .cells #[.slice Ao25 t132.length co25, .slice Ao28 t135.length co28] 35 (0, 0)) (by refine blk_put (cs := #[.slice Ao25 t132.length co25, .slice none 0 0]) ?_ 1 _ rfl; refine blk_put (cs := #[.slice none 0 0, .slice none 0 0]) ?_ 0 _ rfl; exact bk BK138) hb); replace HB := bs HB hb; (try clear hb); (try clear ho0)))
 (try simp only [Act.put, List.setIfInBounds_toArray, List.set_cons_zero, List.set_cons_succ])
 go_cut [48] (fun v48 wc => ∃ (kq : Nat) (x48_12 : Bool), v48 = .bool x48_12 ∧ Aside0 (laws_FnExactPlanToAmount.j0 kq a1 a2 t128 t131 t139 t142 x48_12 l0_0 l0_1 t132 t135 = some r) ∧ Aside0 (kq ≤ k) ∧ Aside0 (Kd.R k55 55 wc w.heap.size (fun k_ => some k_ ≠ (v140 : Value).ownBlock) v129 t128) ∧ Aside0 (Kd.R k55 55 wc w.heap.size (fun k_ => some k_ ≠ (v129 : Value).ownBlock) v140 t139) ∧ Aside0 (Kd.R (Kd.int .i64) 3 wc w.heap.size (fun k_ => some k_ ≠ ((.slice Ao28 t135.length co28) : Value).ownBlock) (.slice Ao25 t132.length co25) t132) ∧ Aside0 (Kd.R (Kd.int .i64) 3 wc w.heap.size (fun k_ => some k_ ≠ ((.slice Ao25 t132.length co25) : Value).ownBlock) (.slice Ao28 t135.length co28) t135) ∧ Aside0 (wc.heap[gb120]? = some (.cells #[(.slice A0_0 l0_0.length c0_0), (.slice A0_1 l0_1.length c0_1)] 32 (0, 0))) ∧ Aside0 (wc.heap[gb138]? = some (.cells #[(.slice Ao25 t132.length co25), (.slice Ao28 t135.length co28)] 35 (0, 0))) ∧ Aside0 (Below w.heap.size w wc))
 case first =>
  have H := HC13.out
  clear HC13
  replace H := Option.bind_eq_some_iff.mp H
  obtain ⟨t143, A300, H⟩ := H
  (try dsimp only at H)
  have A30 := Aside0.mk A300
  clear A300
  by_cases c31 : t143 = true
  rotate_left
  ·replace c31 := Bool.eq_false_iff.mpr c31
   subst c31
   have H1 : (laws_FnExactPlanToAmount.j0 k a1 a2 t128 t131 t139 t142 true l0_0 l0_1 t132 t135) = some r := by rw [if_neg (show ¬ (false = true) by decide)] at H; exact H
   clear H
   have H := H1
   clear H1
   exact absurd H (by rw [hrt.out]; cases k <;> simp [laws_FnExactPlanToAmount.j0])
  subst c31
  have H1 : (laws_FnExactPlanToAmount.j0 k a1 a2 t128 t131 t139 t142 (t142 != t131) l0_0 l0_1 t132 t135) = some r := by rw [if_pos rfl] at H; exact H
  clear H
  have H := H1
  clear H1
  have H' := Aside0.mk H
  clear H
  obtain ⟨Ao32, co32, eo32⟩ := Kd.R_slice HO141.out
  subst eo32
  obtain ⟨Ao33, co33, eo33⟩ := Kd.R_slice HO130.out
  subst eo33
  go_wp2_with (first | ((with_reducible refine gate_callee (f := 15) rfl ?_); refine gl 42 Try.func15 #[.slice Ao32 t139.length co32, .slice Ao33 t128.length co33] ?_; (with_reducible refine (laws_eqMoveS.calls k _ _ t139 _ _ t128 true _ ?side1 ?side2 ?side3 ?side4 A30.out).mono ?_); (case side1 => exact cr HO141); (case side2 => exact (Kd.R_reads' HO141.out).2.1); (case side3 => exact cr HO130); (case side4 => exact (Kd.R_reads' HO130.out).2.1); rintro e w34 ⟨rfl, hb⟩; refine ⟨_, rfl, ?_⟩; replace HO124 := rb HO124 hb; replace HO127 := rb HO127 hb; replace HO130 := rb HO130 hb; replace HO134 := rb HO134 hb; replace HO137 := rb HO137 hb; replace HO141 := rb HO141 hb; replace BK120 := bb BK120 hb; replace BK138 := bb BK138 hb; replace HB := bs HB hb; (try clear hb)))
  go_meet
  case rel => exact ⟨_, ((t142 != t131)), (by first | rfl | (simp; done) | (simp [*]; done)), H', ⟨by first | omega | exact Nat.le_refl _⟩, ⟨by exact Kd.R_mono HO130.out (fun _ hk => hk.2)⟩, ⟨by exact Kd.R_mono HO141.out (fun _ hk => hk.2)⟩, ⟨by exact Kd.R_mono HO134.out (fun _ hk => hk.1.1)⟩, ⟨by exact Kd.R_mono HO137.out (fun _ hk => hk.1.1)⟩, ⟨bk BK120⟩, ⟨bk BK138⟩, ⟨bw HB⟩⟩
 case rest =>
  clear HC13
  try clear c1
  try clear c2
  try clear p2
  try clear c3
  try clear c5
  try clear c5b0
  try clear c15
  try clear c18
  try clear c19
  try clear c20
  try clear c21
  try clear c26
  try clear c31
  try clear hcz15_0
  try clear hcz15_1
  try clear hcz17_0
  try clear hcz17_1
  try clear hcz22_0
  try clear hcz22_1
  try clear hcz27_0
  try clear hcz27_1
  try clear hcz7_0
  try clear hcz7_1
  try clear hfz15_0
  try clear hfz15_1
  try clear hfz17_0
  try clear hfz17_1
  try clear hfz22_0
  try clear hfz22_1
  try clear hfz27_0
  try clear hfz27_1
  try clear hfz7_0
  try clear hfz7_1
  obtain ⟨kq, x48_12, rfl, HA, HJ12, HO_8, HO_11, HO_139000, HO_139001, BK120, BK138, HB⟩ := hcut
  cases kq with
  | zero => exact absurd HA.out (by simp [laws_FnExactPlanToAmount.j0])
  | succ kj12 =>
   have H := HA.out
   clear HA
   simp only [laws_FnExactPlanToAmount.j0] at H
   by_cases c35 : x48_12 = true
   ·subst c35
    have H1 : (some false) = some r := by rw [if_pos rfl] at H; exact H
    clear H
    have H := H1
    clear H1
    exact absurd ((Option.some.inj H).trans hrt.out) (by decide)
   replace c35 := Bool.eq_false_iff.mpr c35
   subst c35
   have H1 : ((laws_toVessels.f kj12 l0_0 l0_1).bind fun bt144 => ((laws_eqVessels.f kj12 t132 t135 bt144.1 bt144.2).bind fun t150 => (if t150 = true then ((laws_markVessels.f kj12 t132 t135 1).bind fun bt151 => (if bt151.1 < 0 then (laws_FnExactPlanToAmount.j1 kj12 a1 a2 t128 t131 t139 true l0_0 l0_1) else ((laws_eqMoveS.f kj12 t139 t128).bind fun t154 => (if t154 = true then (laws_FnExactPlanToAmount.j1 kj12 a1 a2 t128 t131 t139 (t142 != t131) l0_0 l0_1) else (laws_FnExactPlanToAmount.j1 kj12 a1 a2 t128 t131 t139 true l0_0 l0_1))))) else (some false)))) = some r := by rw [if_neg (show ¬ (false = true) by decide)] at H; exact H
   clear H
   have H := H1
   clear H1
   replace H := Option.bind_eq_some_iff.mp H
   obtain ⟨⟨t144, t147⟩, A360, H⟩ := H
   (try dsimp only at H)
   have A36 := Aside0.mk A360
   clear A360
   replace H := Option.bind_eq_some_iff.mp H
   obtain ⟨t150, A370, H⟩ := H
   (try dsimp only at H)
   have A37 := Aside0.mk A370
   clear A370
   by_cases c38 : t150 = true
   rotate_left
   ·replace c38 := Bool.eq_false_iff.mpr c38
    subst c38
    have H1 : (some false) = some r := by rw [if_neg (show ¬ (false = true) by decide)] at H; exact H
    clear H
    have H := H1
    clear H1
    exact absurd ((Option.some.inj H).trans hrt.out) (by decide)
   subst c38
   have H1 : ((laws_markVessels.f kj12 t132 t135 1).bind fun bt151 => (if bt151.1 < 0 then (laws_FnExactPlanToAmount.j1 kj12 a1 a2 t128 t131 t139 true l0_0 l0_1) else ((laws_eqMoveS.f kj12 t139 t128).bind fun t154 => (if t154 = true then (laws_FnExactPlanToAmount.j1 kj12 a1 a2 t128 t131 t139 (t142 != t131) l0_0 l0_1) else (laws_FnExactPlanToAmount.j1 kj12 a1 a2 t128 t131 t139 true l0_0 l0_1))))) = some r := by rw [if_pos rfl] at H; exact H
   clear H
   have H := H1
   clear H1
   replace H := Option.bind_eq_some_iff.mp H
   obtain ⟨⟨t151, t152, t153⟩, A390, H⟩ := H
   (try dsimp only at H)
   have A39 := Aside0.mk A390
   clear A390
   have HC40 := Aside0.mk H
   clear H
   try go_wp2
   replace HO_8 := Aside0.mk (Kd.R_drew HO_8.out)
   replace HO_11 := Aside0.mk (Kd.R_drew HO_11.out)
   replace HO_139000 := Aside0.mk (Kd.R_drew HO_139000.out)
   replace HO_139001 := Aside0.mk (Kd.R_drew HO_139001.out)
   replace BK120 := Aside0.mk (blk_drew BK120.out)
   replace BK138 := Aside0.mk (blk_drew BK138.out)
   replace HB := Aside0.mk (below_drew1 HB.out)
   refine start_ (n := 5) (S := fun w' => w'.cell? ⟨gb138, 0, none⟩ = some (.slice Ao25 t132.length co25) ∧ w'.cell? ⟨gb138, 1, none⟩ = some (.slice Ao28 t135.length co28) ∧ w'.cell? ⟨gb120, 0, none⟩ = some (.slice A0_0 l0_0.length c0_0) ∧ w'.cell? ⟨gb120, 1, none⟩ = some (.slice A0_1 l0_1.length c0_1)) (ds := []) #[false, false, false, false, false] (by kernel_rfl) rfl rfl ⟨bc0 BK138, bc1 BK138, bc0 BK120, bc1 BK120⟩ (fun hHeld => ?_)
   generalize wc.drew = w41 at HO_8 HO_11 HO_139000 HO_139001 BK120 BK138 HB hHeld ⊢
   refine take_ (i := 0) (N := some 49) (v := ?_) (a' := ?_) #[true, false, false, false, false] rfl rfl (by kernel_rfl) (fun _ _ _ h => h) (Or.inl ⟨by rfl, ?_⟩) hHeld ?_ ?_
   rotate_left; (rintro w' ⟨s0, s1, s2, s3⟩; go_simp; with_reducible rfl); rotate_left; (simp only [sqa, sqb, sqc, sqd, i64_w, i32_w]; rfl)
   refine take_ (i := 1) (N := some 50) (v := ?_) (a' := ?_) #[true, true, false, false, false] rfl rfl (by kernel_rfl) (fun _ _ _ h => h) (Or.inl ⟨by rfl, ?_⟩) hHeld ?_ ?_
   rotate_left; (rintro w' ⟨s0, s1, s2, s3⟩; go_simp; with_reducible rfl); rotate_left; (simp only [sqa, sqb, sqc, sqd, i64_w, i32_w]; rfl)
   refine one_ (i := 2) (N := some 51) #[true, true, true, false, false] rfl rfl (by kernel_rfl) (by decide) (fun K hK => ?_)
   refine gs Try.func20 #[.agg #[.slice A0_0 l0_0.length c0_0, .slice A0_1 l0_1.length c0_1]] ?_
   with_reducible refine (laws_toVessels.calls kj12 _ _ l0_0 _ _ l0_1 t144 t147 _ ?side1 ?side2 ?side3 ?side4 A36.out).mono ?_
   (case side1 => exact ck HR0_0 HB)
   (case side2 => exact HC0_0.out)
   (case side3 => exact ck HR0_1 HB)
   (case side4 => exact HC0_1.out)
   rintro e w42 ⟨v145, v148, rfl, ho0, ho1, hb⟩
   refine ⟨_, rfl, ?_⟩
   replace HO_8 := rb HO_8 hb
   replace HO_11 := rb HO_11 hb
   have HO146 := Aside0.mk (Kd.R_lower (Kd.R_new' (Kd.R_new' ho0 (Kd.R_lt (rk HO_139000))) (Kd.R_lt (rk HO_139001))) (below_size (bw HB)))
   have HO149 := Aside0.mk (Kd.R_lower (Kd.R_new' (Kd.R_new' ho1 (Kd.R_lt (rk HO_139000))) (Kd.R_lt (rk HO_139001))) (below_size (bw HB)))
   replace HO_139000 := Aside0.mk (Kd.R_mono (Kd.R_told (Kd.R_told (Kd.R_old (rk HO_139000) hb) (Kd.R_base ho0)) (Kd.R_base ho1)) (fun _ h_ => h_.1))
   replace HO_139001 := Aside0.mk (Kd.R_mono (Kd.R_told (Kd.R_told (Kd.R_old (rk HO_139001) hb) (Kd.R_base ho0)) (Kd.R_base ho1)) (fun _ h_ => h_.1))
   replace BK120 := bb BK120 hb
   replace BK138 := bb BK138 hb
   replace HB := bs HB hb
   (try clear hb); (try clear hb2); (try clear hk); (try clear hi); (try clear ho0); (try clear ho1)
   obtain ⟨Ao43, co43, eo43⟩ := Kd.R_slice HO146.out
   (first | subst eo43 | (injection eo43 with f1_ f2_ f3_; have f4_ := f1_.symm; have f5_ := f3_.symm; clear f1_ f2_ f3_; subst f4_; subst f5_))
   obtain ⟨Ao44, co44, eo44⟩ := Kd.R_slice HO149.out
   (first | subst eo44 | (injection eo44 with f1_ f2_ f3_; have f4_ := f1_.symm; have f5_ := f3_.symm; clear f1_ f2_ f3_; subst f4_; subst f5_))
   refine hK.out _ _ ⟨bc0 BK138, bc1 BK138, bc0 BK120, bc1 BK120⟩ (fun hHeld => ?_)
   clear hK K
   refine norm_ (a' := ?_) ?_ ?_; rotate_left; (show Act.put _ (some 51) _ = _; simp only [sqa, sqb, sqc, sqd, i64_w, i32_w]; rfl)
   refine one_ (i := 3) (N := some 52) #[true, true, true, true, false] rfl rfl (by kernel_rfl) (by decide) (fun K hK => ?_)
   refine gs Try.func22 #[.agg #[.slice Ao25 t132.length co25, .slice Ao28 t135.length co28], .agg #[.slice Ao43 t144.length co43, .slice Ao44 t147.length co44]] ?_
   with_reducible refine (laws_eqVessels.calls kj12 _ _ t132 _ _ t135 _ _ t144 _ _ t147 true _ ?side1 ?side2 ?side3 ?side4 ?side5 ?side6 ?side7 ?side8 A37.out).mono ?_
   (case side1 => exact cr HO_139000)
   (case side2 => exact (Kd.R_reads' HO_139000.out).2.1)
   (case side3 => exact cr HO_139001)
   (case side4 => exact (Kd.R_reads' HO_139001.out).2.1)
   (case side5 => exact cr HO146)
   (case side6 => exact (Kd.R_reads' HO146.out).2.1)
   (case side7 => exact cr HO149)
   (case side8 => exact (Kd.R_reads' HO149.out).2.1)
   rintro e w45 ⟨rfl, hb⟩
   refine ⟨_, rfl, ?_⟩
   replace HO_8 := rb HO_8 hb
   replace HO_11 := rb HO_11 hb
   replace HO_139000 := rb HO_139000 hb
   replace HO_139001 := rb HO_139001 hb
   replace HO146 := rb HO146 hb
   replace HO149 := rb HO149 hb
   replace BK120 := bb BK120 hb
   replace BK138 := bb BK138 hb
   replace HB := bs HB hb
   (try clear hb); (try clear hb2); (try clear hk); (try clear hi)
   refine hK.out _ _ ⟨bc0 BK138, bc1 BK138, bc0 BK120, bc1 BK120⟩ (fun hHeld => ?_)
   clear hK K
   refine norm_ (a' := ?_) ?_ ?_; rotate_left; (show Act.put _ (some 52) _ = _; simp only [sqa, sqb, sqc, sqd, i64_w, i32_w]; rfl)
   refine pure_ (i := 4) (N := some 53) (v := ?_) (a' := ?_) #[true, true, true, true, true] rfl rfl (by kernel_rfl) (fun _ _ _ h => h) (Or.inl ⟨by rfl, ?_⟩) ?_ ?_
   rotate_left; (intro w'; go_simp; with_reducible rfl); rotate_left; (simp only [sqa, sqb, sqc, sqd, i64_w, i32_w]; rfl)
   refine done_ (by kernel_rfl) ?_
   have hnb46 := NB138_120.out
   have hnc46 := NB120_138.out
   have hcz47_0 := bc0 BK138
   have hcz47_1 := bc1 BK138
   have hfz47_0 := blk_frozen BK138.out 0
   have hfz47_1 := blk_frozen BK138.out 1
   go_upto_region 14 with (first | ((with_reducible refine gate_callee (f := 23) rfl ?_); refine gl 56 Try.func23 #[.agg #[.slice Ao25 t132.length co25, .slice Ao28 t135.length co28], .int .i64 1] ?_; (with_reducible refine (laws_markVessels.calls kj12 (fun k_ => some k_ = (.slice Ao25 t132.length co25 : Value).ownBlock) (.slice Ao25 t132.length co25) t132 (fun k_ => some k_ = (.slice Ao28 t135.length co28 : Value).ownBlock) (.slice Ao28 t135.length co28) t135 1 t151 t152 t153 w _ ?side1 ?side2 ?side3 ?side4 ?side5 A39.out).mono ?_); (case side1 => repeat (first | (with_reducible first | exact HB.out | apply below_alloc | apply pw_below_drewN | apply below_drew1 | refine below_set ?_ GE120.out | refine below_set ?_ GE138.out) | exact HB.out)); (case side2 => exact Kd.R_tight rfl HO_139000.out); (case side3 => exact fun k_ e_ => (HO_139000.out.1 k_ e_.symm).1.1); (case side4 => exact Kd.R_tight rfl HO_139001.out); (case side5 => exact fun k_ e_ => (HO_139001.out.1 k_ e_.symm).1.1); rintro e w48 ⟨rfl, hy0, hy1, hb, hkp⟩; refine ⟨_, rfl, ?_⟩; replace HO_8 := Aside0.mk (Kd.R_mono (ok' := fun k_ => some k_ ≠ (v140 : Value).ownBlock) (Kd.R_keptB ((Kd.R_apart' (Kd.R_apart' HO_8.out (Kd.R_typed HO_139000.out) (by decide)) (Kd.R_typed HO_139001.out) (by decide))) hkp (fun k_ hk_ hs_ => Or.elim hs_ (fun e_ => (hk_.1.2) e_) (fun e_ => (hk_.2) e_))) (fun k_ hk_ => hk_.1.1.1)); replace HO_11 := Aside0.mk (Kd.R_mono (ok' := fun k_ => some k_ ≠ (v129 : Value).ownBlock) (Kd.R_keptB ((Kd.R_apart' (Kd.R_apart' HO_11.out (Kd.R_typed HO_139000.out) (by decide)) (Kd.R_typed HO_139001.out) (by decide))) hkp (fun k_ hk_ hs_ => Or.elim hs_ (fun e_ => (hk_.1.2) e_) (fun e_ => (hk_.2) e_))) (fun k_ hk_ => hk_.1.1.1)); replace BK120 := Aside0.mk (blk_kept (bk BK120) hkp (fun hs_ => Or.elim hs_ (fun e_ => (fun e_ => (Kd.R_ne HO_139000.out BK120.out (by decide)) e_) e_) (fun e_ => (fun e_ => (Kd.R_ne HO_139001.out BK120.out (by decide)) e_) e_))); replace BK138 := Aside0.mk (blk_kept (bk BK138) hkp (fun hs_ => Or.elim hs_ (fun e_ => (fun e_ => (Kd.R_ne HO_139000.out BK138.out (by decide)) e_) e_) (fun e_ => (fun e_ => (Kd.R_ne HO_139001.out BK138.out (by decide)) e_) e_))); replace HO_139000 := Aside0.mk (Kd.R_reok rfl hy0 (fun k_ e_ => HO_139000.out.1 k_ e_)); replace HO_139001 := Aside0.mk (Kd.R_reok rfl hy1 (fun k_ e_ => HO_139001.out.1 k_ e_)); replace HO146 := Aside0.mk (Kd.R_mono (ok' := fun k_ => some k_ ≠ (.slice Ao25 t132.length co25 : Value).ownBlock ∧ some k_ ≠ (.slice Ao28 t135.length co28 : Value).ownBlock ∧ some k_ ≠ (.slice Ao44 t147.length co44 : Value).ownBlock) (Kd.R_keptB (HO146.out) hkp (fun k_ hk_ hs_ => Or.elim hs_ (fun e_ => (hk_.1.2) e_) (fun e_ => (hk_.2) e_))) (fun k_ hk_ => ⟨hk_.1.1.2, hk_.1.2, hk_.1.1.1⟩)); replace HO149 := Aside0.mk (Kd.R_mono (ok' := fun k_ => some k_ ≠ (.slice Ao25 t132.length co25 : Value).ownBlock ∧ some k_ ≠ (.slice Ao28 t135.length co28 : Value).ownBlock ∧ some k_ ≠ (.slice Ao43 t144.length co43 : Value).ownBlock) (Kd.R_keptB (HO149.out) hkp (fun k_ hk_ hs_ => Or.elim hs_ (fun e_ => (hk_.1.2) e_) (fun e_ => (hk_.2) e_))) (fun k_ hk_ => ⟨hk_.1.1.2, hk_.1.2, hk_.1.1.1⟩)); replace HB := Aside0.mk (hb); (try clear hb); (try clear hkp); (try clear hy0); (try clear hy1)))
   (try simp only [Act.put, List.setIfInBounds_toArray, List.set_cons_zero, List.set_cons_succ])
   go_cut [69] (fun v69 wc => ∃ (kq : Nat) (x69_39 : Bool), v69 = .bool x69_39 ∧ Aside0 (laws_FnExactPlanToAmount.j1 kq a1 a2 t128 t131 t139 x69_39 l0_0 l0_1 = some r) ∧ Aside0 (kq ≤ kj12) ∧ Aside0 (Kd.R k55 55 wc w.heap.size (fun k_ => some k_ ≠ (v140 : Value).ownBlock) v129 t128) ∧ Aside0 (Kd.R k55 55 wc w.heap.size (fun k_ => some k_ ≠ (v129 : Value).ownBlock) v140 t139) ∧ Aside0 (Kd.R (Kd.int .i64) 3 wc w.heap.size (fun k_ => some k_ ≠ ((.slice Ao28 t135.length co28) : Value).ownBlock) (.slice Ao25 t132.length co25) t152) ∧ Aside0 (Kd.R (Kd.int .i64) 3 wc w.heap.size (fun k_ => some k_ ≠ ((.slice Ao25 t132.length co25) : Value).ownBlock) (.slice Ao28 t135.length co28) t153) ∧ Aside0 (wc.heap[gb120]? = some (.cells #[(.slice A0_0 l0_0.length c0_0), (.slice A0_1 l0_1.length c0_1)] 32 (0, 0))) ∧ Aside0 (wc.heap[gb138]? = some (.cells #[(.slice Ao25 t132.length co25), (.slice Ao28 t135.length co28)] 35 (0, 0))) ∧ Aside0 (Below w.heap.size w wc))
   case first =>
    have H := HC40.out
    clear HC40
    by_cases c49 : t151 < 0
    ·rw [if_pos c49] at H
     have c49b0 : decide (t151 < 0) = true := decide_eq_true c49
     clear c49
     (first | rw [c49b0] | (simp only [i64_w, i32_w]; rw [c49b0]) | skip)
     exact absurd H (by rw [hrt.out]; cases kj12 <;> simp [laws_FnExactPlanToAmount.j1])
    rw [if_neg c49] at H
    have c49b0 : decide (t151 < 0) = false := decide_eq_false c49
    clear c49
    (first | rw [c49b0] | (simp only [i64_w, i32_w]; rw [c49b0]) | skip)
    replace H := Option.bind_eq_some_iff.mp H
    obtain ⟨t154, A500, H⟩ := H
    (try dsimp only at H)
    have A50 := Aside0.mk A500
    clear A500
    by_cases c51 : t154 = true
    rotate_left
    ·replace c51 := Bool.eq_false_iff.mpr c51
     subst c51
     have H1 : (laws_FnExactPlanToAmount.j1 kj12 a1 a2 t128 t131 t139 true l0_0 l0_1) = some r := by rw [if_neg (show ¬ (false = true) by decide)] at H; exact H
     clear H
     have H := H1
     clear H1
     exact absurd H (by rw [hrt.out]; cases kj12 <;> simp [laws_FnExactPlanToAmount.j1])
    subst c51
    have H1 : (laws_FnExactPlanToAmount.j1 kj12 a1 a2 t128 t131 t139 (t142 != t131) l0_0 l0_1) = some r := by rw [if_pos rfl] at H; exact H
    clear H
    have H := H1
    clear H1
    have H' := Aside0.mk H
    clear H
    obtain ⟨Ao52, co52, eo52⟩ := Kd.R_slice HO_11.out
    subst eo52
    obtain ⟨Ao53, co53, eo53⟩ := Kd.R_slice HO_8.out
    subst eo53
    go_wp2_with (first | (go_at_call 15; (with_reducible refine (laws_eqMoveS.calls kj12 _ _ t139 _ _ t128 true _ ?side1 ?side2 ?side3 ?side4 A50.out).mono ?_); (case side1 => exact cr HO_11); (case side2 => exact (Kd.R_reads' HO_11.out).2.1); (case side3 => exact cr HO_8); (case side4 => exact (Kd.R_reads' HO_8.out).2.1); rintro e w54 ⟨rfl, hb⟩; replace HO_8 := rb HO_8 hb; replace HO_11 := rb HO_11 hb; replace HO_139000 := rb HO_139000 hb; replace HO_139001 := rb HO_139001 hb; replace HO146 := rb HO146 hb; replace HO149 := rb HO149 hb; replace BK120 := bb BK120 hb; replace BK138 := bb BK138 hb; replace HB := bs HB hb; (try clear hb)))
    go_meet
    case rel => exact ⟨_, ((t142 != t131)), (by first | rfl | (simp; done) | (simp [*]; done)), H', ⟨by have := HJ12.out; first | omega | exact Nat.le_refl _⟩, ⟨rk HO_8⟩, ⟨rk HO_11⟩, ⟨by exact Kd.R_mono HO_139000.out (fun _ hk => hk.1.1)⟩, ⟨by exact Kd.R_mono HO_139001.out (fun _ hk => hk.1.1)⟩, ⟨bk BK120⟩, ⟨bk BK138⟩, ⟨bw HB⟩⟩
   case rest =>
    clear HC40
    try clear c1
    try clear c2
    try clear p2
    try clear c3
    try clear c4
    try clear c5
    try clear c5b0
    try clear c15
    try clear c18
    try clear c19
    try clear c20
    try clear c21
    try clear c22
    try clear c23
    try clear c26
    try clear c31
    try clear c35
    try clear c38
    try clear c46
    try clear c49
    try clear c49b0
    try clear c51
    try clear hcz15_0
    try clear hcz15_1
    try clear hcz17_0
    try clear hcz17_1
    try clear hcz22_0
    try clear hcz22_1
    try clear hcz27_0
    try clear hcz27_1
    try clear hcz47_0
    try clear hcz47_1
    try clear hcz7_0
    try clear hcz7_1
    try clear hfz15_0
    try clear hfz15_1
    try clear hfz17_0
    try clear hfz17_1
    try clear hfz22_0
    try clear hfz22_1
    try clear hfz27_0
    try clear hfz27_1
    try clear hfz47_0
    try clear hfz47_1
    try clear hfz7_0
    try clear hfz7_1
    try clear p2
    obtain ⟨kq, x69_39, rfl, HA, HJ39, HO_8, HO_11, HO_139000, HO_139001, BK120, BK138, HB⟩ := hcut
    have hl139000_39 := (Kd.R_reads' HO_139000.out).1
    rw [hl139000_39] at HO_139000
    (try simp only [hl139000_39])
    (try simp only [hl139000_39] at BK120)
    (try simp only [hl139000_39] at BK138)
    (try simp only [hl139000_39] at HO_8)
    (try simp only [hl139000_39] at HO_11)
    (try simp only [hl139000_39] at HO_139001)
    have hl139001_39 := (Kd.R_reads' HO_139001.out).1
    rw [hl139001_39] at HO_139001
    (try simp only [hl139001_39])
    (try simp only [hl139001_39] at BK120)
    (try simp only [hl139001_39] at BK138)
    (try simp only [hl139001_39] at HO_8)
    (try simp only [hl139001_39] at HO_11)
    (try simp only [hl139001_39] at HO_139000)
    cases kq with
    | zero => exact absurd HA.out (by simp [laws_FnExactPlanToAmount.j1])
    | succ kj39 =>
     have H := HA.out
     clear HA
     simp only [laws_FnExactPlanToAmount.j1] at H
     by_cases c55 : x69_39 = true
     ·subst c55
      have H1 : (some false) = some r := by rw [if_pos rfl] at H; exact H
      clear H
      have H := H1
      clear H1
      exact absurd ((Option.some.inj H).trans hrt.out) (by decide)
     replace c55 := Bool.eq_false_iff.mpr c55
     subst c55
     have H1 : ((laws_markMoveS.f kj39 t139 1).bind fun bt155 => ((laws_heldMoveS.f kj39 bt155.2 1).bind fun t157 => (if t157 < 0 then (some false) else (if t157 = bt155.1 then ((laws_toVessels.f kj39 l0_0 l0_1).bind fun bt158 => ((impl_PlanToAmount.f kj39 bt158.1 bt158.2 a1 a2).bind fun bt164 => ((laws_eqMoveS.f kj39 bt164.1 t128).bind fun t168 => (if t168 = true then (laws_FnExactPlanToAmount.j2 kj39 bt155.2 bt155.1 (bt164.2 != t131)) else (laws_FnExactPlanToAmount.j2 kj39 bt155.2 bt155.1 true))))) else (some false))))) = some r := by rw [if_neg (show ¬ (false = true) by decide)] at H; exact H
     clear H
     have H := H1
     clear H1
     replace H := Option.bind_eq_some_iff.mp H
     obtain ⟨⟨t155, t156⟩, A560, H⟩ := H
     (try dsimp only at H)
     have A56 := Aside0.mk A560
     clear A560
     replace H := Option.bind_eq_some_iff.mp H
     obtain ⟨t157, A570, H⟩ := H
     (try dsimp only at H)
     have A57 := Aside0.mk A570
     clear A570
     by_cases c58 : t157 < 0
     ·rw [if_pos c58] at H
      have c58b0 : decide (t157 < 0) = true := decide_eq_true c58
      clear c58
      exact absurd ((Option.some.inj H).trans hrt.out) (by decide)
     rw [if_neg c58] at H
     have c58b0 : decide (t157 < 0) = false := decide_eq_false c58
     clear c58
     by_cases c59 : t157 = t155
     rotate_left
     ·rw [if_neg c59] at H
      have c59b0 : (t157 == t155) = false := beq_eq_false_iff_ne.mpr c59
      have c59b1 : (t157 != t155) = true := bne_iff_ne.mpr c59
      exact absurd ((Option.some.inj H).trans hrt.out) (by decide)
     rw [if_pos c59] at H
     have c59b0 : (t157 == t155) = true := beq_iff_eq.mpr c59
     have c59b1 : (t157 != t155) = false := bne_eq_false_iff_eq.mpr c59
     clear c59
     replace H := Option.bind_eq_some_iff.mp H
     obtain ⟨⟨t158, t161⟩, A600, H⟩ := H
     (try dsimp only at H)
     have A60 := Aside0.mk A600
     clear A600
     replace H := Option.bind_eq_some_iff.mp H
     obtain ⟨⟨t164, t167⟩, A610, H⟩ := H
     (try dsimp only at H)
     have A61 := Aside0.mk A610
     clear A610
     have HC62 := Aside0.mk H
     clear H
     obtain ⟨Ao63, co63, eo63⟩ := Kd.R_slice HO_11.out
     subst eo63
     go_upto_region 25 with (first | ((with_reducible refine gate_callee (f := 16) rfl ?_); refine gl 72 Try.func16 #[.slice Ao63 t139.length co63, .int .i64 1] ?_; (with_reducible refine (laws_markMoveS.calls kj39 (fun k_ => some k_ = (.slice Ao63 t139.length co63 : Value).ownBlock) (.slice Ao63 t139.length co63) t139 1 t155 t156 w _ ?side1 ?side2 A56.out).mono ?_); (case side1 => repeat (first | (with_reducible first | exact HB.out | apply below_alloc | apply pw_below_drewN | apply below_drew1 | refine below_set ?_ GE120.out | refine below_set ?_ GE138.out) | exact HB.out)); (case side2 => exact Kd.R_tight rfl HO_11.out); rintro e w64 ⟨rfl, hy0, hb, hkp⟩; refine ⟨_, rfl, ?_⟩; replace HO_8 := Aside0.mk (Kd.R_mono (ok' := fun k_ => some k_ ≠ (.slice Ao63 t139.length co63 : Value).ownBlock) (Kd.R_keptB (HO_8.out) hkp (fun k_ hk_ hs_ => (hk_) hs_)) (fun k_ hk_ => hk_.1)); replace HO_139000 := Aside0.mk (Kd.R_mono (ok' := fun k_ => some k_ ≠ (.slice Ao28 t153.length co28 : Value).ownBlock) (Kd.R_keptB ((Kd.R_apart' HO_139000.out (Kd.R_typed HO_11.out) (by decide))) hkp (fun k_ hk_ hs_ => (hk_.2) hs_)) (fun k_ hk_ => hk_.1.1)); replace HO_139001 := Aside0.mk (Kd.R_mono (ok' := fun k_ => some k_ ≠ (.slice Ao25 t152.length co25 : Value).ownBlock) (Kd.R_keptB ((Kd.R_apart' HO_139001.out (Kd.R_typed HO_11.out) (by decide))) hkp (fun k_ hk_ hs_ => (hk_.2) hs_)) (fun k_ hk_ => hk_.1.1)); replace BK120 := Aside0.mk (blk_kept (bk BK120) hkp (fun hs_ => (fun e_ => (Kd.R_ne HO_11.out BK120.out (by decide)) e_) hs_)); replace BK138 := Aside0.mk (blk_kept (bk BK138) hkp (fun hs_ => (fun e_ => (Kd.R_ne HO_11.out BK138.out (by decide)) e_) hs_)); replace HO_11 := Aside0.mk (Kd.R_reok rfl hy0 (fun k_ e_ => HO_11.out.1 k_ e_)); replace HB := Aside0.mk (hb); (try clear hb); (try clear hkp); (try clear hy0)) | ((with_reducible refine gate_callee (f := 17) rfl ?_); refine goesL_ (some 75) rfl rfl Try.func17 (by kernel_rfl) rfl #[.slice Ao63 t156.length co63, .int .i64 1] rfl (by (try simp only [List.map_toArray, List.map_cons, List.map_nil]); first | done | (rw [show t156.length = t139.length from (Kd.R_reads' HO_11.out).1.symm] <;> rfl) | rfl | (simp only [List.length_drop, List.length_take]; rfl)) ?_; (with_reducible refine (laws_heldMoveS.calls kj39 _ _ t156 1 t157 _ ?side1 ?side2 A57.out).mono ?_); (case side1 => exact cr HO_11); (case side2 => rw [show t156.length = t139.length from (Kd.R_reads' HO_11.out).1.symm]; exact (Kd.R_reads' HO_11.out).2.1); rintro e w' ⟨rfl, ⟨nd, rfl⟩⟩; refine ⟨_, rfl, ?_⟩; have hnb65 := NB120_138.out; have hnc65 := NB138_120.out; have hcz66_0 := bc0 BK120; have hcz66_1 := bc1 BK120; have hfz66_0 := blk_frozen BK120.out 0; have hfz66_1 := blk_frozen BK120.out 1) | ((with_reducible refine gate_callee (f := 20) rfl ?_); refine gl 83 Try.func20 #[.agg #[.slice A0_0 l0_0.length c0_0, .slice A0_1 l0_1.length c0_1]] ?_; (with_reducible refine (laws_toVessels.calls kj39 _ _ l0_0 _ _ l0_1 t158 t161 _ ?side1 ?side2 ?side3 ?side4 A60.out).mono ?_); (case side1 => repeat (first | exact (Kd.C_below HR0_0.out (bw HB)) | (with_reducible refine Kd.C_alloc ?_ _) | (with_reducible refine Kd.C_drewN ?_ _) | (with_reducible refine Kd.C_drew ?_))); (case side2 => exact HC0_0.out); (case side3 => repeat (first | exact (Kd.C_below HR0_1.out (bw HB)) | (with_reducible refine Kd.C_alloc ?_ _) | (with_reducible refine Kd.C_drewN ?_ _) | (with_reducible refine Kd.C_drew ?_))); (case side4 => exact HC0_1.out); rintro e w67 ⟨v159, v162, rfl, ho0, ho1, hb⟩; refine ⟨_, rfl, ?_⟩; replace HO_8 := rb HO_8 hb; replace HO_11 := rb HO_11 hb; have HO160 := Aside0.mk (Kd.R_lower (Kd.R_new' (Kd.R_new' ho0 (Kd.R_lt (rk HO_139000))) (Kd.R_lt (rk HO_139001))) (below_size (bw HB))); have HO163 := Aside0.mk (Kd.R_lower (Kd.R_new' (Kd.R_new' ho1 (Kd.R_lt (rk HO_139000))) (Kd.R_lt (rk HO_139001))) (below_size (bw HB))); replace HO_139000 := Aside0.mk (Kd.R_mono (Kd.R_told (Kd.R_told (Kd.R_old (rk HO_139000) hb) (Kd.R_base ho0)) (Kd.R_base ho1)) (fun _ h_ => h_.1)); replace HO_139001 := Aside0.mk (Kd.R_mono (Kd.R_told (Kd.R_told (Kd.R_old (rk HO_139001) hb) (Kd.R_base ho0)) (Kd.R_base ho1)) (fun _ h_ => h_.1)); replace BK120 := bb BK120 hb; replace BK138 := bb BK138 hb; replace HB := bs HB hb; (try clear hb); (try clear ho0); (try clear ho1); obtain ⟨Ao68, co68, eo68⟩ := Kd.R_slice HO160.out; subst eo68; obtain ⟨Ao69, co69, eo69⟩ := Kd.R_slice HO163.out; subst eo69) | ((with_reducible refine gate_callee (f := 21) rfl ?_); refine gl 86 Try.func21 #[.agg #[.slice Ao68 t158.length co68, .slice Ao69 t161.length co69], .int .i64 a1, .bool a2] ?_; (with_reducible refine (impl_PlanToAmount.calls kj39 _ _ t158 _ _ t161 a1 a2 t164 t167 _ ?side1 ?side2 ?side3 ?side4 A61.out).mono ?_); (case side1 => exact cr HO160); (case side2 => exact (Kd.R_reads' HO160.out).2.1); (case side3 => exact cr HO163); (case side4 => exact (Kd.R_reads' HO163.out).2.1); rintro e w70 ⟨v165, rfl, ho0, hb⟩; refine ⟨_, rfl, ?_⟩; replace HO_139000 := rb HO_139000 hb; replace HO_139001 := rb HO_139001 hb; replace HO160 := rb HO160 hb; replace HO163 := rb HO163 hb; have HO166 := Aside0.mk (Kd.R_lower (Kd.R_new' (Kd.R_new' ho0 (Kd.R_lt (rk HO_8))) (Kd.R_lt (rk HO_11))) (below_size (bw HB))); replace HO_8 := Aside0.mk (Kd.R_elder' (rk HO_8) (Kd.R_base ho0) hb); replace HO_11 := Aside0.mk (Kd.R_elder' (rk HO_11) (Kd.R_base ho0) hb); replace BK120 := bb BK120 hb; replace BK138 := bb BK138 hb; replace HB := bs HB hb; (try clear hb); (try clear ho0)))
     (try simp only [Act.put, List.setIfInBounds_toArray, List.set_cons_zero, List.set_cons_succ])
     go_cut [97] (fun v97 wc => ∃ (kq : Nat) (x97_61 : Bool), v97 = .bool x97_61 ∧ Aside0 (laws_FnExactPlanToAmount.j2 kq t156 t155 x97_61 = some r) ∧ Aside0 (kq ≤ kj39) ∧ Aside0 (Kd.R k55 55 wc w.heap.size (fun _ => True) (.slice Ao63 t139.length co63) t156) ∧ Aside0 (Kd.R (Kd.int .i64) 3 wc w.heap.size (fun k_ => some k_ ≠ ((.slice Ao28 t153.length co28) : Value).ownBlock) (.slice Ao25 t152.length co25) t152) ∧ Aside0 (Kd.R (Kd.int .i64) 3 wc w.heap.size (fun k_ => some k_ ≠ ((.slice Ao25 t152.length co25) : Value).ownBlock) (.slice Ao28 t153.length co28) t153) ∧ Aside0 (wc.heap[gb120]? = some (.cells #[(.slice A0_0 l0_0.length c0_0), (.slice A0_1 l0_1.length c0_1)] 32 (0, 0))) ∧ Aside0 (wc.heap[gb138]? = some (.cells #[(.slice Ao25 t152.length co25), (.slice Ao28 t153.length co28)] 35 (0, 0))) ∧ Aside0 (Below w.heap.size w wc))
     case first =>
      have H := HC62.out
      clear HC62
      replace H := Option.bind_eq_some_iff.mp H
      obtain ⟨t168, A710, H⟩ := H
      (try dsimp only at H)
      have A71 := Aside0.mk A710
      clear A710
      by_cases c72 : t168 = true
      rotate_left
      ·replace c72 := Bool.eq_false_iff.mpr c72
       subst c72
       have H1 : (laws_FnExactPlanToAmount.j2 kj39 t156 t155 true) = some r := by rw [if_neg (show ¬ (false = true) by decide)] at H; exact H
       clear H
       have H := H1
       clear H1
       exact absurd H (by rw [hrt.out]; cases kj39 <;> simp [laws_FnExactPlanToAmount.j2])
      subst c72
      have H1 : (laws_FnExactPlanToAmount.j2 kj39 t156 t155 (t167 != t131)) = some r := by rw [if_pos rfl] at H; exact H
      clear H
      have H := H1
      clear H1
      have H' := Aside0.mk H
      clear H
      obtain ⟨Ao73, co73, eo73⟩ := Kd.R_slice HO166.out
      subst eo73
      obtain ⟨Ao74, co74, eo74⟩ := Kd.R_slice HO_8.out
      subst eo74
      go_wp2_with (first | ((with_reducible refine gate_callee (f := 15) rfl ?_); refine gl 91 Try.func15 #[.slice Ao73 t164.length co73, .slice Ao74 t128.length co74] ?_; (with_reducible refine (laws_eqMoveS.calls kj39 _ _ t164 _ _ t128 true _ ?side1 ?side2 ?side3 ?side4 A71.out).mono ?_); (case side1 => exact cr HO166); (case side2 => exact (Kd.R_reads' HO166.out).2.1); (case side3 => exact cr HO_8); (case side4 => exact (Kd.R_reads' HO_8.out).2.1); rintro e w75 ⟨rfl, hb⟩; refine ⟨_, rfl, ?_⟩; replace HO_8 := rb HO_8 hb; replace HO_11 := rb HO_11 hb; replace HO_139000 := rb HO_139000 hb; replace HO_139001 := rb HO_139001 hb; replace HO160 := rb HO160 hb; replace HO163 := rb HO163 hb; replace HO166 := rb HO166 hb; replace BK120 := bb BK120 hb; replace BK138 := bb BK138 hb; replace HB := bs HB hb; (try clear hb)))
      go_meet
      case rel => exact ⟨_, ((t167 != t131)), (by first | rfl | (simp; done) | (simp [*]; done)), H', ⟨by have := HJ12.out; have := HJ39.out; first | omega | exact Nat.le_refl _⟩, ⟨by (try simp only [hl139000_39]); (try simp only [hl139001_39]); exact Kd.R_mono HO_11.out (fun _ hk => trivial)⟩, ⟨by (try simp only [hl139000_39]); (try simp only [hl139001_39]); exact Kd.R_mono HO_139000.out (fun _ hk => hk.1.1)⟩, ⟨by (try simp only [hl139000_39]); (try simp only [hl139001_39]); exact Kd.R_mono HO_139001.out (fun _ hk => hk.1.1)⟩, ⟨by (try simp only [hl139000_39]); (try simp only [hl139001_39]); exact bk BK120⟩, ⟨by (try simp only [hl139000_39]); (try simp only [hl139001_39]); exact bk BK138⟩, ⟨bw HB⟩⟩
     case rest =>
      clear HC62
      try clear c1
      try clear c2
      try clear p2
      try clear c3
      try clear c4
      try clear c5
      try clear c5b0
      try clear c6
      try clear c7
      try clear c15
      try clear c16
      try clear c17
      try clear c18
      try clear c19
      try clear c20
      try clear c21
      try clear c22
      try clear c23
      try clear c26
      try clear c31
      try clear c35
      try clear c38
      try clear c46
      try clear c49
      try clear c49b0
      try clear c51
      try clear c55
      try clear c58
      try clear c58b0
      try clear c59
      try clear c59b0
      try clear c59b1
      try clear c65
      try clear c72
      try clear hcz15_0
      try clear hcz15_1
      try clear hcz17_0
      try clear hcz17_1
      try clear hcz22_0
      try clear hcz22_1
      try clear hcz27_0
      try clear hcz27_1
      try clear hcz47_0
      try clear hcz47_1
      try clear hcz66_0
      try clear hcz66_1
      try clear hcz7_0
      try clear hcz7_1
      try clear hfz15_0
      try clear hfz15_1
      try clear hfz17_0
      try clear hfz17_1
      try clear hfz22_0
      try clear hfz22_1
      try clear hfz27_0
      try clear hfz27_1
      try clear hfz47_0
      try clear hfz47_1
      try clear hfz66_0
      try clear hfz66_1
      try clear hfz7_0
      try clear hfz7_1
      try clear p2
      obtain ⟨kq, x97_61, rfl, HA, HJ61, HO_11, HO_139000, HO_139001, BK120, BK138, HB⟩ := hcut
      have hl11_61 := (Kd.R_reads' HO_11.out).1
      rw [hl11_61] at HO_11
      (try simp only [hl11_61])
      (try simp only [hl11_61] at BK120)
      (try simp only [hl11_61] at BK138)
      (try simp only [hl11_61] at HO_139000)
      (try simp only [hl11_61] at HO_139001)
      cases kq with
      | zero => exact absurd HA.out (by simp [laws_FnExactPlanToAmount.j2])
      | succ kj61 =>
       have H := HA.out
       clear HA
       simp only [laws_FnExactPlanToAmount.j2] at H
       by_cases c76 : x97_61 = true
       ·subst c76
        have H1 : (some false) = some r := by rw [if_pos rfl] at H; exact H
        clear H
        have H := H1
        clear H1
        exact absurd ((Option.some.inj H).trans hrt.out) (by decide)
       replace c76 := Bool.eq_false_iff.mpr c76
       subst c76
       have H1 : ((laws_heldMoveS.f kj61 t156 1).bind fun t169 => (if t169 < 0 then (some false) else (if t169 = t155 then (some true) else (some false)))) = some r := by rw [if_neg (show ¬ (false = true) by decide)] at H; exact H
       clear H
       have H := H1
       clear H1
       replace H := Option.bind_eq_some_iff.mp H
       obtain ⟨t169, A770, H⟩ := H
       (try dsimp only at H)
       have A77 := Aside0.mk A770
       clear A770
       by_cases c78 : t169 < 0
       ·rw [if_pos c78] at H
        have c78b0 : decide (t169 < 0) = true := decide_eq_true c78
        clear c78
        exact absurd ((Option.some.inj H).trans hrt.out) (by decide)
       rw [if_neg c78] at H
       have c78b0 : decide (t169 < 0) = false := decide_eq_false c78
       clear c78
       by_cases c79 : t169 = t155
       rotate_left
       ·rw [if_neg c79] at H
        have c79b0 : (t169 == t155) = false := beq_eq_false_iff_ne.mpr c79
        have c79b1 : (t169 != t155) = true := bne_iff_ne.mpr c79
        exact absurd ((Option.some.inj H).trans hrt.out) (by decide)
       rw [if_pos c79] at H
       have c79b0 : (t169 == t155) = true := beq_iff_eq.mpr c79
       have c79b1 : (t169 != t155) = false := bne_eq_false_iff_eq.mpr c79
       clear c79
       obtain rfl := Option.some.inj H
       go_wp2_with (first | ((with_reducible refine gate_callee (f := 17) rfl ?_); refine gl 100 Try.func17 #[.slice Ao63 t156.length co63, .int .i64 1] ?_; (with_reducible refine (laws_heldMoveS.calls kj61 _ _ t156 1 t169 _ ?side1 ?side2 A77.out).mono ?_); (case side1 => exact cr HO_11); (case side2 => exact (Kd.R_reads' HO_11.out).2.1); rintro e w' ⟨rfl, ⟨nd, rfl⟩⟩; refine ⟨_, rfl, ?_⟩))
       go_ret
       exact ⟨by first | rfl | (simp [errW_none, errW_some] <;> rfl) | (simp [*, errW_none, errW_some] <;> rfl), bw HB⟩
end Go.Proofs.Ytieioddimkafbaa.V
