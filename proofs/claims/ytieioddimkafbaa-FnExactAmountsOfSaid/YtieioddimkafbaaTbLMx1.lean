-- Functions of the program as plain functions, and that the calls come to them. Written by a program (ownprint.py); nothing here is trusted: Lean checks it.
import Derived.Test.YtieioddimkafbaaTbVx
import Derived.Test.YtieioddimkafbaaTbVsM
import Derived.Test.YtieioddimkafbaaTbViN
namespace Go.Proofs.Ytieioddimkafbaa.V
open Go.RowKit Go.Proofs.YtieioddimkafbaaW.PrintWords Go.Proofs.YtieioddimkafbaaW.PrintLast Go.Proofs.YtieioddimkafbaaW.PrintMore Go.Proofs.Ytieioddimkafbaa.Sq
attribute [local go_sem] max2_int min2_int max_two min_two max_three min_three max_four min_four   -- for this text's walks alone
set_option linter.unusedVariables false
set_option linter.unusedSimpArgs false
mutual
def laws_FnExactAmountsOf.j0 : Nat → Bool → List Int → Bool → List Int → Bool → Bool → List Int → List Int → List Int → List Int → Option (Bool)
 | 0, _, _, _, _, _, _, _, _, _, _ => none
 | k + 1, x1, x6, x7, x9, x10, x44, x129000, x129001, x147000, x147001 => if x44 = true then (some false) else ((laws_toVessels.f k x129000 x129001).bind fun bt152 => ((laws_eqVessels.f k x147000 x147001 bt152.1 bt152.2).bind fun t158 => (if t158 = true then ((laws_markVessels.f k x147000 x147001 1).bind fun bt159 => (if bt159.1 < 0 then (laws_FnExactAmountsOf.j1 k x1 x6 x7 x9 true x129000 x129001) else ((laws_eqIntS.f k x9 x6).bind fun t162 => (if t162 = true then (laws_FnExactAmountsOf.j1 k x1 x6 x7 x9 (x10 != x7) x129000 x129001) else (laws_FnExactAmountsOf.j1 k x1 x6 x7 x9 true x129000 x129001))))) else (some false))))
def laws_FnExactAmountsOf.j1 : Nat → Bool → List Int → Bool → List Int → Bool → List Int → List Int → Option (Bool)
 | 0, _, _, _, _, _, _, _ => none
 | k + 1, x1, x6, x7, x9, x65, x129000, x129001 => if x65 = true then (some false) else ((laws_markIntS.f k x9 1).bind fun bt163 => ((laws_heldIntS.f k bt163.2 1).bind fun t165 => (if t165 < 0 then (some false) else (if t165 = bt163.1 then ((laws_toVessels.f k x129000 x129001).bind fun bt166 => ((impl_AmountsOf.f k bt166.1 bt166.2 x1).bind fun bt172 => ((laws_eqIntS.f k bt172.1 x6).bind fun t176 => (if t176 = true then (laws_FnExactAmountsOf.j2 k bt163.2 bt163.1 (bt172.2 != x7)) else (laws_FnExactAmountsOf.j2 k bt163.2 bt163.1 true))))) else (some false)))))
def laws_FnExactAmountsOf.j2 : Nat → List Int → Int → Bool → Option (Bool)
 | 0, _, _, _ => none
 | k + 1, x9, x12, x92 => if x92 = true then (some false) else ((laws_heldIntS.f k x9 1).bind fun t177 => (if t177 < 0 then (some false) else (if t177 = x12 then (some true) else (some false))))
end
def laws_FnExactAmountsOf.f (k : Nat) (l0_0 : List Int) (l0_1 : List Int) (a1 : Bool) : Option (Bool) := (laws_szVessels.f l0_0 l0_1 1048576).bind fun t129 => (if t129 < 0 then (some true) else ((laws_toVessels.f k l0_0 l0_1).bind fun bt130 => ((spec_AmountsOf.f k bt130.1 bt130.2 a1).bind fun bt136 => ((laws_toVessels.f k l0_0 l0_1).bind fun bt140 => ((impl_AmountsOf.f k bt140.1 bt140.2 a1).bind fun bt147 => ((laws_eqIntS.f k bt147.1 bt136.1).bind fun t151 => (if t151 = true then (laws_FnExactAmountsOf.j0 k a1 bt136.1 bt136.2 bt147.1 bt147.2 (bt147.2 != bt136.2) l0_0 l0_1 bt140.1 bt140.2) else (laws_FnExactAmountsOf.j0 k a1 bt136.1 bt136.2 bt147.1 bt147.2 true l0_0 l0_1 bt140.1 bt140.2))))))))
set_option maxHeartbeats 8000000 in
set_option maxRecDepth 100000 in
theorem laws_FnExactAmountsOf.calls (k : Nat) (A0_0 : Option Addr) (c0_0 : Nat) (l0_0 : List Int) (A0_1 : Option Addr) (c0_1 : Nat) (l0_1 : List Int) (a1 : Bool) (r : Bool) (w : World) (hr0_0 : Kd.C (Kd.int .i64) w A0_0 l0_0.length l0_0) (hc0_0 : l0_0.length ≤ c0_0) (hr0_1 : Kd.C (Kd.int .i64) w A0_1 l0_1.length l0_1) (hc0_1 : l0_1.length ≤ c0_1) (hrt : Aside0 (r = true)) (h : laws_FnExactAmountsOf.f k l0_0 l0_1 a1 = some r) :
  Calls Try.prog 9 #[.agg #[.slice A0_0 l0_0.length c0_0, .slice A0_1 l0_1.length c0_1], .bool a1] w fun e w' => e = .returned (.bool r) ∧ Below w.heap.size w w' := by
 have hu32 := Try.underlying32
 have hu35 := Try.underlying35
 have HR0_0 := Aside0.mk hr0_0
 have HC0_0 := Aside0.mk hc0_0
 clear hr0_0 hc0_0
 have HR0_1 := Aside0.mk hr0_1
 have HC0_1 := Aside0.mk hc0_1
 clear hr0_1 hc0_1
 have HB := Aside0.mk (Below.refl w.heap.size w)
 have H : ((laws_szVessels.f l0_0 l0_1 1048576).bind fun t129 => (if t129 < 0 then (some true) else ((laws_toVessels.f k l0_0 l0_1).bind fun bt130 => ((spec_AmountsOf.f k bt130.1 bt130.2 a1).bind fun bt136 => ((laws_toVessels.f k l0_0 l0_1).bind fun bt140 => ((impl_AmountsOf.f k bt140.1 bt140.2 a1).bind fun bt147 => ((laws_eqIntS.f k bt147.1 bt136.1).bind fun t151 => (if t151 = true then (laws_FnExactAmountsOf.j0 k a1 bt136.1 bt136.2 bt147.1 bt147.2 (bt147.2 != bt136.2) l0_0 l0_1 bt140.1 bt140.2) else (laws_FnExactAmountsOf.j0 k a1 bt136.1 bt136.2 bt147.1 bt147.2 true l0_0 l0_1 bt140.1 bt140.2))))))))) = some r := h
 clear h
 replace H := Option.bind_eq_some_iff.mp H
 obtain ⟨t129, A30, H⟩ := H
 (try dsimp only at H)
 have A3 := Aside0.mk A30
 clear A30
 by_cases c4 : t129 < 0
 ·rw [if_pos c4] at H
  have c4b0 : decide (t129 < 0) = true := decide_eq_true c4
  clear c4
  obtain rfl := Option.some.inj H
  go_enter Try.func9, Try.ntmps9
  go_wp2_with (first | ((with_reducible refine gate_dst (N := 2) rfl ?_); refine bx 2 #[.slice A0_0 l0_0.length c0_0, .slice A0_1 l0_1.length c0_1] 32 ?_; intro gb128 hg w5 hbox hb; have BK128 := Aside0.mk (hbox); have GW128 := ge HB hg; have GE128 := ge HB hg; replace HB := bs HB hb; clear hb hbox hg; have hcz6_0 := bc0 BK128; have hcz6_1 := bc1 BK128; have hfz6_0 := blk_frozen BK128.out 0; have hfz6_1 := blk_frozen BK128.out 1) | ((with_reducible refine gate_callee (f := 18) rfl ?_); refine gl 18 Try.func18 #[.agg #[.slice A0_0 l0_0.length c0_0, .slice A0_1 l0_1.length c0_1], .int .i64 1048576] ?_; (with_reducible refine (laws_szVessels.calls _ _ l0_0 _ _ l0_1 1048576 t129 _ ?side1 ?side2 ?side3 ?side4 A3.out).mono ?_); (case side1 => exact ck HR0_0 HB); (case side2 => exact HC0_0.out); (case side3 => exact ck HR0_1 HB); (case side4 => exact HC0_1.out); rintro e w7 ⟨rfl, hb⟩; refine ⟨_, rfl, ?_⟩; replace BK128 := bb BK128 hb; replace HB := bs HB hb; (try clear hb)))
  go_ret
  exact ⟨by first | rfl | (simp [errW_none, errW_some] <;> rfl) | (simp [*, errW_none, errW_some] <;> rfl), bw HB⟩
 rw [if_neg c4] at H
 have c4b0 : decide (t129 < 0) = false := decide_eq_false c4
 clear c4
 replace H := Option.bind_eq_some_iff.mp H
 obtain ⟨⟨t130, t133⟩, A80, H⟩ := H
 (try dsimp only at H)
 have A8 := Aside0.mk A80
 clear A80
 replace H := Option.bind_eq_some_iff.mp H
 obtain ⟨⟨t136, t139⟩, A90, H⟩ := H
 (try dsimp only at H)
 have A9 := Aside0.mk A90
 clear A90
 replace H := Option.bind_eq_some_iff.mp H
 obtain ⟨⟨t140, t143⟩, A100, H⟩ := H
 (try dsimp only at H)
 have A10 := Aside0.mk A100
 clear A100
 replace H := Option.bind_eq_some_iff.mp H
 obtain ⟨⟨t147, t150⟩, A110, H⟩ := H
 (try dsimp only at H)
 have A11 := Aside0.mk A110
 clear A110
 have HC12 := Aside0.mk H
 clear H
 go_enter Try.func9, Try.ntmps9
 go_upto_region 8 with (first | ((with_reducible refine gate_dst (N := 2) rfl ?_); refine bx 2 #[.slice A0_0 l0_0.length c0_0, .slice A0_1 l0_1.length c0_1] 32 ?_; intro gb128 hg w13 hbox hb; have BK128 := Aside0.mk (hbox); have GW128 := ge HB hg; have GE128 := ge HB hg; replace HB := bs HB hb; clear hb hbox hg; have hcz14_0 := bc0 BK128; have hcz14_1 := bc1 BK128; have hfz14_0 := blk_frozen BK128.out 0; have hfz14_1 := blk_frozen BK128.out 1) | ((with_reducible refine gate_callee (f := 18) rfl ?_); refine gl 18 Try.func18 #[.agg #[.slice A0_0 l0_0.length c0_0, .slice A0_1 l0_1.length c0_1], .int .i64 1048576] ?_; (with_reducible refine (laws_szVessels.calls _ _ l0_0 _ _ l0_1 1048576 t129 _ ?side1 ?side2 ?side3 ?side4 A3.out).mono ?_); (case side1 => exact ck HR0_0 HB); (case side2 => exact HC0_0.out); (case side3 => exact ck HR0_1 HB); (case side4 => exact HC0_1.out); rintro e w15 ⟨rfl, hb⟩; refine ⟨_, rfl, ?_⟩; replace BK128 := bb BK128 hb; replace HB := bs HB hb; (try clear hb); have hcz16_0 := bc0 BK128; have hcz16_1 := bc1 BK128; have hfz16_0 := blk_frozen BK128.out 0; have hfz16_1 := blk_frozen BK128.out 1) | ((with_reducible refine gate_callee (f := 20) rfl ?_); refine gl 23 Try.func20 #[.agg #[.slice A0_0 l0_0.length c0_0, .slice A0_1 l0_1.length c0_1]] ?_; (with_reducible refine (laws_toVessels.calls k _ _ l0_0 _ _ l0_1 t130 t133 _ ?side1 ?side2 ?side3 ?side4 A8.out).mono ?_); (case side1 => exact ck HR0_0 HB); (case side2 => exact HC0_0.out); (case side3 => exact ck HR0_1 HB); (case side4 => exact HC0_1.out); rintro e w17 ⟨v131, v134, rfl, ho0, ho1, hb⟩; refine ⟨_, rfl, ?_⟩; have HO132 := lo ho0 HB; have HO135 := lo ho1 HB; replace BK128 := bb BK128 hb; replace HB := bs HB hb; (try clear hb); (try clear ho0); (try clear ho1); obtain ⟨Ao18, co18, eo18⟩ := Kd.R_slice HO132.out; subst eo18; obtain ⟨Ao19, co19, eo19⟩ := Kd.R_slice HO135.out; subst eo19) | ((with_reducible refine gate_callee (f := 30) rfl ?_); refine gl 25 Try.func30 #[.agg #[.slice Ao18 t130.length co18, .slice Ao19 t133.length co19], .bool a1] ?_; (with_reducible refine (spec_AmountsOf.calls k _ _ t130 _ _ t133 a1 t136 t139 _ ?side1 ?side2 ?side3 ?side4 A9.out).mono ?_); (case side1 => exact cr HO132); (case side2 => exact (Kd.R_reads' HO132.out).2.1); (case side3 => exact cr HO135); (case side4 => exact (Kd.R_reads' HO135.out).2.1); rintro e w20 ⟨v137, rfl, ho0, hb⟩; refine ⟨_, rfl, ?_⟩; have HO138 := Aside0.mk (Kd.R_lower (Kd.R_new' (Kd.R_new' ho0 (Kd.R_lt (rk HO132))) (Kd.R_lt (rk HO135))) (below_size (bw HB))); replace HO132 := Aside0.mk (Kd.R_elder' (rk HO132) (Kd.R_base ho0) hb); replace HO135 := Aside0.mk (Kd.R_elder' (rk HO135) (Kd.R_base ho0) hb); replace BK128 := bb BK128 hb; replace HB := bs HB hb; (try clear hb); (try clear ho0); have hcz21_0 := bc0 BK128; have hcz21_1 := bc1 BK128; have hfz21_0 := blk_frozen BK128.out 0; have hfz21_1 := blk_frozen BK128.out 1) | ((with_reducible refine gate_callee (f := 20) rfl ?_); refine gl 29 Try.func20 #[.agg #[.slice A0_0 l0_0.length c0_0, .slice A0_1 l0_1.length c0_1]] ?_; (with_reducible refine (laws_toVessels.calls k _ _ l0_0 _ _ l0_1 t140 t143 _ ?side1 ?side2 ?side3 ?side4 A10.out).mono ?_); (case side1 => exact ck HR0_0 HB); (case side2 => exact HC0_0.out); (case side3 => exact ck HR0_1 HB); (case side4 => exact HC0_1.out); rintro e w22 ⟨v141, v144, rfl, ho0, ho1, hb⟩; refine ⟨_, rfl, ?_⟩; have HO142 := Aside0.mk (Kd.R_lower (Kd.R_new' (Kd.R_new' (Kd.R_new' ho0 (Kd.R_lt (rk HO132))) (Kd.R_lt (rk HO135))) (Kd.R_lt (rk HO138))) (below_size (bw HB))); have HO145 := Aside0.mk (Kd.R_lower (Kd.R_new' (Kd.R_new' (Kd.R_new' ho1 (Kd.R_lt (rk HO132))) (Kd.R_lt (rk HO135))) (Kd.R_lt (rk HO138))) (below_size (bw HB))); replace HO132 := Aside0.mk (Kd.R_mono (Kd.R_told (Kd.R_told (Kd.R_old (rk HO132) hb) (Kd.R_base ho0)) (Kd.R_base ho1)) (fun _ h_ => h_.1)); replace HO135 := Aside0.mk (Kd.R_mono (Kd.R_told (Kd.R_told (Kd.R_old (rk HO135) hb) (Kd.R_base ho0)) (Kd.R_base ho1)) (fun _ h_ => h_.1)); replace HO138 := Aside0.mk (Kd.R_mono (Kd.R_told (Kd.R_told (Kd.R_old (rk HO138) hb) (Kd.R_base ho0)) (Kd.R_base ho1)) (fun _ h_ => h_.1)); replace BK128 := bb BK128 hb; replace HB := bs HB hb; (try clear hb); (try clear ho0); (try clear ho1)) | ((with_reducible refine gate_dst (N := 8) rfl ?_); refine bx 8 #[.slice none 0 0, .slice none 0 0] 35 ?_; intro gb146 hg w23 hbox hb; replace HO132 := rb HO132 hb; replace HO135 := rb HO135 hb; replace HO138 := rb HO138 hb; replace HO142 := rb HO142 hb; replace HO145 := rb HO145 hb; have BK146 := Aside0.mk (hbox); have GW146 := ge HB hg; have GE146 := ge HB hg; replace HB := bs HB hb; have NB128_146 := nl BK128 hg; have NB146_128 := nr BK128 hg; replace BK128 := bb BK128 hb; clear hb hbox hg; obtain ⟨Ao24, co24, eo24⟩ := Kd.R_slice HO142.out; subst eo24; have hnb25 := NB146_128.out; have hnc25 := NB128_146.out; have hcz26_0 := bc0 BK146; have hcz26_1 := bc1 BK146; have hfz26_0 := blk_frozen BK146.out 0; have hfz26_1 := blk_frozen BK146.out 1; obtain ⟨Ao27, co27, eo27⟩ := Kd.R_slice HO145.out; subst eo27) | ((with_reducible refine gate_callee (f := 31) rfl ?_); refine gl 33 Try.func31 #[.agg #[.slice Ao24 t140.length co24, .slice Ao27 t143.length co27], .bool a1] ?_; (with_reducible refine (impl_AmountsOf.calls k _ _ t140 _ _ t143 a1 t147 t150 _ ?side1 ?side2 ?side3 ?side4 A11.out).mono ?_); (case side1 => refine (Kd.R_reads' (e := 3) (base := w.heap.size) (ok := fun k_ => (((some k_ ≠ (.slice Ao27 t143.length co27 : Value).ownBlock ∧ some k_ ≠ (.slice Ao18 t130.length co18 : Value).ownBlock) ∧ some k_ ≠ (.slice Ao19 t133.length co19 : Value).ownBlock) ∧ some k_ ≠ (v137 : Value).ownBlock)) (n := t140.length) (c := co24) ?_).2.2; exact (by exact (Kd.R_mono (Kd.R_far (p := ⟨gb146, 1, none⟩) (Kd.R_far (p := ⟨gb146, 0, none⟩) (Kd.R_types HO142.out BK146.out (by decide)) (fun _ hk => hk.2) (.slice Ao24 t140.length co24)) (fun _ hk => hk.2) (.slice Ao27 t143.length co27)) (fun _ h_ => h_.1)))); (case side2 => exact (Kd.R_reads' HO142.out).2.1); (case side3 => refine (Kd.R_reads' (e := 3) (base := w.heap.size) (ok := fun k_ => (((some k_ ≠ (.slice Ao24 t140.length co24 : Value).ownBlock ∧ some k_ ≠ (.slice Ao18 t130.length co18 : Value).ownBlock) ∧ some k_ ≠ (.slice Ao19 t133.length co19 : Value).ownBlock) ∧ some k_ ≠ (v137 : Value).ownBlock)) (n := t143.length) (c := co27) ?_).2.2; exact (by exact (Kd.R_mono (Kd.R_far (p := ⟨gb146, 1, none⟩) (Kd.R_far (p := ⟨gb146, 0, none⟩) (Kd.R_types HO145.out BK146.out (by decide)) (fun _ hk => hk.2) (.slice Ao24 t140.length co24)) (fun _ hk => hk.2) (.slice Ao27 t143.length co27)) (fun _ h_ => h_.1)))); (case side4 => exact (Kd.R_reads' HO145.out).2.1); rintro e w28 ⟨v148, rfl, ho0, hb⟩; refine ⟨_, rfl, ?_⟩; have HO149 := Aside0.mk (Kd.R_lower (Kd.R_new' (Kd.R_new' (Kd.R_new' (Kd.R_new' (Kd.R_new' ho0 (Kd.R_lt (by exact (Kd.R_mono (Kd.R_far (p := ⟨gb146, 1, none⟩) (Kd.R_far (p := ⟨gb146, 0, none⟩) (Kd.R_types HO132.out BK146.out (by decide)) (fun _ hk => hk.2) (.slice Ao24 t140.length co24)) (fun _ hk => hk.2) (.slice Ao27 t143.length co27)) (fun _ h_ => h_.1))))) (Kd.R_lt (by exact (Kd.R_mono (Kd.R_far (p := ⟨gb146, 1, none⟩) (Kd.R_far (p := ⟨gb146, 0, none⟩) (Kd.R_types HO135.out BK146.out (by decide)) (fun _ hk => hk.2) (.slice Ao24 t140.length co24)) (fun _ hk => hk.2) (.slice Ao27 t143.length co27)) (fun _ h_ => h_.1))))) (Kd.R_lt (by exact (Kd.R_mono (Kd.R_far (p := ⟨gb146, 1, none⟩) (Kd.R_far (p := ⟨gb146, 0, none⟩) (Kd.R_types HO138.out BK146.out (by decide)) (fun _ hk => hk.2) (.slice Ao24 t140.length co24)) (fun _ hk => hk.2) (.slice Ao27 t143.length co27)) (fun _ h_ => h_.1))))) (Kd.R_lt (by exact (Kd.R_mono (Kd.R_far (p := ⟨gb146, 1, none⟩) (Kd.R_far (p := ⟨gb146, 0, none⟩) (Kd.R_types HO142.out BK146.out (by decide)) (fun _ hk => hk.2) (.slice Ao24 t140.length co24)) (fun _ hk => hk.2) (.slice Ao27 t143.length co27)) (fun _ h_ => h_.1))))) (Kd.R_lt (by exact (Kd.R_mono (Kd.R_far (p := ⟨gb146, 1, none⟩) (Kd.R_far (p := ⟨gb146, 0, none⟩) (Kd.R_types HO145.out BK146.out (by decide)) (fun _ hk => hk.2) (.slice Ao24 t140.length co24)) (fun _ hk => hk.2) (.slice Ao27 t143.length co27)) (fun _ h_ => h_.1))))) (below_size (bw HB))); replace HO132 := Aside0.mk (Kd.R_elder' (by exact (Kd.R_mono (Kd.R_far (p := ⟨gb146, 1, none⟩) (Kd.R_far (p := ⟨gb146, 0, none⟩) (Kd.R_types HO132.out BK146.out (by decide)) (fun _ hk => hk.2) (.slice Ao24 t140.length co24)) (fun _ hk => hk.2) (.slice Ao27 t143.length co27)) (fun _ h_ => h_.1))) (Kd.R_base ho0) hb); replace HO135 := Aside0.mk (Kd.R_elder' (by exact (Kd.R_mono (Kd.R_far (p := ⟨gb146, 1, none⟩) (Kd.R_far (p := ⟨gb146, 0, none⟩) (Kd.R_types HO135.out BK146.out (by decide)) (fun _ hk => hk.2) (.slice Ao24 t140.length co24)) (fun _ hk => hk.2) (.slice Ao27 t143.length co27)) (fun _ h_ => h_.1))) (Kd.R_base ho0) hb); replace HO138 := Aside0.mk (Kd.R_elder' (by exact (Kd.R_mono (Kd.R_far (p := ⟨gb146, 1, none⟩) (Kd.R_far (p := ⟨gb146, 0, none⟩) (Kd.R_types HO138.out BK146.out (by decide)) (fun _ hk => hk.2) (.slice Ao24 t140.length co24)) (fun _ hk => hk.2) (.slice Ao27 t143.length co27)) (fun _ h_ => h_.1))) (Kd.R_base ho0) hb); replace HO142 := Aside0.mk (Kd.R_elder' (by exact (Kd.R_mono (Kd.R_far (p := ⟨gb146, 1, none⟩) (Kd.R_far (p := ⟨gb146, 0, none⟩) (Kd.R_types HO142.out BK146.out (by decide)) (fun _ hk => hk.2) (.slice Ao24 t140.length co24)) (fun _ hk => hk.2) (.slice Ao27 t143.length co27)) (fun _ h_ => h_.1))) (Kd.R_base ho0) hb); replace HO145 := Aside0.mk (Kd.R_elder' (by exact (Kd.R_mono (Kd.R_far (p := ⟨gb146, 1, none⟩) (Kd.R_far (p := ⟨gb146, 0, none⟩) (Kd.R_types HO145.out BK146.out (by decide)) (fun _ hk => hk.2) (.slice Ao24 t140.length co24)) (fun _ hk => hk.2) (.slice Ao27 t143.length co27)) (fun _ h_ => h_.1))) (Kd.R_base ho0) hb); replace BK128 := bb BK128 hb; replace BK146 := Aside0.mk (blk_below (g := gb146) (o := .cells #[.slice Ao24 t140.length co24, .slice Ao27 t143.length co27] 35 (0, 0)) (by refine blk_put (cs := #[.slice Ao24 t140.length co24, .slice none 0 0]) ?_ 1 _ rfl; refine blk_put (cs := #[.slice none 0 0, .slice none 0 0]) ?_ 0 _ rfl; exact bk BK146) hb); replace HB := bs HB hb; (try clear hb); (try clear ho0)))
 (try simp only [Act.put, List.setIfInBounds_toArray, List.set_cons_zero, List.set_cons_succ])
 go_cut [44] (fun v44 wc => ∃ (kq : Nat) (x44_11 : Bool), v44 = .bool x44_11 ∧ Aside0 (laws_FnExactAmountsOf.j0 kq a1 t136 t139 t147 t150 x44_11 l0_0 l0_1 t140 t143 = some r) ∧ Aside0 (kq ≤ k) ∧ Aside0 (Kd.R (Kd.int .i64) 3 wc w.heap.size (fun k_ => some k_ ≠ (v148 : Value).ownBlock ∧ some k_ ≠ ((.slice Ao24 t140.length co24) : Value).ownBlock ∧ some k_ ≠ ((.slice Ao27 t143.length co27) : Value).ownBlock) v137 t136) ∧ Aside0 (Kd.R (Kd.int .i64) 3 wc w.heap.size (fun k_ => some k_ ≠ (v137 : Value).ownBlock ∧ some k_ ≠ ((.slice Ao24 t140.length co24) : Value).ownBlock ∧ some k_ ≠ ((.slice Ao27 t143.length co27) : Value).ownBlock) v148 t147) ∧ Aside0 (Kd.R (Kd.int .i64) 3 wc w.heap.size (fun k_ => some k_ ≠ (v137 : Value).ownBlock ∧ some k_ ≠ (v148 : Value).ownBlock ∧ some k_ ≠ ((.slice Ao27 t143.length co27) : Value).ownBlock) (.slice Ao24 t140.length co24) t140) ∧ Aside0 (Kd.R (Kd.int .i64) 3 wc w.heap.size (fun k_ => some k_ ≠ (v137 : Value).ownBlock ∧ some k_ ≠ (v148 : Value).ownBlock ∧ some k_ ≠ ((.slice Ao24 t140.length co24) : Value).ownBlock) (.slice Ao27 t143.length co27) t143) ∧ Aside0 (wc.heap[gb128]? = some (.cells #[(.slice A0_0 l0_0.length c0_0), (.slice A0_1 l0_1.length c0_1)] 32 (0, 0))) ∧ Aside0 (wc.heap[gb146]? = some (.cells #[(.slice Ao24 t140.length co24), (.slice Ao27 t143.length co27)] 35 (0, 0))) ∧ Aside0 (Below w.heap.size w wc))
 case first =>
  have H := HC12.out
  clear HC12
  replace H := Option.bind_eq_some_iff.mp H
  obtain ⟨t151, A290, H⟩ := H
  (try dsimp only at H)
  have A29 := Aside0.mk A290
  clear A290
  by_cases c30 : t151 = true
  rotate_left
  ·replace c30 := Bool.eq_false_iff.mpr c30
   subst c30
   have H1 : (laws_FnExactAmountsOf.j0 k a1 t136 t139 t147 t150 true l0_0 l0_1 t140 t143) = some r := by rw [if_neg (show ¬ (false = true) by decide)] at H; exact H
   clear H
   have H := H1
   clear H1
   exact absurd H (by rw [hrt.out]; cases k <;> simp [laws_FnExactAmountsOf.j0])
  subst c30
  have H1 : (laws_FnExactAmountsOf.j0 k a1 t136 t139 t147 t150 (t150 != t139) l0_0 l0_1 t140 t143) = some r := by rw [if_pos rfl] at H; exact H
  clear H
  have H := H1
  clear H1
  have H' := Aside0.mk H
  clear H
  obtain ⟨Ao31, co31, eo31⟩ := Kd.R_slice HO149.out
  subst eo31
  obtain ⟨Ao32, co32, eo32⟩ := Kd.R_slice HO138.out
  subst eo32
  go_wp2_with (first | ((with_reducible refine gate_callee (f := 32) rfl ?_); refine gl 38 Try.func32 #[.slice Ao31 t147.length co31, .slice Ao32 t136.length co32] ?_; (with_reducible refine (laws_eqIntS.calls k _ _ t147 _ _ t136 true _ ?side1 ?side2 ?side3 ?side4 A29.out).mono ?_); (case side1 => exact cr HO149); (case side2 => exact (Kd.R_reads' HO149.out).2.1); (case side3 => exact cr HO138); (case side4 => exact (Kd.R_reads' HO138.out).2.1); rintro e w' ⟨rfl, ⟨nd, rfl⟩⟩; refine ⟨_, rfl, ?_⟩))
  go_meet
  case rel => exact ⟨_, ((t150 != t139)), (by first | rfl | (simp; done) | (simp [*]; done)), H', ⟨by first | omega | exact Nat.le_refl _⟩, ⟨by exact Kd.R_mono HO138.out (fun _ hk => ⟨hk.2, ⟨hk.1.1.2, hk.1.2⟩⟩)⟩, ⟨by exact Kd.R_mono HO149.out (fun _ hk => ⟨hk.1.1.2, ⟨hk.1.2, hk.2⟩⟩)⟩, ⟨by exact Kd.R_mono HO142.out (fun _ hk => ⟨hk.1.2, ⟨hk.2, hk.1.1.1.1⟩⟩)⟩, ⟨by exact Kd.R_mono HO145.out (fun _ hk => ⟨hk.1.2, ⟨hk.2, hk.1.1.1.1⟩⟩)⟩, ⟨bk BK128⟩, ⟨bk BK146⟩, ⟨bw HB⟩⟩
 case rest =>
  clear HC12
  try clear c1
  try clear c2
  try clear p2
  try clear c3
  try clear c4
  try clear c4b0
  try clear c9
  try clear c18
  try clear c20
  try clear c25
  try clear c30
  try clear c31
  try clear c32
  try clear hcz14_0
  try clear hcz14_1
  try clear hcz16_0
  try clear hcz16_1
  try clear hcz21_0
  try clear hcz21_1
  try clear hcz26_0
  try clear hcz26_1
  try clear hcz6_0
  try clear hcz6_1
  try clear hfz14_0
  try clear hfz14_1
  try clear hfz16_0
  try clear hfz16_1
  try clear hfz21_0
  try clear hfz21_1
  try clear hfz26_0
  try clear hfz26_1
  try clear hfz6_0
  try clear hfz6_1
  obtain ⟨kq, x44_11, rfl, HA, HJ11, HO_6, HO_9, HO_147000, HO_147001, BK128, BK146, HB⟩ := hcut
  cases kq with
  | zero => exact absurd HA.out (by simp [laws_FnExactAmountsOf.j0])
  | succ kj11 =>
   have H := HA.out
   clear HA
   simp only [laws_FnExactAmountsOf.j0] at H
   by_cases c33 : x44_11 = true
   ·subst c33
    have H1 : (some false) = some r := by rw [if_pos rfl] at H; exact H
    clear H
    have H := H1
    clear H1
    exact absurd ((Option.some.inj H).trans hrt.out) (by decide)
   replace c33 := Bool.eq_false_iff.mpr c33
   subst c33
   have H1 : ((laws_toVessels.f kj11 l0_0 l0_1).bind fun bt152 => ((laws_eqVessels.f kj11 t140 t143 bt152.1 bt152.2).bind fun t158 => (if t158 = true then ((laws_markVessels.f kj11 t140 t143 1).bind fun bt159 => (if bt159.1 < 0 then (laws_FnExactAmountsOf.j1 kj11 a1 t136 t139 t147 true l0_0 l0_1) else ((laws_eqIntS.f kj11 t147 t136).bind fun t162 => (if t162 = true then (laws_FnExactAmountsOf.j1 kj11 a1 t136 t139 t147 (t150 != t139) l0_0 l0_1) else (laws_FnExactAmountsOf.j1 kj11 a1 t136 t139 t147 true l0_0 l0_1))))) else (some false)))) = some r := by rw [if_neg (show ¬ (false = true) by decide)] at H; exact H
   clear H
   have H := H1
   clear H1
   replace H := Option.bind_eq_some_iff.mp H
   obtain ⟨⟨t152, t155⟩, A340, H⟩ := H
   (try dsimp only at H)
   have A34 := Aside0.mk A340
   clear A340
   replace H := Option.bind_eq_some_iff.mp H
   obtain ⟨t158, A350, H⟩ := H
   (try dsimp only at H)
   have A35 := Aside0.mk A350
   clear A350
   by_cases c36 : t158 = true
   rotate_left
   ·replace c36 := Bool.eq_false_iff.mpr c36
    subst c36
    have H1 : (some false) = some r := by rw [if_neg (show ¬ (false = true) by decide)] at H; exact H
    clear H
    have H := H1
    clear H1
    exact absurd ((Option.some.inj H).trans hrt.out) (by decide)
   subst c36
   have H1 : ((laws_markVessels.f kj11 t140 t143 1).bind fun bt159 => (if bt159.1 < 0 then (laws_FnExactAmountsOf.j1 kj11 a1 t136 t139 t147 true l0_0 l0_1) else ((laws_eqIntS.f kj11 t147 t136).bind fun t162 => (if t162 = true then (laws_FnExactAmountsOf.j1 kj11 a1 t136 t139 t147 (t150 != t139) l0_0 l0_1) else (laws_FnExactAmountsOf.j1 kj11 a1 t136 t139 t147 true l0_0 l0_1))))) = some r := by rw [if_pos rfl] at H; exact H
   clear H
   have H := H1
   clear H1
   replace H := Option.bind_eq_some_iff.mp H
   obtain ⟨⟨t159, t160, t161⟩, A370, H⟩ := H
   (try dsimp only at H)
   have A37 := Aside0.mk A370
   clear A370
   have HC38 := Aside0.mk H
   clear H
   try go_wp2
   replace HO_6 := Aside0.mk (Kd.R_drew HO_6.out)
   replace HO_9 := Aside0.mk (Kd.R_drew HO_9.out)
   replace HO_147000 := Aside0.mk (Kd.R_drew HO_147000.out)
   replace HO_147001 := Aside0.mk (Kd.R_drew HO_147001.out)
   replace BK128 := Aside0.mk (blk_drew BK128.out)
   replace BK146 := Aside0.mk (blk_drew BK146.out)
   replace HB := Aside0.mk (below_drew1 HB.out)
   refine start_ (n := 5) (S := fun w' => w'.cell? ⟨gb146, 0, none⟩ = some (.slice Ao24 t140.length co24) ∧ w'.cell? ⟨gb146, 1, none⟩ = some (.slice Ao27 t143.length co27) ∧ w'.cell? ⟨gb128, 0, none⟩ = some (.slice A0_0 l0_0.length c0_0) ∧ w'.cell? ⟨gb128, 1, none⟩ = some (.slice A0_1 l0_1.length c0_1)) (ds := []) #[false, false, false, false, false] (by kernel_rfl) rfl rfl ⟨bc0 BK146, bc1 BK146, bc0 BK128, bc1 BK128⟩ (fun hHeld => ?_)
   generalize wc.drew = w39 at HO_6 HO_9 HO_147000 HO_147001 BK128 BK146 HB hHeld ⊢
   refine take_ (i := 0) (N := some 45) (v := ?_) (a' := ?_) #[true, false, false, false, false] rfl rfl (by kernel_rfl) (fun _ _ _ h => h) (Or.inl ⟨by rfl, ?_⟩) hHeld ?_ ?_
   rotate_left; (rintro w' ⟨s0, s1, s2, s3⟩; go_simp; with_reducible rfl); rotate_left; (simp only [sqa, sqb, sqc, sqd, i64_w, i32_w]; rfl)
   refine take_ (i := 1) (N := some 46) (v := ?_) (a' := ?_) #[true, true, false, false, false] rfl rfl (by kernel_rfl) (fun _ _ _ h => h) (Or.inl ⟨by rfl, ?_⟩) hHeld ?_ ?_
   rotate_left; (rintro w' ⟨s0, s1, s2, s3⟩; go_simp; with_reducible rfl); rotate_left; (simp only [sqa, sqb, sqc, sqd, i64_w, i32_w]; rfl)
   refine one_ (i := 2) (N := some 47) #[true, true, true, false, false] rfl rfl (by kernel_rfl) (by decide) (fun K hK => ?_)
   refine gs Try.func20 #[.agg #[.slice A0_0 l0_0.length c0_0, .slice A0_1 l0_1.length c0_1]] ?_
   with_reducible refine (laws_toVessels.calls kj11 _ _ l0_0 _ _ l0_1 t152 t155 _ ?side1 ?side2 ?side3 ?side4 A34.out).mono ?_
   (case side1 => exact ck HR0_0 HB)
   (case side2 => exact HC0_0.out)
   (case side3 => exact ck HR0_1 HB)
   (case side4 => exact HC0_1.out)
   rintro e w40 ⟨v153, v156, rfl, ho0, ho1, hb⟩
   refine ⟨_, rfl, ?_⟩
   have HO154 := Aside0.mk (Kd.R_lower (Kd.R_new' (Kd.R_new' (Kd.R_new' (Kd.R_new' ho0 (Kd.R_lt (rk HO_6))) (Kd.R_lt (rk HO_9))) (Kd.R_lt (rk HO_147000))) (Kd.R_lt (rk HO_147001))) (below_size (bw HB)))
   have HO157 := Aside0.mk (Kd.R_lower (Kd.R_new' (Kd.R_new' (Kd.R_new' (Kd.R_new' ho1 (Kd.R_lt (rk HO_6))) (Kd.R_lt (rk HO_9))) (Kd.R_lt (rk HO_147000))) (Kd.R_lt (rk HO_147001))) (below_size (bw HB)))
   replace HO_6 := Aside0.mk (Kd.R_mono (Kd.R_told (Kd.R_told (Kd.R_old (rk HO_6) hb) (Kd.R_base ho0)) (Kd.R_base ho1)) (fun _ h_ => h_.1))
   replace HO_9 := Aside0.mk (Kd.R_mono (Kd.R_told (Kd.R_told (Kd.R_old (rk HO_9) hb) (Kd.R_base ho0)) (Kd.R_base ho1)) (fun _ h_ => h_.1))
   replace HO_147000 := Aside0.mk (Kd.R_mono (Kd.R_told (Kd.R_told (Kd.R_old (rk HO_147000) hb) (Kd.R_base ho0)) (Kd.R_base ho1)) (fun _ h_ => h_.1))
   replace HO_147001 := Aside0.mk (Kd.R_mono (Kd.R_told (Kd.R_told (Kd.R_old (rk HO_147001) hb) (Kd.R_base ho0)) (Kd.R_base ho1)) (fun _ h_ => h_.1))
   replace BK128 := bb BK128 hb
   replace BK146 := bb BK146 hb
   replace HB := bs HB hb
   (try clear hb); (try clear hb2); (try clear hk); (try clear hi); (try clear ho0); (try clear ho1)
   obtain ⟨Ao41, co41, eo41⟩ := Kd.R_slice HO154.out
   (first | subst eo41 | (injection eo41 with f1_ f2_ f3_; have f4_ := f1_.symm; have f5_ := f3_.symm; clear f1_ f2_ f3_; subst f4_; subst f5_))
   obtain ⟨Ao42, co42, eo42⟩ := Kd.R_slice HO157.out
   (first | subst eo42 | (injection eo42 with f1_ f2_ f3_; have f4_ := f1_.symm; have f5_ := f3_.symm; clear f1_ f2_ f3_; subst f4_; subst f5_))
   refine hK.out _ _ ⟨bc0 BK146, bc1 BK146, bc0 BK128, bc1 BK128⟩ (fun hHeld => ?_)
   clear hK K
   refine norm_ (a' := ?_) ?_ ?_; rotate_left; (show Act.put _ (some 47) _ = _; simp only [sqa, sqb, sqc, sqd, i64_w, i32_w]; rfl)
   refine one_ (i := 3) (N := some 48) #[true, true, true, true, false] rfl rfl (by kernel_rfl) (by decide) (fun K hK => ?_)
   refine gs Try.func22 #[.agg #[.slice Ao24 t140.length co24, .slice Ao27 t143.length co27], .agg #[.slice Ao41 t152.length co41, .slice Ao42 t155.length co42]] ?_
   with_reducible refine (laws_eqVessels.calls kj11 _ _ t140 _ _ t143 _ _ t152 _ _ t155 true _ ?side1 ?side2 ?side3 ?side4 ?side5 ?side6 ?side7 ?side8 A35.out).mono ?_
   (case side1 => exact cr HO_147000)
   (case side2 => exact (Kd.R_reads' HO_147000.out).2.1)
   (case side3 => exact cr HO_147001)
   (case side4 => exact (Kd.R_reads' HO_147001.out).2.1)
   (case side5 => exact cr HO154)
   (case side6 => exact (Kd.R_reads' HO154.out).2.1)
   (case side7 => exact cr HO157)
   (case side8 => exact (Kd.R_reads' HO157.out).2.1)
   rintro e w43 ⟨rfl, hb⟩
   refine ⟨_, rfl, ?_⟩
   replace HO_6 := rb HO_6 hb
   replace HO_9 := rb HO_9 hb
   replace HO_147000 := rb HO_147000 hb
   replace HO_147001 := rb HO_147001 hb
   replace HO154 := rb HO154 hb
   replace HO157 := rb HO157 hb
   replace BK128 := bb BK128 hb
   replace BK146 := bb BK146 hb
   replace HB := bs HB hb
   (try clear hb); (try clear hb2); (try clear hk); (try clear hi)
   refine hK.out _ _ ⟨bc0 BK146, bc1 BK146, bc0 BK128, bc1 BK128⟩ (fun hHeld => ?_)
   clear hK K
   refine norm_ (a' := ?_) ?_ ?_; rotate_left; (show Act.put _ (some 48) _ = _; simp only [sqa, sqb, sqc, sqd, i64_w, i32_w]; rfl)
   refine pure_ (i := 4) (N := some 49) (v := ?_) (a' := ?_) #[true, true, true, true, true] rfl rfl (by kernel_rfl) (fun _ _ _ h => h) (Or.inl ⟨by rfl, ?_⟩) ?_ ?_
   rotate_left; (intro w'; go_simp; with_reducible rfl); rotate_left; (simp only [sqa, sqb, sqc, sqd, i64_w, i32_w]; rfl)
   refine done_ (by kernel_rfl) ?_
   have hnb44 := NB146_128.out
   have hnc44 := NB128_146.out
   have hcz45_0 := bc0 BK146
   have hcz45_1 := bc1 BK146
   have hfz45_0 := blk_frozen BK146.out 0
   have hfz45_1 := blk_frozen BK146.out 1
   go_upto_region 14 with (first | ((with_reducible refine gate_callee (f := 23) rfl ?_); refine gl 52 Try.func23 #[.agg #[.slice Ao24 t140.length co24, .slice Ao27 t143.length co27], .int .i64 1] ?_; (with_reducible refine (laws_markVessels.calls kj11 (fun k_ => some k_ = (.slice Ao24 t140.length co24 : Value).ownBlock) (.slice Ao24 t140.length co24) t140 (fun k_ => some k_ = (.slice Ao27 t143.length co27 : Value).ownBlock) (.slice Ao27 t143.length co27) t143 1 t159 t160 t161 w _ ?side1 ?side2 ?side3 ?side4 ?side5 A37.out).mono ?_); (case side1 => repeat (first | (with_reducible first | exact HB.out | apply below_alloc | apply pw_below_drewN | apply below_drew1 | refine below_set ?_ GE128.out | refine below_set ?_ GE146.out) | exact HB.out)); (case side2 => exact Kd.R_tight rfl HO_147000.out); (case side3 => exact fun k_ e_ => (HO_147000.out.1 k_ e_.symm).1.1.2.2); (case side4 => exact Kd.R_tight rfl HO_147001.out); (case side5 => exact fun k_ e_ => (HO_147001.out.1 k_ e_.symm).1.1.2.2); rintro e w46 ⟨rfl, hy0, hy1, hb, hkp⟩; refine ⟨_, rfl, ?_⟩; replace HO_6 := Aside0.mk (Kd.R_mono (ok' := fun k_ => some k_ ≠ (v148 : Value).ownBlock ∧ some k_ ≠ (.slice Ao24 t140.length co24 : Value).ownBlock ∧ some k_ ≠ (.slice Ao27 t143.length co27 : Value).ownBlock ∧ some k_ ≠ (.slice Ao41 t152.length co41 : Value).ownBlock ∧ some k_ ≠ (.slice Ao42 t155.length co42 : Value).ownBlock) (Kd.R_keptB (HO_6.out) hkp (fun k_ hk_ hs_ => Or.elim hs_ (fun e_ => (hk_.1.1.2.1) e_) (fun e_ => (hk_.1.1.2.2) e_))) (fun k_ hk_ => ⟨hk_.1.1.1.1, hk_.1.1.1.2.1, hk_.1.1.1.2.2, hk_.1.1.2, hk_.1.2⟩)); replace HO_9 := Aside0.mk (Kd.R_mono (ok' := fun k_ => some k_ ≠ (v137 : Value).ownBlock ∧ some k_ ≠ (.slice Ao24 t140.length co24 : Value).ownBlock ∧ some k_ ≠ (.slice Ao27 t143.length co27 : Value).ownBlock ∧ some k_ ≠ (.slice Ao41 t152.length co41 : Value).ownBlock ∧ some k_ ≠ (.slice Ao42 t155.length co42 : Value).ownBlock) (Kd.R_keptB (HO_9.out) hkp (fun k_ hk_ hs_ => Or.elim hs_ (fun e_ => (hk_.1.1.2.1) e_) (fun e_ => (hk_.1.1.2.2) e_))) (fun k_ hk_ => ⟨hk_.1.1.1.1, hk_.1.1.1.2.1, hk_.1.1.1.2.2, hk_.1.1.2, hk_.1.2⟩)); replace BK128 := Aside0.mk (blk_kept (bk BK128) hkp (fun hs_ => Or.elim hs_ (fun e_ => (fun e_ => (Kd.R_ne HO_147000.out BK128.out (by decide)) e_) e_) (fun e_ => (fun e_ => (Kd.R_ne HO_147001.out BK128.out (by decide)) e_) e_))); replace BK146 := Aside0.mk (blk_kept (bk BK146) hkp (fun hs_ => Or.elim hs_ (fun e_ => (fun e_ => (Kd.R_ne HO_147000.out BK146.out (by decide)) e_) e_) (fun e_ => (fun e_ => (Kd.R_ne HO_147001.out BK146.out (by decide)) e_) e_))); replace HO_147000 := Aside0.mk (Kd.R_reok rfl hy0 (fun k_ e_ => HO_147000.out.1 k_ e_)); replace HO_147001 := Aside0.mk (Kd.R_reok rfl hy1 (fun k_ e_ => HO_147001.out.1 k_ e_)); replace HO154 := Aside0.mk (Kd.R_mono (ok' := fun k_ => some k_ ≠ (v137 : Value).ownBlock ∧ some k_ ≠ (v148 : Value).ownBlock ∧ some k_ ≠ (.slice Ao24 t140.length co24 : Value).ownBlock ∧ some k_ ≠ (.slice Ao27 t143.length co27 : Value).ownBlock ∧ some k_ ≠ (.slice Ao42 t155.length co42 : Value).ownBlock) (Kd.R_keptB (HO154.out) hkp (fun k_ hk_ hs_ => Or.elim hs_ (fun e_ => (hk_.1.2) e_) (fun e_ => (hk_.2) e_))) (fun k_ hk_ => ⟨hk_.1.1.1.1.2, hk_.1.1.1.2, hk_.1.1.2, hk_.1.2, hk_.1.1.1.1.1⟩)); replace HO157 := Aside0.mk (Kd.R_mono (ok' := fun k_ => some k_ ≠ (v137 : Value).ownBlock ∧ some k_ ≠ (v148 : Value).ownBlock ∧ some k_ ≠ (.slice Ao24 t140.length co24 : Value).ownBlock ∧ some k_ ≠ (.slice Ao27 t143.length co27 : Value).ownBlock ∧ some k_ ≠ (.slice Ao41 t152.length co41 : Value).ownBlock) (Kd.R_keptB (HO157.out) hkp (fun k_ hk_ hs_ => Or.elim hs_ (fun e_ => (hk_.1.2) e_) (fun e_ => (hk_.2) e_))) (fun k_ hk_ => ⟨hk_.1.1.1.1.2, hk_.1.1.1.2, hk_.1.1.2, hk_.1.2, hk_.1.1.1.1.1⟩)); replace HB := Aside0.mk (hb); (try clear hb); (try clear hkp); (try clear hy0); (try clear hy1)))
   (try simp only [Act.put, List.setIfInBounds_toArray, List.set_cons_zero, List.set_cons_succ])
   go_cut [65] (fun v65 wc => ∃ (kq : Nat) (x65_37 : Bool), v65 = .bool x65_37 ∧ Aside0 (laws_FnExactAmountsOf.j1 kq a1 t136 t139 t147 x65_37 l0_0 l0_1 = some r) ∧ Aside0 (kq ≤ kj11) ∧ Aside0 (Kd.R (Kd.int .i64) 3 wc w.heap.size (fun k_ => some k_ ≠ (v148 : Value).ownBlock ∧ some k_ ≠ ((.slice Ao24 t140.length co24) : Value).ownBlock ∧ some k_ ≠ ((.slice Ao27 t143.length co27) : Value).ownBlock) v137 t136) ∧ Aside0 (Kd.R (Kd.int .i64) 3 wc w.heap.size (fun k_ => some k_ ≠ (v137 : Value).ownBlock ∧ some k_ ≠ ((.slice Ao24 t140.length co24) : Value).ownBlock ∧ some k_ ≠ ((.slice Ao27 t143.length co27) : Value).ownBlock) v148 t147) ∧ Aside0 (Kd.R (Kd.int .i64) 3 wc w.heap.size (fun k_ => some k_ ≠ (v137 : Value).ownBlock ∧ some k_ ≠ (v148 : Value).ownBlock ∧ some k_ ≠ ((.slice Ao27 t143.length co27) : Value).ownBlock) (.slice Ao24 t140.length co24) t160) ∧ Aside0 (Kd.R (Kd.int .i64) 3 wc w.heap.size (fun k_ => some k_ ≠ (v137 : Value).ownBlock ∧ some k_ ≠ (v148 : Value).ownBlock ∧ some k_ ≠ ((.slice Ao24 t140.length co24) : Value).ownBlock) (.slice Ao27 t143.length co27) t161) ∧ Aside0 (wc.heap[gb128]? = some (.cells #[(.slice A0_0 l0_0.length c0_0), (.slice A0_1 l0_1.length c0_1)] 32 (0, 0))) ∧ Aside0 (wc.heap[gb146]? = some (.cells #[(.slice Ao24 t140.length co24), (.slice Ao27 t143.length co27)] 35 (0, 0))) ∧ Aside0 (Below w.heap.size w wc))
   case first =>
    have H := HC38.out
    clear HC38
    by_cases c47 : t159 < 0
    ·rw [if_pos c47] at H
     have c47b0 : decide (t159 < 0) = true := decide_eq_true c47
     clear c47
     (first | rw [c47b0] | (simp only [i64_w, i32_w]; rw [c47b0]) | skip)
     exact absurd H (by rw [hrt.out]; cases kj11 <;> simp [laws_FnExactAmountsOf.j1])
    rw [if_neg c47] at H
    have c47b0 : decide (t159 < 0) = false := decide_eq_false c47
    clear c47
    (first | rw [c47b0] | (simp only [i64_w, i32_w]; rw [c47b0]) | skip)
    replace H := Option.bind_eq_some_iff.mp H
    obtain ⟨t162, A480, H⟩ := H
    (try dsimp only at H)
    have A48 := Aside0.mk A480
    clear A480
    by_cases c49 : t162 = true
    rotate_left
    ·replace c49 := Bool.eq_false_iff.mpr c49
     subst c49
     have H1 : (laws_FnExactAmountsOf.j1 kj11 a1 t136 t139 t147 true l0_0 l0_1) = some r := by rw [if_neg (show ¬ (false = true) by decide)] at H; exact H
     clear H
     have H := H1
     clear H1
     exact absurd H (by rw [hrt.out]; cases kj11 <;> simp [laws_FnExactAmountsOf.j1])
    subst c49
    have H1 : (laws_FnExactAmountsOf.j1 kj11 a1 t136 t139 t147 (t150 != t139) l0_0 l0_1) = some r := by rw [if_pos rfl] at H; exact H
    clear H
    have H := H1
    clear H1
    have H' := Aside0.mk H
    clear H
    obtain ⟨Ao50, co50, eo50⟩ := Kd.R_slice HO_9.out
    subst eo50
    obtain ⟨Ao51, co51, eo51⟩ := Kd.R_slice HO_6.out
    subst eo51
    go_wp2_with (first | (go_at_call 32; (with_reducible refine (laws_eqIntS.calls kj11 _ _ t147 _ _ t136 true _ ?side1 ?side2 ?side3 ?side4 A48.out).mono ?_); (case side1 => exact cr HO_9); (case side2 => exact (Kd.R_reads' HO_9.out).2.1); (case side3 => exact cr HO_6); (case side4 => exact (Kd.R_reads' HO_6.out).2.1); rintro e w' ⟨rfl, ⟨nd, rfl⟩⟩))
    go_meet
    case rel => exact ⟨_, ((t150 != t139)), (by first | rfl | (simp; done) | (simp [*]; done)), H', ⟨by have := HJ11.out; first | omega | exact Nat.le_refl _⟩, ⟨by exact Kd.R_mono HO_6.out (fun _ hk => ⟨hk.1, ⟨hk.2.1, hk.2.2.1⟩⟩)⟩, ⟨by exact Kd.R_mono HO_9.out (fun _ hk => ⟨hk.1, ⟨hk.2.1, hk.2.2.1⟩⟩)⟩, ⟨by exact Kd.R_mono HO_147000.out (fun _ hk => ⟨hk.1.1.1, ⟨hk.1.1.2.1, hk.1.1.2.2⟩⟩)⟩, ⟨by exact Kd.R_mono HO_147001.out (fun _ hk => ⟨hk.1.1.1, ⟨hk.1.1.2.1, hk.1.1.2.2⟩⟩)⟩, ⟨bk BK128⟩, ⟨bk BK146⟩, ⟨bw HB⟩⟩
   case rest =>
    clear HC38
    try clear c1
    try clear c2
    try clear p2
    try clear c3
    try clear c4
    try clear c4b0
    try clear c9
    try clear c18
    try clear c20
    try clear c22
    try clear c23
    try clear c25
    try clear c30
    try clear c31
    try clear c32
    try clear c33
    try clear c36
    try clear c44
    try clear c47
    try clear c47b0
    try clear c49
    try clear hcz14_0
    try clear hcz14_1
    try clear hcz16_0
    try clear hcz16_1
    try clear hcz21_0
    try clear hcz21_1
    try clear hcz26_0
    try clear hcz26_1
    try clear hcz45_0
    try clear hcz45_1
    try clear hcz6_0
    try clear hcz6_1
    try clear hfz14_0
    try clear hfz14_1
    try clear hfz16_0
    try clear hfz16_1
    try clear hfz21_0
    try clear hfz21_1
    try clear hfz26_0
    try clear hfz26_1
    try clear hfz45_0
    try clear hfz45_1
    try clear hfz6_0
    try clear hfz6_1
    try clear p2
    obtain ⟨kq, x65_37, rfl, HA, HJ37, HO_6, HO_9, HO_147000, HO_147001, BK128, BK146, HB⟩ := hcut
    have hl147000_37 := (Kd.R_reads' HO_147000.out).1
    rw [hl147000_37] at HO_147000
    (try simp only [hl147000_37])
    (try simp only [hl147000_37] at BK128)
    (try simp only [hl147000_37] at BK146)
    (try simp only [hl147000_37] at HO_6)
    (try simp only [hl147000_37] at HO_9)
    (try simp only [hl147000_37] at HO_147001)
    have hl147001_37 := (Kd.R_reads' HO_147001.out).1
    rw [hl147001_37] at HO_147001
    (try simp only [hl147001_37])
    (try simp only [hl147001_37] at BK128)
    (try simp only [hl147001_37] at BK146)
    (try simp only [hl147001_37] at HO_6)
    (try simp only [hl147001_37] at HO_9)
    (try simp only [hl147001_37] at HO_147000)
    cases kq with
    | zero => exact absurd HA.out (by simp [laws_FnExactAmountsOf.j1])
    | succ kj37 =>
     have H := HA.out
     clear HA
     simp only [laws_FnExactAmountsOf.j1] at H
     by_cases c52 : x65_37 = true
     ·subst c52
      have H1 : (some false) = some r := by rw [if_pos rfl] at H; exact H
      clear H
      have H := H1
      clear H1
      exact absurd ((Option.some.inj H).trans hrt.out) (by decide)
     replace c52 := Bool.eq_false_iff.mpr c52
     subst c52
     have H1 : ((laws_markIntS.f kj37 t147 1).bind fun bt163 => ((laws_heldIntS.f kj37 bt163.2 1).bind fun t165 => (if t165 < 0 then (some false) else (if t165 = bt163.1 then ((laws_toVessels.f kj37 l0_0 l0_1).bind fun bt166 => ((impl_AmountsOf.f kj37 bt166.1 bt166.2 a1).bind fun bt172 => ((laws_eqIntS.f kj37 bt172.1 t136).bind fun t176 => (if t176 = true then (laws_FnExactAmountsOf.j2 kj37 bt163.2 bt163.1 (bt172.2 != t139)) else (laws_FnExactAmountsOf.j2 kj37 bt163.2 bt163.1 true))))) else (some false))))) = some r := by rw [if_neg (show ¬ (false = true) by decide)] at H; exact H
     clear H
     have H := H1
     clear H1
     replace H := Option.bind_eq_some_iff.mp H
     obtain ⟨⟨t163, t164⟩, A530, H⟩ := H
     (try dsimp only at H)
     have A53 := Aside0.mk A530
     clear A530
     replace H := Option.bind_eq_some_iff.mp H
     obtain ⟨t165, A540, H⟩ := H
     (try dsimp only at H)
     have A54 := Aside0.mk A540
     clear A540
     by_cases c55 : t165 < 0
     ·rw [if_pos c55] at H
      have c55b0 : decide (t165 < 0) = true := decide_eq_true c55
      clear c55
      exact absurd ((Option.some.inj H).trans hrt.out) (by decide)
     rw [if_neg c55] at H
     have c55b0 : decide (t165 < 0) = false := decide_eq_false c55
     clear c55
     by_cases c56 : t165 = t163
     rotate_left
     ·rw [if_neg c56] at H
      have c56b0 : (t165 == t163) = false := beq_eq_false_iff_ne.mpr c56
      have c56b1 : (t165 != t163) = true := bne_iff_ne.mpr c56
      exact absurd ((Option.some.inj H).trans hrt.out) (by decide)
     rw [if_pos c56] at H
     have c56b0 : (t165 == t163) = true := beq_iff_eq.mpr c56
     have c56b1 : (t165 != t163) = false := bne_eq_false_iff_eq.mpr c56
     clear c56
     replace H := Option.bind_eq_some_iff.mp H
     obtain ⟨⟨t166, t169⟩, A570, H⟩ := H
     (try dsimp only at H)
     have A57 := Aside0.mk A570
     clear A570
     replace H := Option.bind_eq_some_iff.mp H
     obtain ⟨⟨t172, t175⟩, A580, H⟩ := H
     (try dsimp only at H)
     have A58 := Aside0.mk A580
     clear A580
     have HC59 := Aside0.mk H
     clear H
     obtain ⟨Ao60, co60, eo60⟩ := Kd.R_slice HO_9.out
     subst eo60
     go_upto_region 25 with (first | ((with_reducible refine gate_callee (f := 33) rfl ?_); refine gl 68 Try.func33 #[.slice Ao60 t147.length co60, .int .i64 1] ?_; (with_reducible refine (laws_markIntS.calls kj37 (fun k_ => some k_ = (.slice Ao60 t147.length co60 : Value).ownBlock) (.slice Ao60 t147.length co60) t147 1 t163 t164 w _ ?side1 ?side2 A53.out).mono ?_); (case side1 => repeat (first | (with_reducible first | exact HB.out | apply below_alloc | apply pw_below_drewN | apply below_drew1 | refine below_set ?_ GE128.out | refine below_set ?_ GE146.out) | exact HB.out)); (case side2 => exact Kd.R_tight rfl HO_9.out); rintro e w61 ⟨rfl, hy0, hb, hkp⟩; refine ⟨_, rfl, ?_⟩; replace HO_6 := Aside0.mk (Kd.R_mono (ok' := fun k_ => some k_ ≠ (.slice Ao60 t147.length co60 : Value).ownBlock ∧ some k_ ≠ (.slice Ao24 t160.length co24 : Value).ownBlock ∧ some k_ ≠ (.slice Ao27 t161.length co27 : Value).ownBlock) (Kd.R_keptB (HO_6.out) hkp (fun k_ hk_ hs_ => (hk_.1) hs_)) (fun k_ hk_ => ⟨hk_.1.1, hk_.1.2.1, hk_.1.2.2⟩)); replace HO_147000 := Aside0.mk (Kd.R_mono (ok' := fun k_ => some k_ ≠ (v137 : Value).ownBlock ∧ some k_ ≠ (.slice Ao60 t147.length co60 : Value).ownBlock ∧ some k_ ≠ (.slice Ao27 t161.length co27 : Value).ownBlock) (Kd.R_keptB (HO_147000.out) hkp (fun k_ hk_ hs_ => (hk_.2.1) hs_)) (fun k_ hk_ => ⟨hk_.1.1, hk_.1.2.1, hk_.1.2.2⟩)); replace HO_147001 := Aside0.mk (Kd.R_mono (ok' := fun k_ => some k_ ≠ (v137 : Value).ownBlock ∧ some k_ ≠ (.slice Ao60 t147.length co60 : Value).ownBlock ∧ some k_ ≠ (.slice Ao24 t160.length co24 : Value).ownBlock) (Kd.R_keptB (HO_147001.out) hkp (fun k_ hk_ hs_ => (hk_.2.1) hs_)) (fun k_ hk_ => ⟨hk_.1.1, hk_.1.2.1, hk_.1.2.2⟩)); replace BK128 := Aside0.mk (blk_kept (bk BK128) hkp (fun hs_ => (fun e_ => (Kd.R_ne HO_9.out BK128.out (by decide)) e_) hs_)); replace BK146 := Aside0.mk (blk_kept (bk BK146) hkp (fun hs_ => (fun e_ => (Kd.R_ne HO_9.out BK146.out (by decide)) e_) hs_)); replace HO_9 := Aside0.mk (Kd.R_reok rfl hy0 (fun k_ e_ => HO_9.out.1 k_ e_)); replace HB := Aside0.mk (hb); (try clear hb); (try clear hkp); (try clear hy0)) | ((with_reducible refine gate_callee (f := 34) rfl ?_); refine goesL_ (some 71) rfl rfl Try.func34 (by kernel_rfl) rfl #[.slice Ao60 t164.length co60, .int .i64 1] rfl (by (try simp only [List.map_toArray, List.map_cons, List.map_nil]); first | done | (rw [show t164.length = t147.length from (Kd.R_reads' HO_9.out).1.symm] <;> rfl) | rfl | (simp only [List.length_drop, List.length_take]; rfl)) ?_; (with_reducible refine (laws_heldIntS.calls kj37 _ _ t164 1 t165 _ ?side1 ?side2 A54.out).mono ?_); (case side1 => exact cr HO_9); (case side2 => rw [show t164.length = t147.length from (Kd.R_reads' HO_9.out).1.symm]; exact (Kd.R_reads' HO_9.out).2.1); rintro e w' ⟨rfl, ⟨nd, rfl⟩⟩; refine ⟨_, rfl, ?_⟩; have hnb62 := NB128_146.out; have hnc62 := NB146_128.out; have hcz63_0 := bc0 BK128; have hcz63_1 := bc1 BK128; have hfz63_0 := blk_frozen BK128.out 0; have hfz63_1 := blk_frozen BK128.out 1) | ((with_reducible refine gate_callee (f := 20) rfl ?_); refine gl 79 Try.func20 #[.agg #[.slice A0_0 l0_0.length c0_0, .slice A0_1 l0_1.length c0_1]] ?_; (with_reducible refine (laws_toVessels.calls kj37 _ _ l0_0 _ _ l0_1 t166 t169 _ ?side1 ?side2 ?side3 ?side4 A57.out).mono ?_); (case side1 => repeat (first | exact (Kd.C_below HR0_0.out (bw HB)) | (with_reducible refine Kd.C_alloc ?_ _) | (with_reducible refine Kd.C_drewN ?_ _) | (with_reducible refine Kd.C_drew ?_))); (case side2 => exact HC0_0.out); (case side3 => repeat (first | exact (Kd.C_below HR0_1.out (bw HB)) | (with_reducible refine Kd.C_alloc ?_ _) | (with_reducible refine Kd.C_drewN ?_ _) | (with_reducible refine Kd.C_drew ?_))); (case side4 => exact HC0_1.out); rintro e w64 ⟨v167, v170, rfl, ho0, ho1, hb⟩; refine ⟨_, rfl, ?_⟩; have HO168 := Aside0.mk (Kd.R_lower (Kd.R_new' (Kd.R_new' (Kd.R_new' (Kd.R_new' ho0 (Kd.R_lt (rk HO_6))) (Kd.R_lt (rk HO_9))) (Kd.R_lt (rk HO_147000))) (Kd.R_lt (rk HO_147001))) (below_size (bw HB))); have HO171 := Aside0.mk (Kd.R_lower (Kd.R_new' (Kd.R_new' (Kd.R_new' (Kd.R_new' ho1 (Kd.R_lt (rk HO_6))) (Kd.R_lt (rk HO_9))) (Kd.R_lt (rk HO_147000))) (Kd.R_lt (rk HO_147001))) (below_size (bw HB))); replace HO_6 := Aside0.mk (Kd.R_mono (Kd.R_told (Kd.R_told (Kd.R_old (rk HO_6) hb) (Kd.R_base ho0)) (Kd.R_base ho1)) (fun _ h_ => h_.1)); replace HO_9 := Aside0.mk (Kd.R_mono (Kd.R_told (Kd.R_told (Kd.R_old (rk HO_9) hb) (Kd.R_base ho0)) (Kd.R_base ho1)) (fun _ h_ => h_.1)); replace HO_147000 := Aside0.mk (Kd.R_mono (Kd.R_told (Kd.R_told (Kd.R_old (rk HO_147000) hb) (Kd.R_base ho0)) (Kd.R_base ho1)) (fun _ h_ => h_.1)); replace HO_147001 := Aside0.mk (Kd.R_mono (Kd.R_told (Kd.R_told (Kd.R_old (rk HO_147001) hb) (Kd.R_base ho0)) (Kd.R_base ho1)) (fun _ h_ => h_.1)); replace BK128 := bb BK128 hb; replace BK146 := bb BK146 hb; replace HB := bs HB hb; (try clear hb); (try clear ho0); (try clear ho1); obtain ⟨Ao65, co65, eo65⟩ := Kd.R_slice HO168.out; subst eo65; obtain ⟨Ao66, co66, eo66⟩ := Kd.R_slice HO171.out; subst eo66) | ((with_reducible refine gate_callee (f := 31) rfl ?_); refine gl 81 Try.func31 #[.agg #[.slice Ao65 t166.length co65, .slice Ao66 t169.length co66], .bool a1] ?_; (with_reducible refine (impl_AmountsOf.calls kj37 _ _ t166 _ _ t169 a1 t172 t175 _ ?side1 ?side2 ?side3 ?side4 A58.out).mono ?_); (case side1 => exact cr HO168); (case side2 => exact (Kd.R_reads' HO168.out).2.1); (case side3 => exact cr HO171); (case side4 => exact (Kd.R_reads' HO171.out).2.1); rintro e w67 ⟨v173, rfl, ho0, hb⟩; refine ⟨_, rfl, ?_⟩; have HO174 := Aside0.mk (Kd.R_lower (Kd.R_new' (Kd.R_new' (Kd.R_new' (Kd.R_new' (Kd.R_new' (Kd.R_new' ho0 (Kd.R_lt (rk HO_6))) (Kd.R_lt (rk HO_9))) (Kd.R_lt (rk HO_147000))) (Kd.R_lt (rk HO_147001))) (Kd.R_lt (rk HO168))) (Kd.R_lt (rk HO171))) (below_size (bw HB))); replace HO_6 := Aside0.mk (Kd.R_elder' (rk HO_6) (Kd.R_base ho0) hb); replace HO_9 := Aside0.mk (Kd.R_elder' (rk HO_9) (Kd.R_base ho0) hb); replace HO_147000 := Aside0.mk (Kd.R_elder' (rk HO_147000) (Kd.R_base ho0) hb); replace HO_147001 := Aside0.mk (Kd.R_elder' (rk HO_147001) (Kd.R_base ho0) hb); replace HO168 := Aside0.mk (Kd.R_elder' (rk HO168) (Kd.R_base ho0) hb); replace HO171 := Aside0.mk (Kd.R_elder' (rk HO171) (Kd.R_base ho0) hb); replace BK128 := bb BK128 hb; replace BK146 := bb BK146 hb; replace HB := bs HB hb; (try clear hb); (try clear ho0)))
     (try simp only [Act.put, List.setIfInBounds_toArray, List.set_cons_zero, List.set_cons_succ])
     go_cut [92] (fun v92 wc => ∃ (kq : Nat) (x92_58 : Bool), v92 = .bool x92_58 ∧ Aside0 (laws_FnExactAmountsOf.j2 kq t164 t163 x92_58 = some r) ∧ Aside0 (kq ≤ kj37) ∧ Aside0 (Kd.R (Kd.int .i64) 3 wc w.heap.size (fun k_ => some k_ ≠ ((.slice Ao24 t160.length co24) : Value).ownBlock ∧ some k_ ≠ ((.slice Ao27 t161.length co27) : Value).ownBlock) (.slice Ao60 t147.length co60) t164) ∧ Aside0 (Kd.R (Kd.int .i64) 3 wc w.heap.size (fun k_ => some k_ ≠ ((.slice Ao60 t147.length co60) : Value).ownBlock ∧ some k_ ≠ ((.slice Ao27 t161.length co27) : Value).ownBlock) (.slice Ao24 t160.length co24) t160) ∧ Aside0 (Kd.R (Kd.int .i64) 3 wc w.heap.size (fun k_ => some k_ ≠ ((.slice Ao60 t147.length co60) : Value).ownBlock ∧ some k_ ≠ ((.slice Ao24 t160.length co24) : Value).ownBlock) (.slice Ao27 t161.length co27) t161) ∧ Aside0 (wc.heap[gb128]? = some (.cells #[(.slice A0_0 l0_0.length c0_0), (.slice A0_1 l0_1.length c0_1)] 32 (0, 0))) ∧ Aside0 (wc.heap[gb146]? = some (.cells #[(.slice Ao24 t160.length co24), (.slice Ao27 t161.length co27)] 35 (0, 0))) ∧ Aside0 (Below w.heap.size w wc))
     case first =>
      have H := HC59.out
      clear HC59
      replace H := Option.bind_eq_some_iff.mp H
      obtain ⟨t176, A680, H⟩ := H
      (try dsimp only at H)
      have A68 := Aside0.mk A680
      clear A680
      by_cases c69 : t176 = true
      rotate_left
      ·replace c69 := Bool.eq_false_iff.mpr c69
       subst c69
       have H1 : (laws_FnExactAmountsOf.j2 kj37 t164 t163 true) = some r := by rw [if_neg (show ¬ (false = true) by decide)] at H; exact H
       clear H
       have H := H1
       clear H1
       exact absurd H (by rw [hrt.out]; cases kj37 <;> simp [laws_FnExactAmountsOf.j2])
      subst c69
      have H1 : (laws_FnExactAmountsOf.j2 kj37 t164 t163 (t175 != t139)) = some r := by rw [if_pos rfl] at H; exact H
      clear H
      have H := H1
      clear H1
      have H' := Aside0.mk H
      clear H
      obtain ⟨Ao70, co70, eo70⟩ := Kd.R_slice HO174.out
      subst eo70
      obtain ⟨Ao71, co71, eo71⟩ := Kd.R_slice HO_6.out
      subst eo71
      go_wp2_with (first | ((with_reducible refine gate_callee (f := 32) rfl ?_); refine gl 86 Try.func32 #[.slice Ao70 t172.length co70, .slice Ao71 t136.length co71] ?_; (with_reducible refine (laws_eqIntS.calls kj37 _ _ t172 _ _ t136 true _ ?side1 ?side2 ?side3 ?side4 A68.out).mono ?_); (case side1 => exact cr HO174); (case side2 => exact (Kd.R_reads' HO174.out).2.1); (case side3 => exact cr HO_6); (case side4 => exact (Kd.R_reads' HO_6.out).2.1); rintro e w' ⟨rfl, ⟨nd, rfl⟩⟩; refine ⟨_, rfl, ?_⟩))
      go_meet
      case rel => exact ⟨_, ((t175 != t139)), (by first | rfl | (simp; done) | (simp [*]; done)), H', ⟨by have := HJ11.out; have := HJ37.out; first | omega | exact Nat.le_refl _⟩, ⟨by (try simp only [hl147000_37]); (try simp only [hl147001_37]); exact Kd.R_mono HO_9.out (fun _ hk => ⟨hk.1.1.1.2.1, hk.1.1.1.2.2⟩)⟩, ⟨by (try simp only [hl147000_37]); (try simp only [hl147001_37]); exact Kd.R_mono HO_147000.out (fun _ hk => ⟨hk.1.1.1.2.1, hk.1.1.1.2.2⟩)⟩, ⟨by (try simp only [hl147000_37]); (try simp only [hl147001_37]); exact Kd.R_mono HO_147001.out (fun _ hk => ⟨hk.1.1.1.2.1, hk.1.1.1.2.2⟩)⟩, ⟨by (try simp only [hl147000_37]); (try simp only [hl147001_37]); exact bk BK128⟩, ⟨by (try simp only [hl147000_37]); (try simp only [hl147001_37]); exact bk BK146⟩, ⟨bw HB⟩⟩
     case rest =>
      clear HC59
      try clear c1
      try clear c2
      try clear p2
      try clear c3
      try clear c4
      try clear c4b0
      try clear c5
      try clear c6
      try clear c9
      try clear c18
      try clear c20
      try clear c22
      try clear c23
      try clear c25
      try clear c30
      try clear c31
      try clear c32
      try clear c33
      try clear c34
      try clear c36
      try clear c44
      try clear c47
      try clear c47b0
      try clear c49
      try clear c52
      try clear c55
      try clear c55b0
      try clear c56
      try clear c56b0
      try clear c56b1
      try clear c62
      try clear c69
      try clear hcz14_0
      try clear hcz14_1
      try clear hcz16_0
      try clear hcz16_1
      try clear hcz21_0
      try clear hcz21_1
      try clear hcz26_0
      try clear hcz26_1
      try clear hcz45_0
      try clear hcz45_1
      try clear hcz63_0
      try clear hcz63_1
      try clear hcz6_0
      try clear hcz6_1
      try clear hfz14_0
      try clear hfz14_1
      try clear hfz16_0
      try clear hfz16_1
      try clear hfz21_0
      try clear hfz21_1
      try clear hfz26_0
      try clear hfz26_1
      try clear hfz45_0
      try clear hfz45_1
      try clear hfz63_0
      try clear hfz63_1
      try clear hfz6_0
      try clear hfz6_1
      try clear p2
      obtain ⟨kq, x92_58, rfl, HA, HJ58, HO_9, HO_147000, HO_147001, BK128, BK146, HB⟩ := hcut
      have hl9_58 := (Kd.R_reads' HO_9.out).1
      rw [hl9_58] at HO_9
      (try simp only [hl9_58])
      (try simp only [hl9_58] at BK128)
      (try simp only [hl9_58] at BK146)
      (try simp only [hl9_58] at HO_147000)
      (try simp only [hl9_58] at HO_147001)
      cases kq with
      | zero => exact absurd HA.out (by simp [laws_FnExactAmountsOf.j2])
      | succ kj58 =>
       have H := HA.out
       clear HA
       simp only [laws_FnExactAmountsOf.j2] at H
       by_cases c72 : x92_58 = true
       ·subst c72
        have H1 : (some false) = some r := by rw [if_pos rfl] at H; exact H
        clear H
        have H := H1
        clear H1
        exact absurd ((Option.some.inj H).trans hrt.out) (by decide)
       replace c72 := Bool.eq_false_iff.mpr c72
       subst c72
       have H1 : ((laws_heldIntS.f kj58 t164 1).bind fun t177 => (if t177 < 0 then (some false) else (if t177 = t163 then (some true) else (some false)))) = some r := by rw [if_neg (show ¬ (false = true) by decide)] at H; exact H
       clear H
       have H := H1
       clear H1
       replace H := Option.bind_eq_some_iff.mp H
       obtain ⟨t177, A730, H⟩ := H
       (try dsimp only at H)
       have A73 := Aside0.mk A730
       clear A730
       by_cases c74 : t177 < 0
       ·rw [if_pos c74] at H
        have c74b0 : decide (t177 < 0) = true := decide_eq_true c74
        clear c74
        exact absurd ((Option.some.inj H).trans hrt.out) (by decide)
       rw [if_neg c74] at H
       have c74b0 : decide (t177 < 0) = false := decide_eq_false c74
       clear c74
       by_cases c75 : t177 = t163
       rotate_left
       ·rw [if_neg c75] at H
        have c75b0 : (t177 == t163) = false := beq_eq_false_iff_ne.mpr c75
        have c75b1 : (t177 != t163) = true := bne_iff_ne.mpr c75
        exact absurd ((Option.some.inj H).trans hrt.out) (by decide)
       rw [if_pos c75] at H
       have c75b0 : (t177 == t163) = true := beq_iff_eq.mpr c75
       have c75b1 : (t177 != t163) = false := bne_eq_false_iff_eq.mpr c75
       clear c75
       obtain rfl := Option.some.inj H
       go_wp2_with (first | ((with_reducible refine gate_callee (f := 34) rfl ?_); refine gl 95 Try.func34 #[.slice Ao60 t164.length co60, .int .i64 1] ?_; (with_reducible refine (laws_heldIntS.calls kj58 _ _ t164 1 t177 _ ?side1 ?side2 A73.out).mono ?_); (case side1 => exact cr HO_9); (case side2 => exact (Kd.R_reads' HO_9.out).2.1); rintro e w' ⟨rfl, ⟨nd, rfl⟩⟩; refine ⟨_, rfl, ?_⟩))
       go_ret
       exact ⟨by first | rfl | (simp [errW_none, errW_some] <;> rfl) | (simp [*, errW_none, errW_some] <;> rfl), bw HB⟩
end Go.Proofs.Ytieioddimkafbaa.V
