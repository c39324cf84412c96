-- Functions of the program as plain functions, and that the calls come to them. Written by a program (ownprint.py); nothing here is trusted: Lean checks it.
import Derived.Test.YtieioddimkafbaaTbVx
import Derived.Test.YtieioddimkafbaaTbVsM
import Derived.Test.YtieioddimkafbaaTbViN
namespace Go.Proofs.Ytieioddimkafbaa.V
open Go.RowKit Go.Proofs.YtieioddimkafbaaW.PrintWords Go.Proofs.YtieioddimkafbaaW.PrintLast Go.Proofs.YtieioddimkafbaaW.PrintMore Go.Proofs.Ytieioddimkafbaa.Sq
attribute [local go_sem] max2_int min2_int max_two min_two max_three min_three max_four min_four   -- for this text's walks alone
set_option linter.unusedVariables false
set_option linter.unusedSimpArgs false
mutual
def laws_FnExactSumsOf.j0 : Nat → List Int → Bool → List Int → Bool → Bool → List Int → List Int → List Int → List Int → Option (Bool)
 | 0, _, _, _, _, _, _, _, _, _ => none
 | k + 1, x4, x5, x7, x8, x40, x129000, x129001, x147000, x147001 => if x40 = true then (some false) else ((laws_toVessels.f k x129000 x129001).bind fun bt152 => ((laws_eqVessels.f k x147000 x147001 bt152.1 bt152.2).bind fun t158 => (if t158 = true then ((laws_markVessels.f k x147000 x147001 1).bind fun bt159 => (if bt159.1 < 0 then (laws_FnExactSumsOf.j1 k x4 x5 x7 true x129000 x129001) else ((laws_eqIntS.f k x7 x4).bind fun t162 => (if t162 = true then (laws_FnExactSumsOf.j1 k x4 x5 x7 (x8 != x5) x129000 x129001) else (laws_FnExactSumsOf.j1 k x4 x5 x7 true x129000 x129001))))) else (some false))))
def laws_FnExactSumsOf.j1 : Nat → List Int → Bool → List Int → Bool → List Int → List Int → Option (Bool)
 | 0, _, _, _, _, _, _ => none
 | k + 1, x4, x5, x7, x61, x129000, x129001 => if x61 = true then (some false) else ((laws_markIntS.f k x7 1).bind fun bt163 => ((laws_heldIntS.f k bt163.2 1).bind fun t165 => (if t165 < 0 then (some false) else (if t165 = bt163.1 then ((laws_toVessels.f k x129000 x129001).bind fun bt166 => ((impl_SumsOf.f k bt166.1 bt166.2).bind fun bt172 => ((laws_eqIntS.f k bt172.1 x4).bind fun t176 => (if t176 = true then (laws_FnExactSumsOf.j2 k bt163.2 bt163.1 (bt172.2 != x5)) else (laws_FnExactSumsOf.j2 k bt163.2 bt163.1 true))))) else (some false)))))
def laws_FnExactSumsOf.j2 : Nat → List Int → Int → Bool → Option (Bool)
 | 0, _, _, _ => none
 | k + 1, x7, x10, x87 => if x87 = true then (some false) else ((laws_heldIntS.f k x7 1).bind fun t177 => (if t177 < 0 then (some false) else (if t177 = x10 then (some true) else (some false))))
end
def laws_FnExactSumsOf.f (k : Nat) (l0_0 : List Int) (l0_1 : List Int) : Option (Bool) := (laws_szVessels.f l0_0 l0_1 1048576).bind fun t129 => (if t129 < 0 then (some true) else ((laws_toVessels.f k l0_0 l0_1).bind fun bt130 => ((spec_SumsOf.f k bt130.1 bt130.2).bind fun bt136 => ((laws_toVessels.f k l0_0 l0_1).bind fun bt140 => ((impl_SumsOf.f k bt140.1 bt140.2).bind fun bt147 => ((laws_eqIntS.f k bt147.1 bt136.1).bind fun t151 => (if t151 = true then (laws_FnExactSumsOf.j0 k bt136.1 bt136.2 bt147.1 bt147.2 (bt147.2 != bt136.2) l0_0 l0_1 bt140.1 bt140.2) else (laws_FnExactSumsOf.j0 k bt136.1 bt136.2 bt147.1 bt147.2 true l0_0 l0_1 bt140.1 bt140.2))))))))
set_option maxHeartbeats 8000000 in
set_option maxRecDepth 100000 in
theorem laws_FnExactSumsOf.calls (k : Nat) (A0_0 : Option Addr) (c0_0 : Nat) (l0_0 : List Int) (A0_1 : Option Addr) (c0_1 : Nat) (l0_1 : List Int) (r : Bool) (w : World) (hr0_0 : Kd.C (Kd.int .i64) w A0_0 l0_0.length l0_0) (hc0_0 : l0_0.length ≤ c0_0) (hr0_1 : Kd.C (Kd.int .i64) w A0_1 l0_1.length l0_1) (hc0_1 : l0_1.length ≤ c0_1) (hrt : Aside0 (r = true)) (h : laws_FnExactSumsOf.f k l0_0 l0_1 = some r) :
  Calls Try.prog 10 #[.agg #[.slice A0_0 l0_0.length c0_0, .slice A0_1 l0_1.length c0_1]] w fun e w' => e = .returned (.bool r) ∧ Below w.heap.size w w' := by
 have hu32 := Try.underlying32
 have hu35 := Try.underlying35
 have HR0_0 := Aside0.mk hr0_0
 have HC0_0 := Aside0.mk hc0_0
 clear hr0_0 hc0_0
 have HR0_1 := Aside0.mk hr0_1
 have HC0_1 := Aside0.mk hc0_1
 clear hr0_1 hc0_1
 have HB := Aside0.mk (Below.refl w.heap.size w)
 have H : ((laws_szVessels.f l0_0 l0_1 1048576).bind fun t129 => (if t129 < 0 then (some true) else ((laws_toVessels.f k l0_0 l0_1).bind fun bt130 => ((spec_SumsOf.f k bt130.1 bt130.2).bind fun bt136 => ((laws_toVessels.f k l0_0 l0_1).bind fun bt140 => ((impl_SumsOf.f k bt140.1 bt140.2).bind fun bt147 => ((laws_eqIntS.f k bt147.1 bt136.1).bind fun t151 => (if t151 = true then (laws_FnExactSumsOf.j0 k bt136.1 bt136.2 bt147.1 bt147.2 (bt147.2 != bt136.2) l0_0 l0_1 bt140.1 bt140.2) else (laws_FnExactSumsOf.j0 k bt136.1 bt136.2 bt147.1 bt147.2 true l0_0 l0_1 bt140.1 bt140.2))))))))) = some r := h
 clear h
 replace H := Option.bind_eq_some_iff.mp H
 obtain ⟨t129, A20, H⟩ := H
 (try dsimp only at H)
 have A2 := Aside0.mk A20
 clear A20
 by_cases c3 : t129 < 0
 ·rw [if_pos c3] at H
  have c3b0 : decide (t129 < 0) = true := decide_eq_true c3
  clear c3
  obtain rfl := Option.some.inj H
  go_enter Try.func10, Try.ntmps10
  go_wp2_with (first | ((with_reducible refine gate_dst (N := 1) rfl ?_); refine bx 1 #[.slice A0_0 l0_0.length c0_0, .slice A0_1 l0_1.length c0_1] 32 ?_; intro gb128 hg w4 hbox hb; have BK128 := Aside0.mk (hbox); have GW128 := ge HB hg; have GE128 := ge HB hg; replace HB := bs HB hb; clear hb hbox hg; have hcz5_0 := bc0 BK128; have hcz5_1 := bc1 BK128; have hfz5_0 := blk_frozen BK128.out 0; have hfz5_1 := blk_frozen BK128.out 1) | ((with_reducible refine gate_callee (f := 18) rfl ?_); refine gl 16 Try.func18 #[.agg #[.slice A0_0 l0_0.length c0_0, .slice A0_1 l0_1.length c0_1], .int .i64 1048576] ?_; (with_reducible refine (laws_szVessels.calls _ _ l0_0 _ _ l0_1 1048576 t129 _ ?side1 ?side2 ?side3 ?side4 A2.out).mono ?_); (case side1 => exact ck HR0_0 HB); (case side2 => exact HC0_0.out); (case side3 => exact ck HR0_1 HB); (case side4 => exact HC0_1.out); rintro e w6 ⟨rfl, hb⟩; refine ⟨_, rfl, ?_⟩; replace BK128 := bb BK128 hb; replace HB := bs HB hb; (try clear hb)))
  go_ret
  exact ⟨by first | rfl | (simp [errW_none, errW_some] <;> rfl) | (simp [*, errW_none, errW_some] <;> rfl), bw HB⟩
 rw [if_neg c3] at H
 have c3b0 : decide (t129 < 0) = false := decide_eq_false c3
 clear c3
 replace H := Option.bind_eq_some_iff.mp H
 obtain ⟨⟨t130, t133⟩, A70, H⟩ := H
 (try dsimp only at H)
 have A7 := Aside0.mk A70
 clear A70
 replace H := Option.bind_eq_some_iff.mp H
 obtain ⟨⟨t136, t139⟩, A80, H⟩ := H
 (try dsimp only at H)
 have A8 := Aside0.mk A80
 clear A80
 replace H := Option.bind_eq_some_iff.mp H
 obtain ⟨⟨t140, t143⟩, A90, H⟩ := H
 (try dsimp only at H)
 have A9 := Aside0.mk A90
 clear A90
 replace H := Option.bind_eq_some_iff.mp H
 obtain ⟨⟨t147, t150⟩, A100, H⟩ := H
 (try dsimp only at H)
 have A10 := Aside0.mk A100
 clear A100
 have HC11 := Aside0.mk H
 clear H
 go_enter Try.func10, Try.ntmps10
 go_upto_region 8 with (first | ((with_reducible refine gate_dst (N := 1) rfl ?_); refine bx 1 #[.slice A0_0 l0_0.length c0_0, .slice A0_1 l0_1.length c0_1] 32 ?_; intro gb128 hg w12 hbox hb; have BK128 := Aside0.mk (hbox); have GW128 := ge HB hg; have GE128 := ge HB hg; replace HB := bs HB hb; clear hb hbox hg; have hcz13_0 := bc0 BK128; have hcz13_1 := bc1 BK128; have hfz13_0 := blk_frozen BK128.out 0; have hfz13_1 := blk_frozen BK128.out 1) | ((with_reducible refine gate_callee (f := 18) rfl ?_); refine gl 16 Try.func18 #[.agg #[.slice A0_0 l0_0.length c0_0, .slice A0_1 l0_1.length c0_1], .int .i64 1048576] ?_; (with_reducible refine (laws_szVessels.calls _ _ l0_0 _ _ l0_1 1048576 t129 _ ?side1 ?side2 ?side3 ?side4 A2.out).mono ?_); (case side1 => exact ck HR0_0 HB); (case side2 => exact HC0_0.out); (case side3 => exact ck HR0_1 HB); (case side4 => exact HC0_1.out); rintro e w14 ⟨rfl, hb⟩; refine ⟨_, rfl, ?_⟩; replace BK128 := bb BK128 hb; replace HB := bs HB hb; (try clear hb); have hcz15_0 := bc0 BK128; have hcz15_1 := bc1 BK128; have hfz15_0 := blk_frozen BK128.out 0; have hfz15_1 := blk_frozen BK128.out 1) | ((with_reducible refine gate_callee (f := 20) rfl ?_); refine gl 21 Try.func20 #[.agg #[.slice A0_0 l0_0.length c0_0, .slice A0_1 l0_1.length c0_1]] ?_; (with_reducible refine (laws_toVessels.calls k _ _ l0_0 _ _ l0_1 t130 t133 _ ?side1 ?side2 ?side3 ?side4 A7.out).mono ?_); (case side1 => exact ck HR0_0 HB); (case side2 => exact HC0_0.out); (case side3 => exact ck HR0_1 HB); (case side4 => exact HC0_1.out); rintro e w16 ⟨v131, v134, rfl, ho0, ho1, hb⟩; refine ⟨_, rfl, ?_⟩; have HO132 := lo ho0 HB; have HO135 := lo ho1 HB; replace BK128 := bb BK128 hb; replace HB := bs HB hb; (try clear hb); (try clear ho0); (try clear ho1); obtain ⟨Ao17, co17, eo17⟩ := Kd.R_slice HO132.out; subst eo17; obtain ⟨Ao18, co18, eo18⟩ := Kd.R_slice HO135.out; subst eo18) | ((with_reducible refine gate_callee (f := 35) rfl ?_); refine gl 22 Try.func35 #[.agg #[.slice Ao17 t130.length co17, .slice Ao18 t133.length co18]] ?_; (with_reducible refine (spec_SumsOf.calls k _ _ t130 _ _ t133 t136 t139 _ ?side1 ?side2 ?side3 ?side4 A8.out).mono ?_); (case side1 => exact cr HO132); (case side2 => exact (Kd.R_reads' HO132.out).2.1); (case side3 => exact cr HO135); (case side4 => exact (Kd.R_reads' HO135.out).2.1); rintro e w19 ⟨v137, rfl, ho0, hb⟩; refine ⟨_, rfl, ?_⟩; have HO138 := Aside0.mk (Kd.R_lower (Kd.R_new' (Kd.R_new' ho0 (Kd.R_lt (rk HO132))) (Kd.R_lt (rk HO135))) (below_size (bw HB))); replace HO132 := Aside0.mk (Kd.R_elder' (rk HO132) (Kd.R_base ho0) hb); replace HO135 := Aside0.mk (Kd.R_elder' (rk HO135) (Kd.R_base ho0) hb); replace BK128 := bb BK128 hb; replace HB := bs HB hb; (try clear hb); (try clear ho0); have hcz20_0 := bc0 BK128; have hcz20_1 := bc1 BK128; have hfz20_0 := blk_frozen BK128.out 0; have hfz20_1 := blk_frozen BK128.out 1) | ((with_reducible refine gate_callee (f := 20) rfl ?_); refine gl 26 Try.func20 #[.agg #[.slice A0_0 l0_0.length c0_0, .slice A0_1 l0_1.length c0_1]] ?_; (with_reducible refine (laws_toVessels.calls k _ _ l0_0 _ _ l0_1 t140 t143 _ ?side1 ?side2 ?side3 ?side4 A9.out).mono ?_); (case side1 => exact ck HR0_0 HB); (case side2 => exact HC0_0.out); (case side3 => exact ck HR0_1 HB); (case side4 => exact HC0_1.out); rintro e w21 ⟨v141, v144, rfl, ho0, ho1, hb⟩; refine ⟨_, rfl, ?_⟩; have HO142 := Aside0.mk (Kd.R_lower (Kd.R_new' (Kd.R_new' (Kd.R_new' ho0 (Kd.R_lt (rk HO132))) (Kd.R_lt (rk HO135))) (Kd.R_lt (rk HO138))) (below_size (bw HB))); have HO145 := Aside0.mk (Kd.R_lower (Kd.R_new' (Kd.R_new' (Kd.R_new' ho1 (Kd.R_lt (rk HO132))) (Kd.R_lt (rk HO135))) (Kd.R_lt (rk HO138))) (below_size (bw HB))); replace HO132 := Aside0.mk (Kd.R_mono (Kd.R_told (Kd.R_told (Kd.R_old (rk HO132) hb) (Kd.R_base ho0)) (Kd.R_base ho1)) (fun _ h_ => h_.1)); replace HO135 := Aside0.mk (Kd.R_mono (Kd.R_told (Kd.R_told (Kd.R_old (rk HO135) hb) (Kd.R_base ho0)) (Kd.R_base ho1)) (fun _ h_ => h_.1)); replace HO138 := Aside0.mk (Kd.R_mono (Kd.R_told (Kd.R_told (Kd.R_old (rk HO138) hb) (Kd.R_base ho0)) (Kd.R_base ho1)) (fun _ h_ => h_.1)); replace BK128 := bb BK128 hb; replace HB := bs HB hb; (try clear hb); (try clear ho0); (try clear ho1)) | ((with_reducible refine gate_dst (N := 6) rfl ?_); refine bx 6 #[.slice none 0 0, .slice none 0 0] 35 ?_; intro gb146 hg w22 hbox hb; replace HO132 := rb HO132 hb; replace HO135 := rb HO135 hb; replace HO138 := rb HO138 hb; replace HO142 := rb HO142 hb; replace HO145 := rb HO145 hb; have BK146 := Aside0.mk (hbox); have GW146 := ge HB hg; have GE146 := ge HB hg; replace HB := bs HB hb; have NB128_146 := nl BK128 hg; have NB146_128 := nr BK128 hg; replace BK128 := bb BK128 hb; clear hb hbox hg; obtain ⟨Ao23, co23, eo23⟩ := Kd.R_slice HO142.out; subst eo23; have hnb24 := NB146_128.out; have hnc24 := NB128_146.out; have hcz25_0 := bc0 BK146; have hcz25_1 := bc1 BK146; have hfz25_0 := blk_frozen BK146.out 0; have hfz25_1 := blk_frozen BK146.out 1; obtain ⟨Ao26, co26, eo26⟩ := Kd.R_slice HO145.out; subst eo26) | ((with_reducible refine gate_callee (f := 36) rfl ?_); refine gl 29 Try.func36 #[.agg #[.slice Ao23 t140.length co23, .slice Ao26 t143.length co26]] ?_; (with_reducible refine (impl_SumsOf.calls k _ _ t140 _ _ t143 t147 t150 _ ?side1 ?side2 ?side3 ?side4 A10.out).mono ?_); (case side1 => refine (Kd.R_reads' (e := 3) (base := w.heap.size) (ok := fun k_ => (((some k_ ≠ (.slice Ao26 t143.length co26 : Value).ownBlock ∧ some k_ ≠ (.slice Ao17 t130.length co17 : Value).ownBlock) ∧ some k_ ≠ (.slice Ao18 t133.length co18 : Value).ownBlock) ∧ some k_ ≠ (v137 : Value).ownBlock)) (n := t140.length) (c := co23) ?_).2.2; exact (by exact (Kd.R_mono (Kd.R_far (p := ⟨gb146, 1, none⟩) (Kd.R_far (p := ⟨gb146, 0, none⟩) (Kd.R_types HO142.out BK146.out (by decide)) (fun _ hk => hk.2) (.slice Ao23 t140.length co23)) (fun _ hk => hk.2) (.slice Ao26 t143.length co26)) (fun _ h_ => h_.1)))); (case side2 => exact (Kd.R_reads' HO142.out).2.1); (case side3 => refine (Kd.R_reads' (e := 3) (base := w.heap.size) (ok := fun k_ => (((some k_ ≠ (.slice Ao23 t140.length co23 : Value).ownBlock ∧ some k_ ≠ (.slice Ao17 t130.length co17 : Value).ownBlock) ∧ some k_ ≠ (.slice Ao18 t133.length co18 : Value).ownBlock) ∧ some k_ ≠ (v137 : Value).ownBlock)) (n := t143.length) (c := co26) ?_).2.2; exact (by exact (Kd.R_mono (Kd.R_far (p := ⟨gb146, 1, none⟩) (Kd.R_far (p := ⟨gb146, 0, none⟩) (Kd.R_types HO145.out BK146.out (by decide)) (fun _ hk => hk.2) (.slice Ao23 t140.length co23)) (fun _ hk => hk.2) (.slice Ao26 t143.length co26)) (fun _ h_ => h_.1)))); (case side4 => exact (Kd.R_reads' HO145.out).2.1); rintro e w27 ⟨v148, rfl, ho0, hb⟩; refine ⟨_, rfl, ?_⟩; have HO149 := Aside0.mk (Kd.R_lower (Kd.R_new' (Kd.R_new' (Kd.R_new' (Kd.R_new' (Kd.R_new' ho0 (Kd.R_lt (by exact (Kd.R_mono (Kd.R_far (p := ⟨gb146, 1, none⟩) (Kd.R_far (p := ⟨gb146, 0, none⟩) (Kd.R_types HO132.out BK146.out (by decide)) (fun _ hk => hk.2) (.slice Ao23 t140.length co23)) (fun _ hk => hk.2) (.slice Ao26 t143.length co26)) (fun _ h_ => h_.1))))) (Kd.R_lt (by exact (Kd.R_mono (Kd.R_far (p := ⟨gb146, 1, none⟩) (Kd.R_far (p := ⟨gb146, 0, none⟩) (Kd.R_types HO135.out BK146.out (by decide)) (fun _ hk => hk.2) (.slice Ao23 t140.length co23)) (fun _ hk => hk.2) (.slice Ao26 t143.length co26)) (fun _ h_ => h_.1))))) (Kd.R_lt (by exact (Kd.R_mono (Kd.R_far (p := ⟨gb146, 1, none⟩) (Kd.R_far (p := ⟨gb146, 0, none⟩) (Kd.R_types HO138.out BK146.out (by decide)) (fun _ hk => hk.2) (.slice Ao23 t140.length co23)) (fun _ hk => hk.2) (.slice Ao26 t143.length co26)) (fun _ h_ => h_.1))))) (Kd.R_lt (by exact (Kd.R_mono (Kd.R_far (p := ⟨gb146, 1, none⟩) (Kd.R_far (p := ⟨gb146, 0, none⟩) (Kd.R_types HO142.out BK146.out (by decide)) (fun _ hk => hk.2) (.slice Ao23 t140.length co23)) (fun _ hk => hk.2) (.slice Ao26 t143.length co26)) (fun _ h_ => h_.1))))) (Kd.R_lt (by exact (Kd.R_mono (Kd.R_far (p := ⟨gb146, 1, none⟩) (Kd.R_far (p := ⟨gb146, 0, none⟩) (Kd.R_types HO145.out BK146.out (by decide)) (fun _ hk => hk.2) (.slice Ao23 t140.length co23)) (fun _ hk => hk.2) (.slice Ao26 t143.length co26)) (fun _ h_ => h_.1))))) (below_size (bw HB))); replace HO132 := Aside0.mk (Kd.R_elder' (by exact (Kd.R_mono (Kd.R_far (p := ⟨gb146, 1, none⟩) (Kd.R_far (p := ⟨gb146, 0, none⟩) (Kd.R_types HO132.out BK146.out (by decide)) (fun _ hk => hk.2) (.slice Ao23 t140.length co23)) (fun _ hk => hk.2) (.slice Ao26 t143.length co26)) (fun _ h_ => h_.1))) (Kd.R_base ho0) hb); replace HO135 := Aside0.mk (Kd.R_elder' (by exact (Kd.R_mono (Kd.R_far (p := ⟨gb146, 1, none⟩) (Kd.R_far (p := ⟨gb146, 0, none⟩) (Kd.R_types HO135.out BK146.out (by decide)) (fun _ hk => hk.2) (.slice Ao23 t140.length co23)) (fun _ hk => hk.2) (.slice Ao26 t143.length co26)) (fun _ h_ => h_.1))) (Kd.R_base ho0) hb); replace HO138 := Aside0.mk (Kd.R_elder' (by exact (Kd.R_mono (Kd.R_far (p := ⟨gb146, 1, none⟩) (Kd.R_far (p := ⟨gb146, 0, none⟩) (Kd.R_types HO138.out BK146.out (by decide)) (fun _ hk => hk.2) (.slice Ao23 t140.length co23)) (fun _ hk => hk.2) (.slice Ao26 t143.length co26)) (fun _ h_ => h_.1))) (Kd.R_base ho0) hb); replace HO142 := Aside0.mk (Kd.R_elder' (by exact (Kd.R_mono (Kd.R_far (p := ⟨gb146, 1, none⟩) (Kd.R_far (p := ⟨gb146, 0, none⟩) (Kd.R_types HO142.out BK146.out (by decide)) (fun _ hk => hk.2) (.slice Ao23 t140.length co23)) (fun _ hk => hk.2) (.slice Ao26 t143.length co26)) (fun _ h_ => h_.1))) (Kd.R_base ho0) hb); replace HO145 := Aside0.mk (Kd.R_elder' (by exact (Kd.R_mono (Kd.R_far (p := ⟨gb146, 1, none⟩) (Kd.R_far (p := ⟨gb146, 0, none⟩) (Kd.R_types HO145.out BK146.out (by decide)) (fun _ hk => hk.2) (.slice Ao23 t140.length co23)) (fun _ hk => hk.2) (.slice Ao26 t143.length co26)) (fun _ h_ => h_.1))) (Kd.R_base ho0) hb); replace BK128 := bb BK128 hb; replace BK146 := Aside0.mk (blk_below (g := gb146) (o := .cells #[.slice Ao23 t140.length co23, .slice Ao26 t143.length co26] 35 (0, 0)) (by refine blk_put (cs := #[.slice Ao23 t140.length co23, .slice none 0 0]) ?_ 1 _ rfl; refine blk_put (cs := #[.slice none 0 0, .slice none 0 0]) ?_ 0 _ rfl; exact bk BK146) hb); replace HB := bs HB hb; (try clear hb); (try clear ho0)))
 (try simp only [Act.put, List.setIfInBounds_toArray, List.set_cons_zero, List.set_cons_succ])
 go_cut [40] (fun v40 wc => ∃ (kq : Nat) (x40_10 : Bool), v40 = .bool x40_10 ∧ Aside0 (laws_FnExactSumsOf.j0 kq t136 t139 t147 t150 x40_10 l0_0 l0_1 t140 t143 = some r) ∧ Aside0 (kq ≤ k) ∧ Aside0 (Kd.R (Kd.int .i64) 3 wc w.heap.size (fun k_ => some k_ ≠ (v148 : Value).ownBlock ∧ some k_ ≠ ((.slice Ao23 t140.length co23) : Value).ownBlock ∧ some k_ ≠ ((.slice Ao26 t143.length co26) : Value).ownBlock) v137 t136) ∧ Aside0 (Kd.R (Kd.int .i64) 3 wc w.heap.size (fun k_ => some k_ ≠ (v137 : Value).ownBlock ∧ some k_ ≠ ((.slice Ao23 t140.length co23) : Value).ownBlock ∧ some k_ ≠ ((.slice Ao26 t143.length co26) : Value).ownBlock) v148 t147) ∧ Aside0 (Kd.R (Kd.int .i64) 3 wc w.heap.size (fun k_ => some k_ ≠ (v137 : Value).ownBlock ∧ some k_ ≠ (v148 : Value).ownBlock ∧ some k_ ≠ ((.slice Ao26 t143.length co26) : Value).ownBlock) (.slice Ao23 t140.length co23) t140) ∧ Aside0 (Kd.R (Kd.int .i64) 3 wc w.heap.size (fun k_ => some k_ ≠ (v137 : Value).ownBlock ∧ some k_ ≠ (v148 : Value).ownBlock ∧ some k_ ≠ ((.slice Ao23 t140.length co23) : Value).ownBlock) (.slice Ao26 t143.length co26) t143) ∧ Aside0 (wc.heap[gb128]? = some (.cells #[(.slice A0_0 l0_0.length c0_0), (.slice A0_1 l0_1.length c0_1)] 32 (0, 0))) ∧ Aside0 (wc.heap[gb146]? = some (.cells #[(.slice Ao23 t140.length co23), (.slice Ao26 t143.length co26)] 35 (0, 0))) ∧ Aside0 (Below w.heap.size w wc))
 case first =>
  have H := HC11.out
  clear HC11
  replace H := Option.bind_eq_some_iff.mp H
  obtain ⟨t151, A280, H⟩ := H
  (try dsimp only at H)
  have A28 := Aside0.mk A280
  clear A280
  by_cases c29 : t151 = true
  rotate_left
  ·replace c29 := Bool.eq_false_iff.mpr c29
   subst c29
   have H1 : (laws_FnExactSumsOf.j0 k t136 t139 t147 t150 true l0_0 l0_1 t140 t143) = some r := by rw [if_neg (show ¬ (false = true) by decide)] at H; exact H
   clear H
   have H := H1
   clear H1
   exact absurd H (by rw [hrt.out]; cases k <;> simp [laws_FnExactSumsOf.j0])
  subst c29
  have H1 : (laws_FnExactSumsOf.j0 k t136 t139 t147 t150 (t150 != t139) l0_0 l0_1 t140 t143) = some r := by rw [if_pos rfl] at H; exact H
  clear H
  have H := H1
  clear H1
  have H' := Aside0.mk H
  clear H
  obtain ⟨Ao30, co30, eo30⟩ := Kd.R_slice HO149.out
  subst eo30
  obtain ⟨Ao31, co31, eo31⟩ := Kd.R_slice HO138.out
  subst eo31
  go_wp2_with (first | ((with_reducible refine gate_callee (f := 32) rfl ?_); refine gl 34 Try.func32 #[.slice Ao30 t147.length co30, .slice Ao31 t136.length co31] ?_; (with_reducible refine (laws_eqIntS.calls k _ _ t147 _ _ t136 true _ ?side1 ?side2 ?side3 ?side4 A28.out).mono ?_); (case side1 => exact cr HO149); (case side2 => exact (Kd.R_reads' HO149.out).2.1); (case side3 => exact cr HO138); (case side4 => exact (Kd.R_reads' HO138.out).2.1); rintro e w' ⟨rfl, ⟨nd, rfl⟩⟩; refine ⟨_, rfl, ?_⟩))
  go_meet
  case rel => exact ⟨_, ((t150 != t139)), (by first | rfl | (simp; done) | (simp [*]; done)), H', ⟨by first | omega | exact Nat.le_refl _⟩, ⟨by exact Kd.R_mono HO138.out (fun _ hk => ⟨hk.2, ⟨hk.1.1.2, hk.1.2⟩⟩)⟩, ⟨by exact Kd.R_mono HO149.out (fun _ hk => ⟨hk.1.1.2, ⟨hk.1.2, hk.2⟩⟩)⟩, ⟨by exact Kd.R_mono HO142.out (fun _ hk => ⟨hk.1.2, ⟨hk.2, hk.1.1.1.1⟩⟩)⟩, ⟨by exact Kd.R_mono HO145.out (fun _ hk => ⟨hk.1.2, ⟨hk.2, hk.1.1.1.1⟩⟩)⟩, ⟨bk BK128⟩, ⟨bk BK146⟩, ⟨bw HB⟩⟩
 case rest =>
  clear HC11
  try clear c1
  try clear c2
  try clear p2
  try clear c3
  try clear c3b0
  try clear c10
  try clear c18
  try clear c20
  try clear c24
  try clear c29
  try clear hcz13_0
  try clear hcz13_1
  try clear hcz15_0
  try clear hcz15_1
  try clear hcz20_0
  try clear hcz20_1
  try clear hcz25_0
  try clear hcz25_1
  try clear hcz5_0
  try clear hcz5_1
  try clear hfz13_0
  try clear hfz13_1
  try clear hfz15_0
  try clear hfz15_1
  try clear hfz20_0
  try clear hfz20_1
  try clear hfz25_0
  try clear hfz25_1
  try clear hfz5_0
  try clear hfz5_1
  obtain ⟨kq, x40_10, rfl, HA, HJ10, HO_4, HO_7, HO_147000, HO_147001, BK128, BK146, HB⟩ := hcut
  cases kq with
  | zero => exact absurd HA.out (by simp [laws_FnExactSumsOf.j0])
  | succ kj10 =>
   have H := HA.out
   clear HA
   simp only [laws_FnExactSumsOf.j0] at H
   by_cases c32 : x40_10 = true
   ·subst c32
    have H1 : (some false) = some r := by rw [if_pos rfl] at H; exact H
    clear H
    have H := H1
    clear H1
    exact absurd ((Option.some.inj H).trans hrt.out) (by decide)
   replace c32 := Bool.eq_false_iff.mpr c32
   subst c32
   have H1 : ((laws_toVessels.f kj10 l0_0 l0_1).bind fun bt152 => ((laws_eqVessels.f kj10 t140 t143 bt152.1 bt152.2).bind fun t158 => (if t158 = true then ((laws_markVessels.f kj10 t140 t143 1).bind fun bt159 => (if bt159.1 < 0 then (laws_FnExactSumsOf.j1 kj10 t136 t139 t147 true l0_0 l0_1) else ((laws_eqIntS.f kj10 t147 t136).bind fun t162 => (if t162 = true then (laws_FnExactSumsOf.j1 kj10 t136 t139 t147 (t150 != t139) l0_0 l0_1) else (laws_FnExactSumsOf.j1 kj10 t136 t139 t147 true l0_0 l0_1))))) else (some false)))) = some r := by rw [if_neg (show ¬ (false = true) by decide)] at H; exact H
   clear H
   have H := H1
   clear H1
   replace H := Option.bind_eq_some_iff.mp H
   obtain ⟨⟨t152, t155⟩, A330, H⟩ := H
   (try dsimp only at H)
   have A33 := Aside0.mk A330
   clear A330
   replace H := Option.bind_eq_some_iff.mp H
   obtain ⟨t158, A340, H⟩ := H
   (try dsimp only at H)
   have A34 := Aside0.mk A340
   clear A340
   by_cases c35 : t158 = true
   rotate_left
   ·replace c35 := Bool.eq_false_iff.mpr c35
    subst c35
    have H1 : (some false) = some r := by rw [if_neg (show ¬ (false = true) by decide)] at H; exact H
    clear H
    have H := H1
    clear H1
    exact absurd ((Option.some.inj H).trans hrt.out) (by decide)
   subst c35
   have H1 : ((laws_markVessels.f kj10 t140 t143 1).bind fun bt159 => (if bt159.1 < 0 then (laws_FnExactSumsOf.j1 kj10 t136 t139 t147 true l0_0 l0_1) else ((laws_eqIntS.f kj10 t147 t136).bind fun t162 => (if t162 = true then (laws_FnExactSumsOf.j1 kj10 t136 t139 t147 (t150 != t139) l0_0 l0_1) else (laws_FnExactSumsOf.j1 kj10 t136 t139 t147 true l0_0 l0_1))))) = some r := by rw [if_pos rfl] at H; exact H
   clear H
   have H := H1
   clear H1
   replace H := Option.bind_eq_some_iff.mp H
   obtain ⟨⟨t159, t160, t161⟩, A360, H⟩ := H
   (try dsimp only at H)
   have A36 := Aside0.mk A360
   clear A360
   have HC37 := Aside0.mk H
   clear H
   try go_wp2
   replace HO_4 := Aside0.mk (Kd.R_drew HO_4.out)
   replace HO_7 := Aside0.mk (Kd.R_drew HO_7.out)
   replace HO_147000 := Aside0.mk (Kd.R_drew HO_147000.out)
   replace HO_147001 := Aside0.mk (Kd.R_drew HO_147001.out)
   replace BK128 := Aside0.mk (blk_drew BK128.out)
   replace BK146 := Aside0.mk (blk_drew BK146.out)
   replace HB := Aside0.mk (below_drew1 HB.out)
   refine start_ (n := 5) (S := fun w' => w'.cell? ⟨gb146, 0, none⟩ = some (.slice Ao23 t140.length co23) ∧ w'.cell? ⟨gb146, 1, none⟩ = some (.slice Ao26 t143.length co26) ∧ w'.cell? ⟨gb128, 0, none⟩ = some (.slice A0_0 l0_0.length c0_0) ∧ w'.cell? ⟨gb128, 1, none⟩ = some (.slice A0_1 l0_1.length c0_1)) (ds := []) #[false, false, false, false, false] (by kernel_rfl) rfl rfl ⟨bc0 BK146, bc1 BK146, bc0 BK128, bc1 BK128⟩ (fun hHeld => ?_)
   generalize wc.drew = w38 at HO_4 HO_7 HO_147000 HO_147001 BK128 BK146 HB hHeld ⊢
   refine take_ (i := 0) (N := some 41) (v := ?_) (a' := ?_) #[true, false, false, false, false] rfl rfl (by kernel_rfl) (fun _ _ _ h => h) (Or.inl ⟨by rfl, ?_⟩) hHeld ?_ ?_
   rotate_left; (rintro w' ⟨s0, s1, s2, s3⟩; go_simp; with_reducible rfl); rotate_left; (simp only [sqa, sqb, sqc, sqd, i64_w, i32_w]; rfl)
   refine take_ (i := 1) (N := some 42) (v := ?_) (a' := ?_) #[true, true, false, false, false] rfl rfl (by kernel_rfl) (fun _ _ _ h => h) (Or.inl ⟨by rfl, ?_⟩) hHeld ?_ ?_
   rotate_left; (rintro w' ⟨s0, s1, s2, s3⟩; go_simp; with_reducible rfl); rotate_left; (simp only [sqa, sqb, sqc, sqd, i64_w, i32_w]; rfl)
   refine one_ (i := 2) (N := some 43) #[true, true, true, false, false] rfl rfl (by kernel_rfl) (by decide) (fun K hK => ?_)
   refine gs Try.func20 #[.agg #[.slice A0_0 l0_0.length c0_0, .slice A0_1 l0_1.length c0_1]] ?_
   with_reducible refine (laws_toVessels.calls kj10 _ _ l0_0 _ _ l0_1 t152 t155 _ ?side1 ?side2 ?side3 ?side4 A33.out).mono ?_
   (case side1 => exact ck HR0_0 HB)
   (case side2 => exact HC0_0.out)
   (case side3 => exact ck HR0_1 HB)
   (case side4 => exact HC0_1.out)
   rintro e w39 ⟨v153, v156, rfl, ho0, ho1, hb⟩
   refine ⟨_, rfl, ?_⟩
   have HO154 := Aside0.mk (Kd.R_lower (Kd.R_new' (Kd.R_new' (Kd.R_new' (Kd.R_new' ho0 (Kd.R_lt (rk HO_4))) (Kd.R_lt (rk HO_7))) (Kd.R_lt (rk HO_147000))) (Kd.R_lt (rk HO_147001))) (below_size (bw HB)))
   have HO157 := Aside0.mk (Kd.R_lower (Kd.R_new' (Kd.R_new' (Kd.R_new' (Kd.R_new' ho1 (Kd.R_lt (rk HO_4))) (Kd.R_lt (rk HO_7))) (Kd.R_lt (rk HO_147000))) (Kd.R_lt (rk HO_147001))) (below_size (bw HB)))
   replace HO_4 := Aside0.mk (Kd.R_mono (Kd.R_told (Kd.R_told (Kd.R_old (rk HO_4) hb) (Kd.R_base ho0)) (Kd.R_base ho1)) (fun _ h_ => h_.1))
   replace HO_7 := Aside0.mk (Kd.R_mono (Kd.R_told (Kd.R_told (Kd.R_old (rk HO_7) hb) (Kd.R_base ho0)) (Kd.R_base ho1)) (fun _ h_ => h_.1))
   replace HO_147000 := Aside0.mk (Kd.R_mono (Kd.R_told (Kd.R_told (Kd.R_old (rk HO_147000) hb) (Kd.R_base ho0)) (Kd.R_base ho1)) (fun _ h_ => h_.1))
   replace HO_147001 := Aside0.mk (Kd.R_mono (Kd.R_told (Kd.R_told (Kd.R_old (rk HO_147001) hb) (Kd.R_base ho0)) (Kd.R_base ho1)) (fun _ h_ => h_.1))
   replace BK128 := bb BK128 hb
   replace BK146 := bb BK146 hb
   replace HB := bs HB hb
   (try clear hb); (try clear hb2); (try clear hk); (try clear hi); (try clear ho0); (try clear ho1)
   obtain ⟨Ao40, co40, eo40⟩ := Kd.R_slice HO154.out
   (first | subst eo40 | (injection eo40 with f1_ f2_ f3_; have f4_ := f1_.symm; have f5_ := f3_.symm; clear f1_ f2_ f3_; subst f4_; subst f5_))
   obtain ⟨Ao41, co41, eo41⟩ := Kd.R_slice HO157.out
   (first | subst eo41 | (injection eo41 with f1_ f2_ f3_; have f4_ := f1_.symm; have f5_ := f3_.symm; clear f1_ f2_ f3_; subst f4_; subst f5_))
   refine hK.out _ _ ⟨bc0 BK146, bc1 BK146, bc0 BK128, bc1 BK128⟩ (fun hHeld => ?_)
   clear hK K
   refine norm_ (a' := ?_) ?_ ?_; rotate_left; (show Act.put _ (some 43) _ = _; simp only [sqa, sqb, sqc, sqd, i64_w, i32_w]; rfl)
   refine one_ (i := 3) (N := some 44) #[true, true, true, true, false] rfl rfl (by kernel_rfl) (by decide) (fun K hK => ?_)
   refine gs Try.func22 #[.agg #[.slice Ao23 t140.length co23, .slice Ao26 t143.length co26], .agg #[.slice Ao40 t152.length co40, .slice Ao41 t155.length co41]] ?_
   with_reducible refine (laws_eqVessels.calls kj10 _ _ t140 _ _ t143 _ _ t152 _ _ t155 true _ ?side1 ?side2 ?side3 ?side4 ?side5 ?side6 ?side7 ?side8 A34.out).mono ?_
   (case side1 => exact cr HO_147000)
   (case side2 => exact (Kd.R_reads' HO_147000.out).2.1)
   (case side3 => exact cr HO_147001)
   (case side4 => exact (Kd.R_reads' HO_147001.out).2.1)
   (case side5 => exact cr HO154)
   (case side6 => exact (Kd.R_reads' HO154.out).2.1)
   (case side7 => exact cr HO157)
   (case side8 => exact (Kd.R_reads' HO157.out).2.1)
   rintro e w42 ⟨rfl, hb⟩
   refine ⟨_, rfl, ?_⟩
   replace HO_4 := rb HO_4 hb
   replace HO_7 := rb HO_7 hb
   replace HO_147000 := rb HO_147000 hb
   replace HO_147001 := rb HO_147001 hb
   replace HO154 := rb HO154 hb
   replace HO157 := rb HO157 hb
   replace BK128 := bb BK128 hb
   replace BK146 := bb BK146 hb
   replace HB := bs HB hb
   (try clear hb); (try clear hb2); (try clear hk); (try clear hi)
   refine hK.out _ _ ⟨bc0 BK146, bc1 BK146, bc0 BK128, bc1 BK128⟩ (fun hHeld => ?_)
   clear hK K
   refine norm_ (a' := ?_) ?_ ?_; rotate_left; (show Act.put _ (some 44) _ = _; simp only [sqa, sqb, sqc, sqd, i64_w, i32_w]; rfl)
   refine pure_ (i := 4) (N := some 45) (v := ?_) (a' := ?_) #[true, true, true, true, true] rfl rfl (by kernel_rfl) (fun _ _ _ h => h) (Or.inl ⟨by rfl, ?_⟩) ?_ ?_
   rotate_left; (intro w'; go_simp; with_reducible rfl); rotate_left; (simp only [sqa, sqb, sqc, sqd, i64_w, i32_w]; rfl)
   refine done_ (by kernel_rfl) ?_
   have hnb43 := NB146_128.out
   have hnc43 := NB128_146.out
   have hcz44_0 := bc0 BK146
   have hcz44_1 := bc1 BK146
   have hfz44_0 := blk_frozen BK146.out 0
   have hfz44_1 := blk_frozen BK146.out 1
   go_upto_region 14 with (first | ((with_reducible refine gate_callee (f := 23) rfl ?_); refine gl 48 Try.func23 #[.agg #[.slice Ao23 t140.length co23, .slice Ao26 t143.length co26], .int .i64 1] ?_; (with_reducible refine (laws_markVessels.calls kj10 (fun k_ => some k_ = (.slice Ao23 t140.length co23 : Value).ownBlock) (.slice Ao23 t140.length co23) t140 (fun k_ => some k_ = (.slice Ao26 t143.length co26 : Value).ownBlock) (.slice Ao26 t143.length co26) t143 1 t159 t160 t161 w _ ?side1 ?side2 ?side3 ?side4 ?side5 A36.out).mono ?_); (case side1 => repeat (first | (with_reducible first | exact HB.out | apply below_alloc | apply pw_below_drewN | apply below_drew1 | refine below_set ?_ GE128.out | refine below_set ?_ GE146.out) | exact HB.out)); (case side2 => exact Kd.R_tight rfl HO_147000.out); (case side3 => exact fun k_ e_ => (HO_147000.out.1 k_ e_.symm).1.1.2.2); (case side4 => exact Kd.R_tight rfl HO_147001.out); (case side5 => exact fun k_ e_ => (HO_147001.out.1 k_ e_.symm).1.1.2.2); rintro e w45 ⟨rfl, hy0, hy1, hb, hkp⟩; refine ⟨_, rfl, ?_⟩; replace HO_4 := Aside0.mk (Kd.R_mono (ok' := fun k_ => some k_ ≠ (v148 : Value).ownBlock ∧ some k_ ≠ (.slice Ao23 t140.length co23 : Value).ownBlock ∧ some k_ ≠ (.slice Ao26 t143.length co26 : Value).ownBlock ∧ some k_ ≠ (.slice Ao40 t152.length co40 : Value).ownBlock ∧ some k_ ≠ (.slice Ao41 t155.length co41 : Value).ownBlock) (Kd.R_keptB (HO_4.out) hkp (fun k_ hk_ hs_ => Or.elim hs_ (fun e_ => (hk_.1.1.2.1) e_) (fun e_ => (hk_.1.1.2.2) e_))) (fun k_ hk_ => ⟨hk_.1.1.1.1, hk_.1.1.1.2.1, hk_.1.1.1.2.2, hk_.1.1.2, hk_.1.2⟩)); replace HO_7 := Aside0.mk (Kd.R_mono (ok' := fun k_ => some k_ ≠ (v137 : Value).ownBlock ∧ some k_ ≠ (.slice Ao23 t140.length co23 : Value).ownBlock ∧ some k_ ≠ (.slice Ao26 t143.length co26 : Value).ownBlock ∧ some k_ ≠ (.slice Ao40 t152.length co40 : Value).ownBlock ∧ some k_ ≠ (.slice Ao41 t155.length co41 : Value).ownBlock) (Kd.R_keptB (HO_7.out) hkp (fun k_ hk_ hs_ => Or.elim hs_ (fun e_ => (hk_.1.1.2.1) e_) (fun e_ => (hk_.1.1.2.2) e_))) (fun k_ hk_ => ⟨hk_.1.1.1.1, hk_.1.1.1.2.1, hk_.1.1.1.2.2, hk_.1.1.2, hk_.1.2⟩)); replace BK128 := Aside0.mk (blk_kept (bk BK128) hkp (fun hs_ => Or.elim hs_ (fun e_ => (fun e_ => (Kd.R_ne HO_147000.out BK128.out (by decide)) e_) e_) (fun e_ => (fun e_ => (Kd.R_ne HO_147001.out BK128.out (by decide)) e_) e_))); replace BK146 := Aside0.mk (blk_kept (bk BK146) hkp (fun hs_ => Or.elim hs_ (fun e_ => (fun e_ => (Kd.R_ne HO_147000.out BK146.out (by decide)) e_) e_) (fun e_ => (fun e_ => (Kd.R_ne HO_147001.out BK146.out (by decide)) e_) e_))); replace HO_147000 := Aside0.mk (Kd.R_reok rfl hy0 (fun k_ e_ => HO_147000.out.1 k_ e_)); replace HO_147001 := Aside0.mk (Kd.R_reok rfl hy1 (fun k_ e_ => HO_147001.out.1 k_ e_)); replace HO154 := Aside0.mk (Kd.R_mono (ok' := fun k_ => some k_ ≠ (v137 : Value).ownBlock ∧ some k_ ≠ (v148 : Value).ownBlock ∧ some k_ ≠ (.slice Ao23 t140.length co23 : Value).ownBlock ∧ some k_ ≠ (.slice Ao26 t143.length co26 : Value).ownBlock ∧ some k_ ≠ (.slice Ao41 t155.length co41 : Value).ownBlock) (Kd.R_keptB (HO154.out) hkp (fun k_ hk_ hs_ => Or.elim hs_ (fun e_ => (hk_.1.2) e_) (fun e_ => (hk_.2) e_))) (fun k_ hk_ => ⟨hk_.1.1.1.1.2, hk_.1.1.1.2, hk_.1.1.2, hk_.1.2, hk_.1.1.1.1.1⟩)); replace HO157 := Aside0.mk (Kd.R_mono (ok' := fun k_ => some k_ ≠ (v137 : Value).ownBlock ∧ some k_ ≠ (v148 : Value).ownBlock ∧ some k_ ≠ (.slice Ao23 t140.length co23 : Value).ownBlock ∧ some k_ ≠ (.slice Ao26 t143.length co26 : Value).ownBlock ∧ some k_ ≠ (.slice Ao40 t152.length co40 : Value).ownBlock) (Kd.R_keptB (HO157.out) hkp (fun k_ hk_ hs_ => Or.elim hs_ (fun e_ => (hk_.1.2) e_) (fun e_ => (hk_.2) e_))) (fun k_ hk_ => ⟨hk_.1.1.1.1.2, hk_.1.1.1.2, hk_.1.1.2, hk_.1.2, hk_.1.1.1.1.1⟩)); replace HB := Aside0.mk (hb); (try clear hb); (try clear hkp); (try clear hy0); (try clear hy1)))
   (try simp only [Act.put, List.setIfInBounds_toArray, List.set_cons_zero, List.set_cons_succ])
   go_cut [61] (fun v61 wc => ∃ (kq : Nat) (x61_36 : Bool), v61 = .bool x61_36 ∧ Aside0 (laws_FnExactSumsOf.j1 kq t136 t139 t147 x61_36 l0_0 l0_1 = some r) ∧ Aside0 (kq ≤ kj10) ∧ Aside0 (Kd.R (Kd.int .i64) 3 wc w.heap.size (fun k_ => some k_ ≠ (v148 : Value).ownBlock ∧ some k_ ≠ ((.slice Ao23 t140.length co23) : Value).ownBlock ∧ some k_ ≠ ((.slice Ao26 t143.length co26) : Value).ownBlock) v137 t136) ∧ Aside0 (Kd.R (Kd.int .i64) 3 wc w.heap.size (fun k_ => some k_ ≠ (v137 : Value).ownBlock ∧ some k_ ≠ ((.slice Ao23 t140.length co23) : Value).ownBlock ∧ some k_ ≠ ((.slice Ao26 t143.length co26) : Value).ownBlock) v148 t147) ∧ Aside0 (Kd.R (Kd.int .i64) 3 wc w.heap.size (fun k_ => some k_ ≠ (v137 : Value).ownBlock ∧ some k_ ≠ (v148 : Value).ownBlock ∧ some k_ ≠ ((.slice Ao26 t143.length co26) : Value).ownBlock) (.slice Ao23 t140.length co23) t160) ∧ Aside0 (Kd.R (Kd.int .i64) 3 wc w.heap.size (fun k_ => some k_ ≠ (v137 : Value).ownBlock ∧ some k_ ≠ (v148 : Value).ownBlock ∧ some k_ ≠ ((.slice Ao23 t140.length co23) : Value).ownBlock) (.slice Ao26 t143.length co26) t161) ∧ Aside0 (wc.heap[gb128]? = some (.cells #[(.slice A0_0 l0_0.length c0_0), (.slice A0_1 l0_1.length c0_1)] 32 (0, 0))) ∧ Aside0 (wc.heap[gb146]? = some (.cells #[(.slice Ao23 t140.length co23), (.slice Ao26 t143.length co26)] 35 (0, 0))) ∧ Aside0 (Below w.heap.size w wc))
   case first =>
    have H := HC37.out
    clear HC37
    by_cases c46 : t159 < 0
    ·rw [if_pos c46] at H
     have c46b0 : decide (t159 < 0) = true := decide_eq_true c46
     clear c46
     (first | rw [c46b0] | (simp only [i64_w, i32_w]; rw [c46b0]) | skip)
     exact absurd H (by rw [hrt.out]; cases kj10 <;> simp [laws_FnExactSumsOf.j1])
    rw [if_neg c46] at H
    have c46b0 : decide (t159 < 0) = false := decide_eq_false c46
    clear c46
    (first | rw [c46b0] | (simp only [i64_w, i32_w]; rw [c46b0]) | skip)
    replace H := Option.bind_eq_some_iff.mp H
    obtain ⟨t162, A470, H⟩ := H
    (try dsimp only at H)
    have A47 := Aside0.mk A470
    clear A470
    by_cases c48 : t162 = true
    rotate_left
    ·replace c48 := Bool.eq_false_iff.mpr c48
     subst c48
     have H1 : (laws_FnExactSumsOf.j1 kj10 t136 t139 t147 true l0_0 l0_1) = some r := by rw [if_neg (show ¬ (false = true) by decide)] at H; exact H
     clear H
     have H := H1
     clear H1
     exact absurd H (by rw [hrt.out]; cases kj10 <;> simp [laws_FnExactSumsOf.j1])
    subst c48
    have H1 : (laws_FnExactSumsOf.j1 kj10 t136 t139 t147 (t150 != t139) l0_0 l0_1) = some r := by rw [if_pos rfl] at H; exact H
    clear H
    have H := H1
    clear H1
    have H' := Aside0.mk H
    clear H
    obtain ⟨Ao49, co49, eo49⟩ := Kd.R_slice HO_7.out
    subst eo49
    obtain ⟨Ao50, co50, eo50⟩ := Kd.R_slice HO_4.out
    subst eo50
    go_wp2_with (first | (go_at_call 32; (with_reducible refine (laws_eqIntS.calls kj10 _ _ t147 _ _ t136 true _ ?side1 ?side2 ?side3 ?side4 A47.out).mono ?_); (case side1 => exact cr HO_7); (case side2 => exact (Kd.R_reads' HO_7.out).2.1); (case side3 => exact cr HO_4); (case side4 => exact (Kd.R_reads' HO_4.out).2.1); rintro e w' ⟨rfl, ⟨nd, rfl⟩⟩))
    go_meet
    case rel => exact ⟨_, ((t150 != t139)), (by first | rfl | (simp; done) | (simp [*]; done)), H', ⟨by have := HJ10.out; first | omega | exact Nat.le_refl _⟩, ⟨by exact Kd.R_mono HO_4.out (fun _ hk => ⟨hk.1, ⟨hk.2.1, hk.2.2.1⟩⟩)⟩, ⟨by exact Kd.R_mono HO_7.out (fun _ hk => ⟨hk.1, ⟨hk.2.1, hk.2.2.1⟩⟩)⟩, ⟨by exact Kd.R_mono HO_147000.out (fun _ hk => ⟨hk.1.1.1, ⟨hk.1.1.2.1, hk.1.1.2.2⟩⟩)⟩, ⟨by exact Kd.R_mono HO_147001.out (fun _ hk => ⟨hk.1.1.1, ⟨hk.1.1.2.1, hk.1.1.2.2⟩⟩)⟩, ⟨bk BK128⟩, ⟨bk BK146⟩, ⟨bw HB⟩⟩
   case rest =>
    clear HC37
    try clear c1
    try clear c2
    try clear p2
    try clear c3
    try clear c3b0
    try clear c4
    try clear c10
    try clear c18
    try clear c20
    try clear c22
    try clear c23
    try clear c24
    try clear c29
    try clear c32
    try clear c35
    try clear c36
    try clear c43
    try clear c46
    try clear c46b0
    try clear c48
    try clear hcz13_0
    try clear hcz13_1
    try clear hcz15_0
    try clear hcz15_1
    try clear hcz20_0
    try clear hcz20_1
    try clear hcz25_0
    try clear hcz25_1
    try clear hcz44_0
    try clear hcz44_1
    try clear hcz5_0
    try clear hcz5_1
    try clear hfz13_0
    try clear hfz13_1
    try clear hfz15_0
    try clear hfz15_1
    try clear hfz20_0
    try clear hfz20_1
    try clear hfz25_0
    try clear hfz25_1
    try clear hfz44_0
    try clear hfz44_1
    try clear hfz5_0
    try clear hfz5_1
    try clear p2
    obtain ⟨kq, x61_36, rfl, HA, HJ36, HO_4, HO_7, HO_147000, HO_147001, BK128, BK146, HB⟩ := hcut
    have hl147000_36 := (Kd.R_reads' HO_147000.out).1
    rw [hl147000_36] at HO_147000
    (try simp only [hl147000_36])
    (try simp only [hl147000_36] at BK128)
    (try simp only [hl147000_36] at BK146)
    (try simp only [hl147000_36] at HO_4)
    (try simp only [hl147000_36] at HO_7)
    (try simp only [hl147000_36] at HO_147001)
    have hl147001_36 := (Kd.R_reads' HO_147001.out).1
    rw [hl147001_36] at HO_147001
    (try simp only [hl147001_36])
    (try simp only [hl147001_36] at BK128)
    (try simp only [hl147001_36] at BK146)
    (try simp only [hl147001_36] at HO_4)
    (try simp only [hl147001_36] at HO_7)
    (try simp only [hl147001_36] at HO_147000)
    cases kq with
    | zero => exact absurd HA.out (by simp [laws_FnExactSumsOf.j1])
    | succ kj36 =>
     have H := HA.out
     clear HA
     simp only [laws_FnExactSumsOf.j1] at H
     by_cases c51 : x61_36 = true
     ·subst c51
      have H1 : (some false) = some r := by rw [if_pos rfl] at H; exact H
      clear H
      have H := H1
      clear H1
      exact absurd ((Option.some.inj H).trans hrt.out) (by decide)
     replace c51 := Bool.eq_false_iff.mpr c51
     subst c51
     have H1 : ((laws_markIntS.f kj36 t147 1).bind fun bt163 => ((laws_heldIntS.f kj36 bt163.2 1).bind fun t165 => (if t165 < 0 then (some false) else (if t165 = bt163.1 then ((laws_toVessels.f kj36 l0_0 l0_1).bind fun bt166 => ((impl_SumsOf.f kj36 bt166.1 bt166.2).bind fun bt172 => ((laws_eqIntS.f kj36 bt172.1 t136).bind fun t176 => (if t176 = true then (laws_FnExactSumsOf.j2 kj36 bt163.2 bt163.1 (bt172.2 != t139)) else (laws_FnExactSumsOf.j2 kj36 bt163.2 bt163.1 true))))) else (some false))))) = some r := by rw [if_neg (show ¬ (false = true) by decide)] at H; exact H
     clear H
     have H := H1
     clear H1
     replace H := Option.bind_eq_some_iff.mp H
     obtain ⟨⟨t163, t164⟩, A520, H⟩ := H
     (try dsimp only at H)
     have A52 := Aside0.mk A520
     clear A520
     replace H := Option.bind_eq_some_iff.mp H
     obtain ⟨t165, A530, H⟩ := H
     (try dsimp only at H)
     have A53 := Aside0.mk A530
     clear A530
     by_cases c54 : t165 < 0
     ·rw [if_pos c54] at H
      have c54b0 : decide (t165 < 0) = true := decide_eq_true c54
      clear c54
      exact absurd ((Option.some.inj H).trans hrt.out) (by decide)
     rw [if_neg c54] at H
     have c54b0 : decide (t165 < 0) = false := decide_eq_false c54
     clear c54
     by_cases c55 : t165 = t163
     rotate_left
     ·rw [if_neg c55] at H
      have c55b0 : (t165 == t163) = false := beq_eq_false_iff_ne.mpr c55
      have c55b1 : (t165 != t163) = true := bne_iff_ne.mpr c55
      exact absurd ((Option.some.inj H).trans hrt.out) (by decide)
     rw [if_pos c55] at H
     have c55b0 : (t165 == t163) = true := beq_iff_eq.mpr c55
     have c55b1 : (t165 != t163) = false := bne_eq_false_iff_eq.mpr c55
     clear c55
     replace H := Option.bind_eq_some_iff.mp H
     obtain ⟨⟨t166, t169⟩, A560, H⟩ := H
     (try dsimp only at H)
     have A56 := Aside0.mk A560
     clear A560
     replace H := Option.bind_eq_some_iff.mp H
     obtain ⟨⟨t172, t175⟩, A570, H⟩ := H
     (try dsimp only at H)
     have A57 := Aside0.mk A570
     clear A570
     have HC58 := Aside0.mk H
     clear H
     obtain ⟨Ao59, co59, eo59⟩ := Kd.R_slice HO_7.out
     subst eo59
     go_upto_region 25 with (first | ((with_reducible refine gate_callee (f := 33) rfl ?_); refine gl 64 Try.func33 #[.slice Ao59 t147.length co59, .int .i64 1] ?_; (with_reducible refine (laws_markIntS.calls kj36 (fun k_ => some k_ = (.slice Ao59 t147.length co59 : Value).ownBlock) (.slice Ao59 t147.length co59) t147 1 t163 t164 w _ ?side1 ?side2 A52.out).mono ?_); (case side1 => repeat (first | (with_reducible first | exact HB.out | apply below_alloc | apply pw_below_drewN | apply below_drew1 | refine below_set ?_ GE128.out | refine below_set ?_ GE146.out) | exact HB.out)); (case side2 => exact Kd.R_tight rfl HO_7.out); rintro e w60 ⟨rfl, hy0, hb, hkp⟩; refine ⟨_, rfl, ?_⟩; replace HO_4 := Aside0.mk (Kd.R_mono (ok' := fun k_ => some k_ ≠ (.slice Ao59 t147.length co59 : Value).ownBlock ∧ some k_ ≠ (.slice Ao23 t160.length co23 : Value).ownBlock ∧ some k_ ≠ (.slice Ao26 t161.length co26 : Value).ownBlock) (Kd.R_keptB (HO_4.out) hkp (fun k_ hk_ hs_ => (hk_.1) hs_)) (fun k_ hk_ => ⟨hk_.1.1, hk_.1.2.1, hk_.1.2.2⟩)); replace HO_147000 := Aside0.mk (Kd.R_mono (ok' := fun k_ => some k_ ≠ (v137 : Value).ownBlock ∧ some k_ ≠ (.slice Ao59 t147.length co59 : Value).ownBlock ∧ some k_ ≠ (.slice Ao26 t161.length co26 : Value).ownBlock) (Kd.R_keptB (HO_147000.out) hkp (fun k_ hk_ hs_ => (hk_.2.1) hs_)) (fun k_ hk_ => ⟨hk_.1.1, hk_.1.2.1, hk_.1.2.2⟩)); replace HO_147001 := Aside0.mk (Kd.R_mono (ok' := fun k_ => some k_ ≠ (v137 : Value).ownBlock ∧ some k_ ≠ (.slice Ao59 t147.length co59 : Value).ownBlock ∧ some k_ ≠ (.slice Ao23 t160.length co23 : Value).ownBlock) (Kd.R_keptB (HO_147001.out) hkp (fun k_ hk_ hs_ => (hk_.2.1) hs_)) (fun k_ hk_ => ⟨hk_.1.1, hk_.1.2.1, hk_.1.2.2⟩)); replace BK128 := Aside0.mk (blk_kept (bk BK128) hkp (fun hs_ => (fun e_ => (Kd.R_ne HO_7.out BK128.out (by decide)) e_) hs_)); replace BK146 := Aside0.mk (blk_kept (bk BK146) hkp (fun hs_ => (fun e_ => (Kd.R_ne HO_7.out BK146.out (by decide)) e_) hs_)); replace HO_7 := Aside0.mk (Kd.R_reok rfl hy0 (fun k_ e_ => HO_7.out.1 k_ e_)); replace HB := Aside0.mk (hb); (try clear hb); (try clear hkp); (try clear hy0)) | ((with_reducible refine gate_callee (f := 34) rfl ?_); refine goesL_ (some 67) rfl rfl Try.func34 (by kernel_rfl) rfl #[.slice Ao59 t164.length co59, .int .i64 1] rfl (by (try simp only [List.map_toArray, List.map_cons, List.map_nil]); first | done | (rw [show t164.length = t147.length from (Kd.R_reads' HO_7.out).1.symm] <;> rfl) | rfl | (simp only [List.length_drop, List.length_take]; rfl)) ?_; (with_reducible refine (laws_heldIntS.calls kj36 _ _ t164 1 t165 _ ?side1 ?side2 A53.out).mono ?_); (case side1 => exact cr HO_7); (case side2 => rw [show t164.length = t147.length from (Kd.R_reads' HO_7.out).1.symm]; exact (Kd.R_reads' HO_7.out).2.1); rintro e w' ⟨rfl, ⟨nd, rfl⟩⟩; refine ⟨_, rfl, ?_⟩; have hnb61 := NB128_146.out; have hnc61 := NB146_128.out; have hcz62_0 := bc0 BK128; have hcz62_1 := bc1 BK128; have hfz62_0 := blk_frozen BK128.out 0; have hfz62_1 := blk_frozen BK128.out 1) | ((with_reducible refine gate_callee (f := 20) rfl ?_); refine gl 75 Try.func20 #[.agg #[.slice A0_0 l0_0.length c0_0, .slice A0_1 l0_1.length c0_1]] ?_; (with_reducible refine (laws_toVessels.calls kj36 _ _ l0_0 _ _ l0_1 t166 t169 _ ?side1 ?side2 ?side3 ?side4 A56.out).mono ?_); (case side1 => repeat (first | exact (Kd.C_below HR0_0.out (bw HB)) | (with_reducible refine Kd.C_alloc ?_ _) | (with_reducible refine Kd.C_drewN ?_ _) | (with_reducible refine Kd.C_drew ?_))); (case side2 => exact HC0_0.out); (case side3 => repeat (first | exact (Kd.C_below HR0_1.out (bw HB)) | (with_reducible refine Kd.C_alloc ?_ _) | (with_reducible refine Kd.C_drewN ?_ _) | (with_reducible refine Kd.C_drew ?_))); (case side4 => exact HC0_1.out); rintro e w63 ⟨v167, v170, rfl, ho0, ho1, hb⟩; refine ⟨_, rfl, ?_⟩; have HO168 := Aside0.mk (Kd.R_lower (Kd.R_new' (Kd.R_new' (Kd.R_new' (Kd.R_new' ho0 (Kd.R_lt (rk HO_4))) (Kd.R_lt (rk HO_7))) (Kd.R_lt (rk HO_147000))) (Kd.R_lt (rk HO_147001))) (below_size (bw HB))); have HO171 := Aside0.mk (Kd.R_lower (Kd.R_new' (Kd.R_new' (Kd.R_new' (Kd.R_new' ho1 (Kd.R_lt (rk HO_4))) (Kd.R_lt (rk HO_7))) (Kd.R_lt (rk HO_147000))) (Kd.R_lt (rk HO_147001))) (below_size (bw HB))); replace HO_4 := Aside0.mk (Kd.R_mono (Kd.R_told (Kd.R_told (Kd.R_old (rk HO_4) hb) (Kd.R_base ho0)) (Kd.R_base ho1)) (fun _ h_ => h_.1)); replace HO_7 := Aside0.mk (Kd.R_mono (Kd.R_told (Kd.R_told (Kd.R_old (rk HO_7) hb) (Kd.R_base ho0)) (Kd.R_base ho1)) (fun _ h_ => h_.1)); replace HO_147000 := Aside0.mk (Kd.R_mono (Kd.R_told (Kd.R_told (Kd.R_old (rk HO_147000) hb) (Kd.R_base ho0)) (Kd.R_base ho1)) (fun _ h_ => h_.1)); replace HO_147001 := Aside0.mk (Kd.R_mono (Kd.R_told (Kd.R_told (Kd.R_old (rk HO_147001) hb) (Kd.R_base ho0)) (Kd.R_base ho1)) (fun _ h_ => h_.1)); replace BK128 := bb BK128 hb; replace BK146 := bb BK146 hb; replace HB := bs HB hb; (try clear hb); (try clear ho0); (try clear ho1); obtain ⟨Ao64, co64, eo64⟩ := Kd.R_slice HO168.out; subst eo64; obtain ⟨Ao65, co65, eo65⟩ := Kd.R_slice HO171.out; subst eo65) | ((with_reducible refine gate_callee (f := 36) rfl ?_); refine gl 76 Try.func36 #[.agg #[.slice Ao64 t166.length co64, .slice Ao65 t169.length co65]] ?_; (with_reducible refine (impl_SumsOf.calls kj36 _ _ t166 _ _ t169 t172 t175 _ ?side1 ?side2 ?side3 ?side4 A57.out).mono ?_); (case side1 => exact cr HO168); (case side2 => exact (Kd.R_reads' HO168.out).2.1); (case side3 => exact cr HO171); (case side4 => exact (Kd.R_reads' HO171.out).2.1); rintro e w66 ⟨v173, rfl, ho0, hb⟩; refine ⟨_, rfl, ?_⟩; have HO174 := Aside0.mk (Kd.R_lower (Kd.R_new' (Kd.R_new' (Kd.R_new' (Kd.R_new' (Kd.R_new' (Kd.R_new' ho0 (Kd.R_lt (rk HO_4))) (Kd.R_lt (rk HO_7))) (Kd.R_lt (rk HO_147000))) (Kd.R_lt (rk HO_147001))) (Kd.R_lt (rk HO168))) (Kd.R_lt (rk HO171))) (below_size (bw HB))); replace HO_4 := Aside0.mk (Kd.R_elder' (rk HO_4) (Kd.R_base ho0) hb); replace HO_7 := Aside0.mk (Kd.R_elder' (rk HO_7) (Kd.R_base ho0) hb); replace HO_147000 := Aside0.mk (Kd.R_elder' (rk HO_147000) (Kd.R_base ho0) hb); replace HO_147001 := Aside0.mk (Kd.R_elder' (rk HO_147001) (Kd.R_base ho0) hb); replace HO168 := Aside0.mk (Kd.R_elder' (rk HO168) (Kd.R_base ho0) hb); replace HO171 := Aside0.mk (Kd.R_elder' (rk HO171) (Kd.R_base ho0) hb); replace BK128 := bb BK128 hb; replace BK146 := bb BK146 hb; replace HB := bs HB hb; (try clear hb); (try clear ho0)))
     (try simp only [Act.put, List.setIfInBounds_toArray, List.set_cons_zero, List.set_cons_succ])
     go_cut [87] (fun v87 wc => ∃ (kq : Nat) (x87_57 : Bool), v87 = .bool x87_57 ∧ Aside0 (laws_FnExactSumsOf.j2 kq t164 t163 x87_57 = some r) ∧ Aside0 (kq ≤ kj36) ∧ Aside0 (Kd.R (Kd.int .i64) 3 wc w.heap.size (fun k_ => some k_ ≠ ((.slice Ao23 t160.length co23) : Value).ownBlock ∧ some k_ ≠ ((.slice Ao26 t161.length co26) : Value).ownBlock) (.slice Ao59 t147.length co59) t164) ∧ Aside0 (Kd.R (Kd.int .i64) 3 wc w.heap.size (fun k_ => some k_ ≠ ((.slice Ao59 t147.length co59) : Value).ownBlock ∧ some k_ ≠ ((.slice Ao26 t161.length co26) : Value).ownBlock) (.slice Ao23 t160.length co23) t160) ∧ Aside0 (Kd.R (Kd.int .i64) 3 wc w.heap.size (fun k_ => some k_ ≠ ((.slice Ao59 t147.length co59) : Value).ownBlock ∧ some k_ ≠ ((.slice Ao23 t160.length co23) : Value).ownBlock) (.slice Ao26 t161.length co26) t161) ∧ Aside0 (wc.heap[gb128]? = some (.cells #[(.slice A0_0 l0_0.length c0_0), (.slice A0_1 l0_1.length c0_1)] 32 (0, 0))) ∧ Aside0 (wc.heap[gb146]? = some (.cells #[(.slice Ao23 t160.length co23), (.slice Ao26 t161.length co26)] 35 (0, 0))) ∧ Aside0 (Below w.heap.size w wc))
     case first =>
      have H := HC58.out
      clear HC58
      replace H := Option.bind_eq_some_iff.mp H
      obtain ⟨t176, A670, H⟩ := H
      (try dsimp only at H)
      have A67 := Aside0.mk A670
      clear A670
      by_cases c68 : t176 = true
      rotate_left
      ·replace c68 := Bool.eq_false_iff.mpr c68
       subst c68
       have H1 : (laws_FnExactSumsOf.j2 kj36 t164 t163 true) = some r := by rw [if_neg (show ¬ (false = true) by decide)] at H; exact H
       clear H
       have H := H1
       clear H1
       exact absurd H (by rw [hrt.out]; cases kj36 <;> simp [laws_FnExactSumsOf.j2])
      subst c68
      have H1 : (laws_FnExactSumsOf.j2 kj36 t164 t163 (t175 != t139)) = some r := by rw [if_pos rfl] at H; exact H
      clear H
      have H := H1
      clear H1
      have H' := Aside0.mk H
      clear H
      obtain ⟨Ao69, co69, eo69⟩ := Kd.R_slice HO174.out
      subst eo69
      obtain ⟨Ao70, co70, eo70⟩ := Kd.R_slice HO_4.out
      subst eo70
      go_wp2_with (first | ((with_reducible refine gate_callee (f := 32) rfl ?_); refine gl 81 Try.func32 #[.slice Ao69 t172.length co69, .slice Ao70 t136.length co70] ?_; (with_reducible refine (laws_eqIntS.calls kj36 _ _ t172 _ _ t136 true _ ?side1 ?side2 ?side3 ?side4 A67.out).mono ?_); (case side1 => exact cr HO174); (case side2 => exact (Kd.R_reads' HO174.out).2.1); (case side3 => exact cr HO_4); (case side4 => exact (Kd.R_reads' HO_4.out).2.1); rintro e w' ⟨rfl, ⟨nd, rfl⟩⟩; refine ⟨_, rfl, ?_⟩))
      go_meet
      case rel => exact ⟨_, ((t175 != t139)), (by first | rfl | (simp; done) | (simp [*]; done)), H', ⟨by have := HJ10.out; have := HJ36.out; first | omega | exact Nat.le_refl _⟩, ⟨by (try simp only [hl147000_36]); (try simp only [hl147001_36]); exact Kd.R_mono HO_7.out (fun _ hk => ⟨hk.1.1.1.2.1, hk.1.1.1.2.2⟩)⟩, ⟨by (try simp only [hl147000_36]); (try simp only [hl147001_36]); exact Kd.R_mono HO_147000.out (fun _ hk => ⟨hk.1.1.1.2.1, hk.1.1.1.2.2⟩)⟩, ⟨by (try simp only [hl147000_36]); (try simp only [hl147001_36]); exact Kd.R_mono HO_147001.out (fun _ hk => ⟨hk.1.1.1.2.1, hk.1.1.1.2.2⟩)⟩, ⟨by (try simp only [hl147000_36]); (try simp only [hl147001_36]); exact bk BK128⟩, ⟨by (try simp only [hl147000_36]); (try simp only [hl147001_36]); exact bk BK146⟩, ⟨bw HB⟩⟩
     case rest =>
      clear HC58
      try clear c1
      try clear c2
      try clear p2
      try clear c3
      try clear c3b0
      try clear c4
      try clear c5
      try clear c6
      try clear c10
      try clear c18
      try clear c20
      try clear c22
      try clear c23
      try clear c24
      try clear c29
      try clear c32
      try clear c33
      try clear c34
      try clear c35
      try clear c36
      try clear c43
      try clear c46
      try clear c46b0
      try clear c48
      try clear c51
      try clear c54
      try clear c54b0
      try clear c55
      try clear c55b0
      try clear c55b1
      try clear c61
      try clear c68
      try clear hcz13_0
      try clear hcz13_1
      try clear hcz15_0
      try clear hcz15_1
      try clear hcz20_0
      try clear hcz20_1
      try clear hcz25_0
      try clear hcz25_1
      try clear hcz44_0
      try clear hcz44_1
      try clear hcz5_0
      try clear hcz5_1
      try clear hcz62_0
      try clear hcz62_1
      try clear hfz13_0
      try clear hfz13_1
      try clear hfz15_0
      try clear hfz15_1
      try clear hfz20_0
      try clear hfz20_1
      try clear hfz25_0
      try clear hfz25_1
      try clear hfz44_0
      try clear hfz44_1
      try clear hfz5_0
      try clear hfz5_1
      try clear hfz62_0
      try clear hfz62_1
      try clear p2
      obtain ⟨kq, x87_57, rfl, HA, HJ57, HO_7, HO_147000, HO_147001, BK128, BK146, HB⟩ := hcut
      have hl7_57 := (Kd.R_reads' HO_7.out).1
      rw [hl7_57] at HO_7
      (try simp only [hl7_57])
      (try simp only [hl7_57] at BK128)
      (try simp only [hl7_57] at BK146)
      (try simp only [hl7_57] at HO_147000)
      (try simp only [hl7_57] at HO_147001)
      cases kq with
      | zero => exact absurd HA.out (by simp [laws_FnExactSumsOf.j2])
      | succ kj57 =>
       have H := HA.out
       clear HA
       simp only [laws_FnExactSumsOf.j2] at H
       by_cases c71 : x87_57 = true
       ·subst c71
        have H1 : (some false) = some r := by rw [if_pos rfl] at H; exact H
        clear H
        have H := H1
        clear H1
        exact absurd ((Option.some.inj H).trans hrt.out) (by decide)
       replace c71 := Bool.eq_false_iff.mpr c71
       subst c71
       have H1 : ((laws_heldIntS.f kj57 t164 1).bind fun t177 => (if t177 < 0 then (some false) else (if t177 = t163 then (some true) else (some false)))) = some r := by rw [if_neg (show ¬ (false = true) by decide)] at H; exact H
       clear H
       have H := H1
       clear H1
       replace H := Option.bind_eq_some_iff.mp H
       obtain ⟨t177, A720, H⟩ := H
       (try dsimp only at H)
       have A72 := Aside0.mk A720
       clear A720
       by_cases c73 : t177 < 0
       ·rw [if_pos c73] at H
        have c73b0 : decide (t177 < 0) = true := decide_eq_true c73
        clear c73
        exact absurd ((Option.some.inj H).trans hrt.out) (by decide)
       rw [if_neg c73] at H
       have c73b0 : decide (t177 < 0) = false := decide_eq_false c73
       clear c73
       by_cases c74 : t177 = t163
       rotate_left
       ·rw [if_neg c74] at H
        have c74b0 : (t177 == t163) = false := beq_eq_false_iff_ne.mpr c74
        have c74b1 : (t177 != t163) = true := bne_iff_ne.mpr c74
        exact absurd ((Option.some.inj H).trans hrt.out) (by decide)
       rw [if_pos c74] at H
       have c74b0 : (t177 == t163) = true := beq_iff_eq.mpr c74
       have c74b1 : (t177 != t163) = false := bne_eq_false_iff_eq.mpr c74
       clear c74
       obtain rfl := Option.some.inj H
       go_wp2_with (first | ((with_reducible refine gate_callee (f := 34) rfl ?_); refine gl 90 Try.func34 #[.slice Ao59 t164.length co59, .int .i64 1] ?_; (with_reducible refine (laws_heldIntS.calls kj57 _ _ t164 1 t177 _ ?side1 ?side2 A72.out).mono ?_); (case side1 => exact cr HO_7); (case side2 => exact (Kd.R_reads' HO_7.out).2.1); rintro e w' ⟨rfl, ⟨nd, rfl⟩⟩; refine ⟨_, rfl, ?_⟩))
       go_ret
       exact ⟨by first | rfl | (simp [errW_none, errW_some] <;> rfl) | (simp [*, errW_none, errW_some] <;> rfl), bw HB⟩
end Go.Proofs.Ytieioddimkafbaa.V
