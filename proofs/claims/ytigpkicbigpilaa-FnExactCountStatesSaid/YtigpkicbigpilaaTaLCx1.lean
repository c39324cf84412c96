-- Functions of the program as plain functions, and that the calls come to them. Written by a program (ownprint.py); nothing here is trusted: Lean checks it.
import Derived.Test.YtigpkicbigpilaaTaVx4
import Derived.Test.YtigpkicbigpilaaTaVsC
import Derived.Test.YtigpkicbigpilaaTaViC
namespace Go.Proofs.Ytigpkicbigpilaa.V
open Go.RowKit Go.Proofs.YtigpkicbigpilaaW.PrintWords Go.Proofs.YtigpkicbigpilaaW.PrintLast Go.Proofs.YtigpkicbigpilaaW.PrintMore Go.Proofs.Ytigpkicbigpilaa.Sq
attribute [local go_sem] max2_int min2_int max_two min_two max_three min_three max_four min_four   -- for this text's walks alone
set_option linter.unusedVariables false
set_option linter.unusedSimpArgs false
def laws_FnExactCountStates.j0 : Nat → Bool → List Int → List Int → List Int → List Int → Option (Bool)
 | 0, _, _, _, _, _ => none
 | k + 1, x38, x112000, x112001, x128000, x128001 => if x38 = true then (some false) else ((laws_toVessels.f k x112000 x112001).bind fun bt130 => ((laws_eqVessels.f k x128000 x128001 bt130.1 bt130.2).bind fun t136 => (if t136 = true then (some true) else (some false))))
def laws_FnExactCountStates.f (k : Nat) (l0_0 : List Int) (l0_1 : List Int) (a1 : Bool) : Option (Bool) := (laws_szVessels.f l0_0 l0_1 1048576).bind fun t112 => (if t112 < 0 then (some true) else ((laws_toVessels.f k l0_0 l0_1).bind fun bt113 => ((spec_CountStates.f k bt113.1 bt113.2 a1).bind fun bt119 => ((laws_toVessels.f k l0_0 l0_1).bind fun bt121 => ((impl_CountStates.f k bt121.1 bt121.2 a1).bind fun bt128 => (if bt128.1 = bt119.1 then (laws_FnExactCountStates.j0 k (bt128.2 != bt119.2) l0_0 l0_1 bt121.1 bt121.2) else (laws_FnExactCountStates.j0 k true l0_0 l0_1 bt121.1 bt121.2)))))))
set_option maxHeartbeats 8000000 in
set_option maxRecDepth 100000 in
theorem laws_FnExactCountStates.calls (k : Nat) (A0_0 : Option Addr) (c0_0 : Nat) (l0_0 : List Int) (A0_1 : Option Addr) (c0_1 : Nat) (l0_1 : List Int) (a1 : Bool) (r : Bool) (w : World) (hr0_0 : Kd.C (Kd.int .i64) w A0_0 l0_0.length l0_0) (hc0_0 : l0_0.length ≤ c0_0) (hr0_1 : Kd.C (Kd.int .i64) w A0_1 l0_1.length l0_1) (hc0_1 : l0_1.length ≤ c0_1) (hrt : Aside0 (r = true)) (h : laws_FnExactCountStates.f k l0_0 l0_1 a1 = some r) :
  Calls Try.prog 6 #[.agg #[.slice A0_0 l0_0.length c0_0, .slice A0_1 l0_1.length c0_1], .bool a1] w fun e w' => e = .returned (.bool r) ∧ Below w.heap.size w w' := by
 have hu24 := Try.underlying24
 have hu29 := Try.underlying29
 have HR0_0 := Aside0.mk hr0_0
 have HC0_0 := Aside0.mk hc0_0
 clear hr0_0 hc0_0
 have HR0_1 := Aside0.mk hr0_1
 have HC0_1 := Aside0.mk hc0_1
 clear hr0_1 hc0_1
 have HB := Aside0.mk (Below.refl w.heap.size w)
 have H : ((laws_szVessels.f l0_0 l0_1 1048576).bind fun t112 => (if t112 < 0 then (some true) else ((laws_toVessels.f k l0_0 l0_1).bind fun bt113 => ((spec_CountStates.f k bt113.1 bt113.2 a1).bind fun bt119 => ((laws_toVessels.f k l0_0 l0_1).bind fun bt121 => ((impl_CountStates.f k bt121.1 bt121.2 a1).bind fun bt128 => (if bt128.1 = bt119.1 then (laws_FnExactCountStates.j0 k (bt128.2 != bt119.2) l0_0 l0_1 bt121.1 bt121.2) else (laws_FnExactCountStates.j0 k true l0_0 l0_1 bt121.1 bt121.2)))))))) = some r := h
 clear h
 replace H := Option.bind_eq_some_iff.mp H
 obtain ⟨t112, A30, H⟩ := H
 replace H : (if t112 < 0 then (some true) else ((laws_toVessels.f k l0_0 l0_1).bind fun bt113 => ((spec_CountStates.f k bt113.1 bt113.2 a1).bind fun bt119 => ((laws_toVessels.f k l0_0 l0_1).bind fun bt121 => ((impl_CountStates.f k bt121.1 bt121.2 a1).bind fun bt128 => (if bt128.1 = bt119.1 then (laws_FnExactCountStates.j0 k (bt128.2 != bt119.2) l0_0 l0_1 bt121.1 bt121.2) else (laws_FnExactCountStates.j0 k true l0_0 l0_1 bt121.1 bt121.2))))))) = some r := H
 have A3 := Aside0.mk A30
 clear A30
 by_cases c4 : t112 < 0
 ·rw [if_pos c4] at H
  have c4b0 : decide (t112 < 0) = true := decide_eq_true c4
  clear c4
  obtain rfl := Option.some.inj H
  go_enter Try.func6, Try.ntmps6
  go_wp2_with (first | ((with_reducible refine gate_dst (N := 2) rfl ?_); refine bx 2 #[.slice A0_0 l0_0.length c0_0, .slice A0_1 l0_1.length c0_1] 24 ?_; intro gb111 hg w5 hbox hb; have BK111 := Aside0.mk (hbox); have GW111 := ge HB hg; have GE111 := ge HB hg; replace HB := bs HB hb; clear hb hbox hg; have hcz6_0 := bc0 BK111; have hcz6_1 := bc1 BK111; have hfz6_0 := blk_frozen BK111.out 0; have hfz6_1 := blk_frozen BK111.out 1) | ((with_reducible refine gate_callee (f := 17) rfl ?_); refine gl 13 Try.func17 #[.agg #[.slice A0_0 l0_0.length c0_0, .slice A0_1 l0_1.length c0_1], .int .i64 1048576] ?_; (with_reducible refine (laws_szVessels.calls _ _ l0_0 _ _ l0_1 1048576 t112 _ ?side1 ?side2 ?side3 ?side4 A3.out).mono ?_); (case side1 => exact ck HR0_0 HB); (case side2 => exact HC0_0.out); (case side3 => exact ck HR0_1 HB); (case side4 => exact HC0_1.out); rintro e w7 ⟨rfl, hb⟩; refine ⟨_, rfl, ?_⟩; replace BK111 := bb BK111 hb; replace HB := bs HB hb; (try clear hb)))
  go_ret
  exact ⟨by first | rfl | (simp [errW_none, errW_some] <;> rfl) | (simp [*, errW_none, errW_some] <;> rfl), bw HB⟩
 rw [if_neg c4] at H
 have c4b0 : decide (t112 < 0) = false := decide_eq_false c4
 clear c4
 replace H := Option.bind_eq_some_iff.mp H
 obtain ⟨⟨t113, t116⟩, A80, H⟩ := H
 replace H : ((spec_CountStates.f k t113 t116 a1).bind fun bt119 => ((laws_toVessels.f k l0_0 l0_1).bind fun bt121 => ((impl_CountStates.f k bt121.1 bt121.2 a1).bind fun bt128 => (if bt128.1 = bt119.1 then (laws_FnExactCountStates.j0 k (bt128.2 != bt119.2) l0_0 l0_1 bt121.1 bt121.2) else (laws_FnExactCountStates.j0 k true l0_0 l0_1 bt121.1 bt121.2))))) = some r := H
 have A8 := Aside0.mk A80
 clear A80
 replace H := Option.bind_eq_some_iff.mp H
 obtain ⟨⟨t119, t120⟩, A90, H⟩ := H
 replace H : ((laws_toVessels.f k l0_0 l0_1).bind fun bt121 => ((impl_CountStates.f k bt121.1 bt121.2 a1).bind fun bt128 => (if bt128.1 = t119 then (laws_FnExactCountStates.j0 k (bt128.2 != t120) l0_0 l0_1 bt121.1 bt121.2) else (laws_FnExactCountStates.j0 k true l0_0 l0_1 bt121.1 bt121.2)))) = some r := H
 have A9 := Aside0.mk A90
 clear A90
 replace H := Option.bind_eq_some_iff.mp H
 obtain ⟨⟨t121, t124⟩, A100, H⟩ := H
 replace H : ((impl_CountStates.f k t121 t124 a1).bind fun bt128 => (if bt128.1 = t119 then (laws_FnExactCountStates.j0 k (bt128.2 != t120) l0_0 l0_1 t121 t124) else (laws_FnExactCountStates.j0 k true l0_0 l0_1 t121 t124))) = some r := H
 have A10 := Aside0.mk A100
 clear A100
 replace H := Option.bind_eq_some_iff.mp H
 obtain ⟨⟨t128, t129⟩, A110, H⟩ := H
 replace H : (if t128 = t119 then (laws_FnExactCountStates.j0 k (t129 != t120) l0_0 l0_1 t121 t124) else (laws_FnExactCountStates.j0 k true l0_0 l0_1 t121 t124)) = some r := H
 have A11 := Aside0.mk A110
 clear A110
 have HC12 := Aside0.mk H
 clear H
 go_enter Try.func6, Try.ntmps6
 go_upto_region 8 with (first | ((with_reducible refine gate_dst (N := 2) rfl ?_); refine bx 2 #[.slice A0_0 l0_0.length c0_0, .slice A0_1 l0_1.length c0_1] 24 ?_; intro gb111 hg w13 hbox hb; have BK111 := Aside0.mk (hbox); have GW111 := ge HB hg; have GE111 := ge HB hg; replace HB := bs HB hb; clear hb hbox hg; have hcz14_0 := bc0 BK111; have hcz14_1 := bc1 BK111; have hfz14_0 := blk_frozen BK111.out 0; have hfz14_1 := blk_frozen BK111.out 1) | ((with_reducible refine gate_callee (f := 17) rfl ?_); refine gl 13 Try.func17 #[.agg #[.slice A0_0 l0_0.length c0_0, .slice A0_1 l0_1.length c0_1], .int .i64 1048576] ?_; (with_reducible refine (laws_szVessels.calls _ _ l0_0 _ _ l0_1 1048576 t112 _ ?side1 ?side2 ?side3 ?side4 A3.out).mono ?_); (case side1 => exact ck HR0_0 HB); (case side2 => exact HC0_0.out); (case side3 => exact ck HR0_1 HB); (case side4 => exact HC0_1.out); rintro e w15 ⟨rfl, hb⟩; refine ⟨_, rfl, ?_⟩; replace BK111 := bb BK111 hb; replace HB := bs HB hb; (try clear hb); have hcz16_0 := bc0 BK111; have hcz16_1 := bc1 BK111; have hfz16_0 := blk_frozen BK111.out 0; have hfz16_1 := blk_frozen BK111.out 1) | ((with_reducible refine gate_callee (f := 19) rfl ?_); refine gl 18 Try.func19 #[.agg #[.slice A0_0 l0_0.length c0_0, .slice A0_1 l0_1.length c0_1]] ?_; (with_reducible refine (laws_toVessels.calls k _ _ l0_0 _ _ l0_1 t113 t116 _ ?side1 ?side2 ?side3 ?side4 A8.out).mono ?_); (case side1 => exact ck HR0_0 HB); (case side2 => exact HC0_0.out); (case side3 => exact ck HR0_1 HB); (case side4 => exact HC0_1.out); rintro e w17 ⟨v114, v117, rfl, ho0, ho1, hb⟩; refine ⟨_, rfl, ?_⟩; have HO115 := lo ho0 HB; have HO118 := lo ho1 HB; replace BK111 := bb BK111 hb; replace HB := bs HB hb; (try clear hb); (try clear ho0); (try clear ho1); obtain ⟨Ao18, co18, eo18⟩ := Kd.R_slice HO115.out; subst eo18; obtain ⟨Ao19, co19, eo19⟩ := Kd.R_slice HO118.out; subst eo19) | ((with_reducible refine gate_callee (f := 29) rfl ?_); refine gl 20 Try.func29 #[.agg #[.slice Ao18 t113.length co18, .slice Ao19 t116.length co19], .bool a1] ?_; (with_reducible refine (spec_CountStates.calls k _ _ t113 _ _ t116 a1 t119 t120 _ ?side1 ?side2 ?side3 ?side4 A9.out).mono ?_); (case side1 => exact cr HO115); (case side2 => exact (Kd.R_reads' HO115.out).2.1); (case side3 => exact cr HO118); (case side4 => exact (Kd.R_reads' HO118.out).2.1); rintro e w20 ⟨rfl, hb⟩; refine ⟨_, rfl, ?_⟩; replace HO115 := rb HO115 hb; replace HO118 := rb HO118 hb; replace BK111 := bb BK111 hb; replace HB := bs HB hb; (try clear hb); have hcz21_0 := bc0 BK111; have hcz21_1 := bc1 BK111; have hfz21_0 := blk_frozen BK111.out 0; have hfz21_1 := blk_frozen BK111.out 1) | ((with_reducible refine gate_callee (f := 19) rfl ?_); refine gl 24 Try.func19 #[.agg #[.slice A0_0 l0_0.length c0_0, .slice A0_1 l0_1.length c0_1]] ?_; (with_reducible refine (laws_toVessels.calls k _ _ l0_0 _ _ l0_1 t121 t124 _ ?side1 ?side2 ?side3 ?side4 A10.out).mono ?_); (case side1 => exact ck HR0_0 HB); (case side2 => exact HC0_0.out); (case side3 => exact ck HR0_1 HB); (case side4 => exact HC0_1.out); rintro e w22 ⟨v122, v125, rfl, ho0, ho1, hb⟩; refine ⟨_, rfl, ?_⟩; have HO123 := Aside0.mk (Kd.R_lower (Kd.R_new' (Kd.R_new' ho0 (Kd.R_lt (rk HO115))) (Kd.R_lt (rk HO118))) (below_size (bw HB))); have HO126 := Aside0.mk (Kd.R_lower (Kd.R_new' (Kd.R_new' ho1 (Kd.R_lt (rk HO115))) (Kd.R_lt (rk HO118))) (below_size (bw HB))); replace HO115 := Aside0.mk (Kd.R_mono (Kd.R_told (Kd.R_told (Kd.R_old (rk HO115) hb) (Kd.R_base ho0)) (Kd.R_base ho1)) (fun _ h_ => h_.1)); replace HO118 := Aside0.mk (Kd.R_mono (Kd.R_told (Kd.R_told (Kd.R_old (rk HO118) hb) (Kd.R_base ho0)) (Kd.R_base ho1)) (fun _ h_ => h_.1)); replace BK111 := bb BK111 hb; replace HB := bs HB hb; (try clear hb); (try clear ho0); (try clear ho1)) | ((with_reducible refine gate_dst (N := 8) rfl ?_); refine bx 8 #[.slice none 0 0, .slice none 0 0] 29 ?_; intro gb127 hg w23 hbox hb; replace HO115 := rb HO115 hb; replace HO118 := rb HO118 hb; replace HO123 := rb HO123 hb; replace HO126 := rb HO126 hb; have BK127 := Aside0.mk (hbox); have GW127 := ge HB hg; have GE127 := ge HB hg; replace HB := bs HB hb; have NB111_127 := nl BK111 hg; have NB127_111 := nr BK111 hg; replace BK111 := bb BK111 hb; clear hb hbox hg; obtain ⟨Ao24, co24, eo24⟩ := Kd.R_slice HO123.out; subst eo24; have hnb25 := NB127_111.out; have hnc25 := NB111_127.out; have hcz26_0 := bc0 BK127; have hcz26_1 := bc1 BK127; have hfz26_0 := blk_frozen BK127.out 0; have hfz26_1 := blk_frozen BK127.out 1; obtain ⟨Ao27, co27, eo27⟩ := Kd.R_slice HO126.out; subst eo27) | ((with_reducible refine gate_callee (f := 30) rfl ?_); refine gl 28 Try.func30 #[.agg #[.slice Ao24 t121.length co24, .slice Ao27 t124.length co27], .bool a1] ?_; (with_reducible refine (impl_CountStates.calls k _ _ t121 _ _ t124 a1 t128 t129 _ ?side1 ?side2 ?side3 ?side4 A11.out).mono ?_); (case side1 => refine (Kd.R_reads' (e := 3) (base := w.heap.size) (ok := fun k_ => ((some k_ ≠ (.slice Ao27 t124.length co27 : Value).ownBlock ∧ some k_ ≠ (.slice Ao18 t113.length co18 : Value).ownBlock) ∧ some k_ ≠ (.slice Ao19 t116.length co19 : Value).ownBlock)) (n := t121.length) (c := co24) ?_).2.2; exact (by (with_reducible repeat (first | apply Kd.R_alloc | apply Kd.R_drewN | apply Kd.R_drew)); exact (Kd.R_mono (Kd.R_far (p := ⟨gb127, 1, none⟩) (Kd.R_far (p := ⟨gb127, 0, none⟩) (Kd.R_types HO123.out BK127.out (by decide)) (fun _ hk => hk.2) (.slice Ao24 t121.length co24)) (fun _ hk => hk.2) (.slice Ao27 t124.length co27)) (fun _ h_ => h_.1)))); (case side2 => exact (Kd.R_reads' HO123.out).2.1); (case side3 => refine (Kd.R_reads' (e := 3) (base := w.heap.size) (ok := fun k_ => ((some k_ ≠ (.slice Ao24 t121.length co24 : Value).ownBlock ∧ some k_ ≠ (.slice Ao18 t113.length co18 : Value).ownBlock) ∧ some k_ ≠ (.slice Ao19 t116.length co19 : Value).ownBlock)) (n := t124.length) (c := co27) ?_).2.2; exact (by (with_reducible repeat (first | apply Kd.R_alloc | apply Kd.R_drewN | apply Kd.R_drew)); exact (Kd.R_mono (Kd.R_far (p := ⟨gb127, 1, none⟩) (Kd.R_far (p := ⟨gb127, 0, none⟩) (Kd.R_types HO126.out BK127.out (by decide)) (fun _ hk => hk.2) (.slice Ao24 t121.length co24)) (fun _ hk => hk.2) (.slice Ao27 t124.length co27)) (fun _ h_ => h_.1)))); (case side4 => exact (Kd.R_reads' HO126.out).2.1); rintro e w28 ⟨rfl, hb⟩; refine ⟨_, rfl, ?_⟩; replace HO115 := Aside0.mk (Kd.R_below (by (with_reducible repeat (first | apply Kd.R_alloc | apply Kd.R_drewN | apply Kd.R_drew)); exact (Kd.R_mono (Kd.R_far (p := ⟨gb127, 1, none⟩) (Kd.R_far (p := ⟨gb127, 0, none⟩) (Kd.R_types HO115.out BK127.out (by decide)) (fun _ hk => hk.2) (.slice Ao24 t121.length co24)) (fun _ hk => hk.2) (.slice Ao27 t124.length co27)) (fun _ h_ => h_.1))) hb); replace HO118 := Aside0.mk (Kd.R_below (by (with_reducible repeat (first | apply Kd.R_alloc | apply Kd.R_drewN | apply Kd.R_drew)); exact (Kd.R_mono (Kd.R_far (p := ⟨gb127, 1, none⟩) (Kd.R_far (p := ⟨gb127, 0, none⟩) (Kd.R_types HO118.out BK127.out (by decide)) (fun _ hk => hk.2) (.slice Ao24 t121.length co24)) (fun _ hk => hk.2) (.slice Ao27 t124.length co27)) (fun _ h_ => h_.1))) hb); replace HO123 := Aside0.mk (Kd.R_below (by (with_reducible repeat (first | apply Kd.R_alloc | apply Kd.R_drewN | apply Kd.R_drew)); exact (Kd.R_mono (Kd.R_far (p := ⟨gb127, 1, none⟩) (Kd.R_far (p := ⟨gb127, 0, none⟩) (Kd.R_types HO123.out BK127.out (by decide)) (fun _ hk => hk.2) (.slice Ao24 t121.length co24)) (fun _ hk => hk.2) (.slice Ao27 t124.length co27)) (fun _ h_ => h_.1))) hb); replace HO126 := Aside0.mk (Kd.R_below (by (with_reducible repeat (first | apply Kd.R_alloc | apply Kd.R_drewN | apply Kd.R_drew)); exact (Kd.R_mono (Kd.R_far (p := ⟨gb127, 1, none⟩) (Kd.R_far (p := ⟨gb127, 0, none⟩) (Kd.R_types HO126.out BK127.out (by decide)) (fun _ hk => hk.2) (.slice Ao24 t121.length co24)) (fun _ hk => hk.2) (.slice Ao27 t124.length co27)) (fun _ h_ => h_.1))) hb); replace BK111 := bb BK111 hb; replace BK127 := Aside0.mk (blk_below (g := gb127) (o := .cells #[.slice Ao24 t121.length co24, .slice Ao27 t124.length co27] 29 (0, 0)) (by (with_reducible repeat (first | refine blk_drewN ?_ _ | refine blk_drew ?_ | refine blk_alloc ?_ _)); refine blk_put (cs := #[.slice Ao24 t121.length co24, .slice none 0 0]) ?_ 1 _ rfl; (with_reducible repeat (first | refine blk_drewN ?_ _ | refine blk_drew ?_ | refine blk_alloc ?_ _)); refine blk_put (cs := #[.slice none 0 0, .slice none 0 0]) ?_ 0 _ rfl; exact bk BK127) hb); replace HB := bs HB hb; (try clear hb)))
 (try simp only [Act.put, List.setIfInBounds_toArray, List.set_cons_zero, List.set_cons_succ])
 go_cut [38] (fun v38 wc => ∃ (kq : Nat) (x38_11 : Bool), v38 = .bool x38_11 ∧ Aside0 (laws_FnExactCountStates.j0 kq x38_11 l0_0 l0_1 t121 t124 = some r) ∧ Aside0 (kq ≤ k) ∧ Aside0 (Kd.R (Kd.int .i64) 3 wc w.heap.size (fun k_ => some k_ ≠ ((.slice Ao27 t124.length co27) : Value).ownBlock) (.slice Ao24 t121.length co24) t121) ∧ Aside0 (Kd.R (Kd.int .i64) 3 wc w.heap.size (fun k_ => some k_ ≠ ((.slice Ao24 t121.length co24) : Value).ownBlock) (.slice Ao27 t124.length co27) t124) ∧ Aside0 (wc.heap[gb111]? = some (.cells #[(.slice A0_0 l0_0.length c0_0), (.slice A0_1 l0_1.length c0_1)] 24 (0, 0))) ∧ Aside0 (wc.heap[gb127]? = some (.cells #[(.slice Ao24 t121.length co24), (.slice Ao27 t124.length co27)] 29 (0, 0))) ∧ Aside0 (Below w.heap.size w wc))
 case first =>
  have H := HC12.out
  clear HC12
  by_cases c29 : t128 = t119
  rotate_left
  ·rw [if_neg c29] at H
   have c29b0 : (t128 == t119) = false := beq_eq_false_iff_ne.mpr c29
   have c29b1 : (t128 != t119) = true := bne_iff_ne.mpr c29
   (first | rw [c29b0] | (simp only [i64_w, i32_w]; rw [c29b0]) | skip)
   exact absurd H (by rw [hrt.out]; cases k <;> simp [laws_FnExactCountStates.j0])
  rw [if_pos c29] at H
  have c29b0 : (t128 == t119) = true := beq_iff_eq.mpr c29
  have c29b1 : (t128 != t119) = false := bne_eq_false_iff_eq.mpr c29
  clear c29
  (first | rw [c29b0] | (simp only [i64_w, i32_w]; rw [c29b0]) | skip)
  have H' := Aside0.mk H
  clear H
  go_wp2
  go_meet
  case rel => exact ⟨_, ((t129 != t120)), (by first | rfl | (simp; done) | (simp [*]; done)), H', ⟨by first | omega | exact Nat.le_refl _⟩, ⟨by (with_reducible repeat (first | apply Kd.R_alloc | apply Kd.R_drewN | apply Kd.R_drew)); exact Kd.R_mono HO123.out (fun _ hk => hk.1.1)⟩, ⟨by (with_reducible repeat (first | apply Kd.R_alloc | apply Kd.R_drewN | apply Kd.R_drew)); exact Kd.R_mono HO126.out (fun _ hk => hk.1.1)⟩, ⟨bk BK111⟩, ⟨bk BK127⟩, ⟨bw HB⟩⟩
 case rest =>
  clear HC12
  try clear c1
  try clear c2
  try clear p2
  try clear c3
  try clear c4
  try clear c4b0
  try clear c6
  try clear c17
  try clear c19
  try clear c25
  try clear c29
  try clear c29b0
  try clear c29b1
  try clear hcz14_0
  try clear hcz14_1
  try clear hcz16_0
  try clear hcz16_1
  try clear hcz21_0
  try clear hcz21_1
  try clear hcz26_0
  try clear hcz26_1
  try clear hcz6_0
  try clear hcz6_1
  try clear hfz14_0
  try clear hfz14_1
  try clear hfz16_0
  try clear hfz16_1
  try clear hfz21_0
  try clear hfz21_1
  try clear hfz26_0
  try clear hfz26_1
  try clear hfz6_0
  try clear hfz6_1
  obtain ⟨kq, x38_11, rfl, HA, HJ11, HO_128000, HO_128001, BK111, BK127, HB⟩ := hcut
  cases kq with
  | zero => exact absurd HA.out (by simp [laws_FnExactCountStates.j0])
  | succ kj11 =>
   have H := HA.out
   clear HA
   simp only [laws_FnExactCountStates.j0] at H
   by_cases c30 : x38_11 = true
   ·subst c30
    have H1 : (some false) = some r := by rw [if_pos rfl] at H; exact H
    clear H
    have H := H1
    clear H1
    exact absurd ((Option.some.inj H).trans hrt.out) (by decide)
   replace c30 := Bool.eq_false_iff.mpr c30
   subst c30
   have H1 : ((laws_toVessels.f kj11 l0_0 l0_1).bind fun bt130 => ((laws_eqVessels.f kj11 t121 t124 bt130.1 bt130.2).bind fun t136 => (if t136 = true then (some true) else (some false)))) = some r := by rw [if_neg (show ¬ (false = true) by decide)] at H; exact H
   clear H
   have H := H1
   clear H1
   replace H := Option.bind_eq_some_iff.mp H
   obtain ⟨⟨t130, t133⟩, A310, H⟩ := H
   replace H : ((laws_eqVessels.f kj11 t121 t124 t130 t133).bind fun t136 => (if t136 = true then (some true) else (some false))) = some r := H
   have A31 := Aside0.mk A310
   clear A310
   replace H := Option.bind_eq_some_iff.mp H
   obtain ⟨t136, A320, H⟩ := H
   replace H : (if t136 = true then (some true) else (some false)) = some r := H
   have A32 := Aside0.mk A320
   clear A320
   by_cases c33 : t136 = true
   rotate_left
   ·replace c33 := Bool.eq_false_iff.mpr c33
    subst c33
    have H1 : (some false) = some r := by rw [if_neg (show ¬ (false = true) by decide)] at H; exact H
    clear H
    have H := H1
    clear H1
    exact absurd ((Option.some.inj H).trans hrt.out) (by decide)
   subst c33
   have H1 : (some true) = some r := by rw [if_pos rfl] at H; exact H
   clear H
   have H := H1
   clear H1
   obtain rfl := Option.some.inj H
   try go_wp2
   replace HO_128000 := Aside0.mk (Kd.R_drew HO_128000.out)
   replace HO_128001 := Aside0.mk (Kd.R_drew HO_128001.out)
   replace BK111 := Aside0.mk (blk_drew BK111.out)
   replace BK127 := Aside0.mk (blk_drew BK127.out)
   replace HB := Aside0.mk (below_drew1 HB.out)
   refine start_ (n := 5) (S := fun w' => w'.cell? ⟨gb127, 0, none⟩ = some (.slice Ao24 t121.length co24) ∧ w'.cell? ⟨gb127, 1, none⟩ = some (.slice Ao27 t124.length co27) ∧ w'.cell? ⟨gb111, 0, none⟩ = some (.slice A0_0 l0_0.length c0_0) ∧ w'.cell? ⟨gb111, 1, none⟩ = some (.slice A0_1 l0_1.length c0_1)) (ds := []) #[false, false, false, false, false] (by kernel_rfl) rfl rfl ⟨bc0 BK127, bc1 BK127, bc0 BK111, bc1 BK111⟩ (fun hHeld => ?_)
   generalize wc.drew = w34 at HO_128000 HO_128001 BK111 BK127 HB hHeld ⊢
   refine take_ (i := 0) (N := some 39) (v := ?_) (a' := ?_) #[true, false, false, false, false] rfl rfl (by kernel_rfl) (fun _ _ _ h => h) (Or.inl ⟨by rfl, ?_⟩) hHeld ?_ ?_
   rotate_left
   ·rintro w' ⟨s0, s1, s2, s3⟩
    go_simp
    with_reducible rfl
   rotate_left
   ·simp only [Act.put, List.setIfInBounds_toArray, List.set_cons_zero, List.set_cons_succ, i64_w, i32_w]
    rfl
   refine take_ (i := 1) (N := some 40) (v := ?_) (a' := ?_) #[true, true, false, false, false] rfl rfl (by kernel_rfl) (fun _ _ _ h => h) (Or.inl ⟨by rfl, ?_⟩) hHeld ?_ ?_
   rotate_left
   ·rintro w' ⟨s0, s1, s2, s3⟩
    go_simp
    with_reducible rfl
   rotate_left
   ·simp only [Act.put, List.setIfInBounds_toArray, List.set_cons_zero, List.set_cons_succ, i64_w, i32_w]
    rfl
   refine one_ (i := 2) (N := some 41) #[true, true, true, false, false] rfl rfl (by kernel_rfl) (by decide) (fun K hK => ?_)
   refine gs Try.func19 #[.agg #[.slice A0_0 l0_0.length c0_0, .slice A0_1 l0_1.length c0_1]] ?_
   with_reducible refine (laws_toVessels.calls kj11 _ _ l0_0 _ _ l0_1 t130 t133 _ ?side1 ?side2 ?side3 ?side4 A31.out).mono ?_
   (case side1 => exact ck HR0_0 HB)
   (case side2 => exact HC0_0.out)
   (case side3 => exact ck HR0_1 HB)
   (case side4 => exact HC0_1.out)
   rintro e w35 ⟨v131, v134, rfl, ho0, ho1, hb⟩
   refine ⟨_, rfl, ?_⟩
   have HO132 := Aside0.mk (Kd.R_lower (Kd.R_new' (Kd.R_new' ho0 (Kd.R_lt (rk HO_128000))) (Kd.R_lt (rk HO_128001))) (below_size (bw HB)))
   have HO135 := Aside0.mk (Kd.R_lower (Kd.R_new' (Kd.R_new' ho1 (Kd.R_lt (rk HO_128000))) (Kd.R_lt (rk HO_128001))) (below_size (bw HB)))
   replace HO_128000 := Aside0.mk (Kd.R_mono (Kd.R_told (Kd.R_told (Kd.R_old (rk HO_128000) hb) (Kd.R_base ho0)) (Kd.R_base ho1)) (fun _ h_ => h_.1))
   replace HO_128001 := Aside0.mk (Kd.R_mono (Kd.R_told (Kd.R_told (Kd.R_old (rk HO_128001) hb) (Kd.R_base ho0)) (Kd.R_base ho1)) (fun _ h_ => h_.1))
   replace BK111 := bb BK111 hb
   replace BK127 := bb BK127 hb
   replace HB := bs HB hb
   (try clear hb)
   (try clear hb2)
   (try clear hk)
   (try clear hi)
   (try clear ho0)
   (try clear ho1)
   obtain ⟨Ao36, co36, eo36⟩ := Kd.R_slice HO132.out
   (first | subst eo36 | (injection eo36 with f1_ f2_ f3_; have f4_ := f1_.symm; have f5_ := f3_.symm; clear f1_ f2_ f3_; subst f4_; subst f5_))
   obtain ⟨Ao37, co37, eo37⟩ := Kd.R_slice HO135.out
   (first | subst eo37 | (injection eo37 with f1_ f2_ f3_; have f4_ := f1_.symm; have f5_ := f3_.symm; clear f1_ f2_ f3_; subst f4_; subst f5_))
   refine hK.out _ _ ⟨bc0 BK127, bc1 BK127, bc0 BK111, bc1 BK111⟩ (fun hHeld => ?_)
   clear hK K
   refine norm_ (a' := ?_) ?_ ?_
   rotate_left
   ·show Act.put _ (some 41) _ = _
    simp only [Act.put, List.setIfInBounds_toArray, List.set_cons_zero, List.set_cons_succ, i64_w, i32_w]
    rfl
   refine one_ (i := 3) (N := some 42) #[true, true, true, true, false] rfl rfl (by kernel_rfl) (by decide) (fun K hK => ?_)
   refine gs Try.func22 #[.agg #[.slice Ao24 t121.length co24, .slice Ao27 t124.length co27], .agg #[.slice Ao36 t130.length co36, .slice Ao37 t133.length co37]] ?_
   with_reducible refine (laws_eqVessels.calls kj11 _ _ t121 _ _ t124 _ _ t130 _ _ t133 true _ ?side1 ?side2 ?side3 ?side4 ?side5 ?side6 ?side7 ?side8 A32.out).mono ?_
   (case side1 => exact cr HO_128000)
   (case side2 => exact (Kd.R_reads' HO_128000.out).2.1)
   (case side3 => exact cr HO_128001)
   (case side4 => exact (Kd.R_reads' HO_128001.out).2.1)
   (case side5 => exact cr HO132)
   (case side6 => exact (Kd.R_reads' HO132.out).2.1)
   (case side7 => exact cr HO135)
   (case side8 => exact (Kd.R_reads' HO135.out).2.1)
   rintro e w38 ⟨rfl, hb⟩
   refine ⟨_, rfl, ?_⟩
   replace HO_128000 := rb HO_128000 hb
   replace HO_128001 := rb HO_128001 hb
   replace HO132 := rb HO132 hb
   replace HO135 := rb HO135 hb
   replace BK111 := bb BK111 hb
   replace BK127 := bb BK127 hb
   replace HB := bs HB hb
   (try clear hb)
   (try clear hb2)
   (try clear hk)
   (try clear hi)
   refine hK.out _ _ ⟨bc0 BK127, bc1 BK127, bc0 BK111, bc1 BK111⟩ (fun hHeld => ?_)
   clear hK K
   refine norm_ (a' := ?_) ?_ ?_
   rotate_left
   ·show Act.put _ (some 42) _ = _
    simp only [Act.put, List.setIfInBounds_toArray, List.set_cons_zero, List.set_cons_succ, i64_w, i32_w]
    rfl
   refine pure_ (i := 4) (N := some 43) (v := ?_) (a' := ?_) #[true, true, true, true, true] rfl rfl (by kernel_rfl) (fun _ _ _ h => h) (Or.inl ⟨by rfl, ?_⟩) ?_ ?_
   rotate_left
   ·intro w'
    go_simp
    with_reducible rfl
   rotate_left
   ·simp only [Act.put, List.setIfInBounds_toArray, List.set_cons_zero, List.set_cons_succ, i64_w, i32_w]
    rfl
   refine done_ (by kernel_rfl) ?_
   try go_wp2
   go_ret
   exact ⟨by first | rfl | (simp [errW_none, errW_some] <;> rfl) | (simp [*, errW_none, errW_some] <;> rfl), bw HB⟩
end Go.Proofs.Ytigpkicbigpilaa.V
