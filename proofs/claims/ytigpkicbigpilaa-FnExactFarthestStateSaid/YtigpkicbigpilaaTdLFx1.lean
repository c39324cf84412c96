-- Functions of the program as plain functions, and that the calls come to them. Written by a program (ownprint.py); nothing here is trusted: Lean checks it.
import Derived.Test.YtigpkicbigpilaaTdVx4
import Derived.Test.YtigpkicbigpilaaTdVsE
import Derived.Test.YtigpkicbigpilaaTdViF
namespace Go.Proofs.Ytigpkicbigpilaa.V
open Go.RowKit Go.Proofs.YtigpkicbigpilaaW.PrintWords Go.Proofs.YtigpkicbigpilaaW.PrintLast Go.Proofs.YtigpkicbigpilaaW.PrintMore Go.Proofs.Ytigpkicbigpilaa.Sq
attribute [local go_sem] max2_int min2_int max_two min_two max_three min_three max_four min_four   -- for this text's walks alone
set_option linter.unusedVariables false
set_option linter.unusedSimpArgs false
mutual
def laws_FnExactFarthestState.j0 : Nat → Bool → Int → Bool → Int → Bool → Bool → List Int → List Int → List Int → List Int → List Int → List Int → List Int → List Int → Option (Bool)
 | 0, _, _, _, _, _, _, _, _, _, _, _, _, _, _ => none
 | k + 1, x1, x7, x8, x11, x12, x54, x112000, x112001, x128000, x128001, x135000, x135001, x144000, x144001 => if x54 = true then (some false) else ((laws_toVessels.f k x112000 x112001).bind fun bt145 => ((laws_eqVessels.f k x135000 x135001 bt145.1 bt145.2).bind fun t151 => (if t151 = true then ((laws_markVessels.f k x135000 x135001 1).bind fun bt152 => (if bt152.1 < 0 then (laws_FnExactFarthestState.j1 k x1 x7 x8 true x112000 x112001 x128000 x128001 x144000 x144001) else ((laws_eqVessels.f k x144000 x144001 x128000 x128001).bind fun t155 => (if t155 = true then (if x11 = x7 then (laws_FnExactFarthestState.j1 k x1 x7 x8 (x12 != x8) x112000 x112001 x128000 x128001 x144000 x144001) else (laws_FnExactFarthestState.j1 k x1 x7 x8 true x112000 x112001 x128000 x128001 x144000 x144001)) else (laws_FnExactFarthestState.j1 k x1 x7 x8 true x112000 x112001 x128000 x128001 x144000 x144001))))) else (some false))))
def laws_FnExactFarthestState.j1 : Nat → Bool → Int → Bool → Bool → List Int → List Int → List Int → List Int → List Int → List Int → Option (Bool)
 | 0, _, _, _, _, _, _, _, _, _, _ => none
 | k + 1, x1, x7, x8, x80, x112000, x112001, x128000, x128001, x144000, x144001 => if x80 = true then (some false) else ((laws_markVessels.f k x144000 x144001 1).bind fun bt156 => ((laws_heldVessels.f k bt156.2.1 bt156.2.2 1).bind fun t159 => (if t159 < 0 then (some false) else (if t159 = bt156.1 then ((laws_toVessels.f k x112000 x112001).bind fun bt160 => ((impl_FarthestState.f k bt160.1 bt160.2 x1).bind fun bt166 => ((laws_eqVessels.f k bt166.1 bt166.2.1 x128000 x128001).bind fun t175 => (if t175 = true then (if bt166.2.2.1 = x7 then (laws_FnExactFarthestState.j2 k bt156.1 (bt166.2.2.2 != x8) bt156.2.1 bt156.2.2) else (laws_FnExactFarthestState.j2 k bt156.1 true bt156.2.1 bt156.2.2)) else (laws_FnExactFarthestState.j2 k bt156.1 true bt156.2.1 bt156.2.2))))) else (some false)))))
def laws_FnExactFarthestState.j2 : Nat → Int → Bool → List Int → List Int → Option (Bool)
 | 0, _, _, _, _ => none
 | k + 1, x14, x113, x144000, x144001 => if x113 = true then (some false) else ((laws_heldVessels.f k x144000 x144001 1).bind fun t176 => (if t176 < 0 then (some false) else (if t176 = x14 then (some true) else (some false))))
end
def laws_FnExactFarthestState.f (k : Nat) (l0_0 : List Int) (l0_1 : List Int) (a1 : Bool) : Option (Bool) := (laws_szVessels.f l0_0 l0_1 1048576).bind fun t112 => (if t112 < 0 then (some true) else ((laws_toVessels.f k l0_0 l0_1).bind fun bt113 => ((spec_FarthestState.f k bt113.1 bt113.2 a1).bind fun bt119 => ((laws_toVessels.f k l0_0 l0_1).bind fun bt128 => ((impl_FarthestState.f k bt128.1 bt128.2 a1).bind fun bt135 => ((laws_eqVessels.f k bt135.1 bt135.2.1 bt119.1 bt119.2.1).bind fun t144 => (if t144 = true then (if bt135.2.2.1 = bt119.2.2.1 then (laws_FnExactFarthestState.j0 k a1 bt119.2.2.1 bt119.2.2.2 bt135.2.2.1 bt135.2.2.2 (bt135.2.2.2 != bt119.2.2.2) l0_0 l0_1 bt119.1 bt119.2.1 bt128.1 bt128.2 bt135.1 bt135.2.1) else (laws_FnExactFarthestState.j0 k a1 bt119.2.2.1 bt119.2.2.2 bt135.2.2.1 bt135.2.2.2 true l0_0 l0_1 bt119.1 bt119.2.1 bt128.1 bt128.2 bt135.1 bt135.2.1)) else (laws_FnExactFarthestState.j0 k a1 bt119.2.2.1 bt119.2.2.2 bt135.2.2.1 bt135.2.2.2 true l0_0 l0_1 bt119.1 bt119.2.1 bt128.1 bt128.2 bt135.1 bt135.2.1))))))))
set_option maxHeartbeats 8000000 in
set_option maxRecDepth 100000 in
theorem laws_FnExactFarthestState.calls (k : Nat) (A0_0 : Option Addr) (c0_0 : Nat) (l0_0 : List Int) (A0_1 : Option Addr) (c0_1 : Nat) (l0_1 : List Int) (a1 : Bool) (r : Bool) (w : World) (hr0_0 : Kd.C (Kd.int .i64) w A0_0 l0_0.length l0_0) (hc0_0 : l0_0.length ≤ c0_0) (hr0_1 : Kd.C (Kd.int .i64) w A0_1 l0_1.length l0_1) (hc0_1 : l0_1.length ≤ c0_1) (hrt : Aside0 (r = true)) (h : laws_FnExactFarthestState.f k l0_0 l0_1 a1 = some r) :
  Calls Try.prog 11 #[.agg #[.slice A0_0 l0_0.length c0_0, .slice A0_1 l0_1.length c0_1], .bool a1] w fun e w' => e = .returned (.bool r) ∧ Below w.heap.size w w' := by
 have hu24 := Try.underlying24
 have hu29 := Try.underlying29
 have HR0_0 := Aside0.mk hr0_0
 have HC0_0 := Aside0.mk hc0_0
 clear hr0_0 hc0_0
 have HR0_1 := Aside0.mk hr0_1
 have HC0_1 := Aside0.mk hc0_1
 clear hr0_1 hc0_1
 have HB := Aside0.mk (Below.refl w.heap.size w)
 have H : ((laws_szVessels.f l0_0 l0_1 1048576).bind fun t112 => (if t112 < 0 then (some true) else ((laws_toVessels.f k l0_0 l0_1).bind fun bt113 => ((spec_FarthestState.f k bt113.1 bt113.2 a1).bind fun bt119 => ((laws_toVessels.f k l0_0 l0_1).bind fun bt128 => ((impl_FarthestState.f k bt128.1 bt128.2 a1).bind fun bt135 => ((laws_eqVessels.f k bt135.1 bt135.2.1 bt119.1 bt119.2.1).bind fun t144 => (if t144 = true then (if bt135.2.2.1 = bt119.2.2.1 then (laws_FnExactFarthestState.j0 k a1 bt119.2.2.1 bt119.2.2.2 bt135.2.2.1 bt135.2.2.2 (bt135.2.2.2 != bt119.2.2.2) l0_0 l0_1 bt119.1 bt119.2.1 bt128.1 bt128.2 bt135.1 bt135.2.1) else (laws_FnExactFarthestState.j0 k a1 bt119.2.2.1 bt119.2.2.2 bt135.2.2.1 bt135.2.2.2 true l0_0 l0_1 bt119.1 bt119.2.1 bt128.1 bt128.2 bt135.1 bt135.2.1)) else (laws_FnExactFarthestState.j0 k a1 bt119.2.2.1 bt119.2.2.2 bt135.2.2.1 bt135.2.2.2 true l0_0 l0_1 bt119.1 bt119.2.1 bt128.1 bt128.2 bt135.1 bt135.2.1))))))))) = some r := h
 clear h
 replace H := Option.bind_eq_some_iff.mp H
 obtain ⟨t112, A30, H⟩ := H
 replace H : (if t112 < 0 then (some true) else ((laws_toVessels.f k l0_0 l0_1).bind fun bt113 => ((spec_FarthestState.f k bt113.1 bt113.2 a1).bind fun bt119 => ((laws_toVessels.f k l0_0 l0_1).bind fun bt128 => ((impl_FarthestState.f k bt128.1 bt128.2 a1).bind fun bt135 => ((laws_eqVessels.f k bt135.1 bt135.2.1 bt119.1 bt119.2.1).bind fun t144 => (if t144 = true then (if bt135.2.2.1 = bt119.2.2.1 then (laws_FnExactFarthestState.j0 k a1 bt119.2.2.1 bt119.2.2.2 bt135.2.2.1 bt135.2.2.2 (bt135.2.2.2 != bt119.2.2.2) l0_0 l0_1 bt119.1 bt119.2.1 bt128.1 bt128.2 bt135.1 bt135.2.1) else (laws_FnExactFarthestState.j0 k a1 bt119.2.2.1 bt119.2.2.2 bt135.2.2.1 bt135.2.2.2 true l0_0 l0_1 bt119.1 bt119.2.1 bt128.1 bt128.2 bt135.1 bt135.2.1)) else (laws_FnExactFarthestState.j0 k a1 bt119.2.2.1 bt119.2.2.2 bt135.2.2.1 bt135.2.2.2 true l0_0 l0_1 bt119.1 bt119.2.1 bt128.1 bt128.2 bt135.1 bt135.2.1)))))))) = some r := H
 have A3 := Aside0.mk A30
 clear A30
 by_cases c4 : t112 < 0
 ·rw [if_pos c4] at H
  have c4b0 : decide (t112 < 0) = true := decide_eq_true c4
  clear c4
  obtain rfl := Option.some.inj H
  go_enter Try.func11, Try.ntmps11
  go_wp2_with (first | ((with_reducible refine gate_dst (N := 2) rfl ?_); refine bx 2 #[.slice A0_0 l0_0.length c0_0, .slice A0_1 l0_1.length c0_1] 24 ?_; intro gb111 hg w5 hbox hb; have BK111 := Aside0.mk (hbox); have GW111 := ge HB hg; have GE111 := ge HB hg; replace HB := bs HB hb; clear hb hbox hg; have hcz6_0 := bc0 BK111; have hcz6_1 := bc1 BK111; have hfz6_0 := blk_frozen BK111.out 0; have hfz6_1 := blk_frozen BK111.out 1) | ((with_reducible refine gate_callee (f := 17) rfl ?_); refine gl 21 Try.func17 #[.agg #[.slice A0_0 l0_0.length c0_0, .slice A0_1 l0_1.length c0_1], .int .i64 1048576] ?_; (with_reducible refine (laws_szVessels.calls _ _ l0_0 _ _ l0_1 1048576 t112 _ ?side1 ?side2 ?side3 ?side4 A3.out).mono ?_); (case side1 => exact ck HR0_0 HB); (case side2 => exact HC0_0.out); (case side3 => exact ck HR0_1 HB); (case side4 => exact HC0_1.out); rintro e w7 ⟨rfl, hb⟩; refine ⟨_, rfl, ?_⟩; replace BK111 := bb BK111 hb; replace HB := bs HB hb; (try clear hb)))
  go_ret
  exact ⟨by first | rfl | (simp [errW_none, errW_some] <;> rfl) | (simp [*, errW_none, errW_some] <;> rfl), bw HB⟩
 rw [if_neg c4] at H
 have c4b0 : decide (t112 < 0) = false := decide_eq_false c4
 clear c4
 replace H := Option.bind_eq_some_iff.mp H
 obtain ⟨⟨t113, t116⟩, A80, H⟩ := H
 replace H : ((spec_FarthestState.f k t113 t116 a1).bind fun bt119 => ((laws_toVessels.f k l0_0 l0_1).bind fun bt128 => ((impl_FarthestState.f k bt128.1 bt128.2 a1).bind fun bt135 => ((laws_eqVessels.f k bt135.1 bt135.2.1 bt119.1 bt119.2.1).bind fun t144 => (if t144 = true then (if bt135.2.2.1 = bt119.2.2.1 then (laws_FnExactFarthestState.j0 k a1 bt119.2.2.1 bt119.2.2.2 bt135.2.2.1 bt135.2.2.2 (bt135.2.2.2 != bt119.2.2.2) l0_0 l0_1 bt119.1 bt119.2.1 bt128.1 bt128.2 bt135.1 bt135.2.1) else (laws_FnExactFarthestState.j0 k a1 bt119.2.2.1 bt119.2.2.2 bt135.2.2.1 bt135.2.2.2 true l0_0 l0_1 bt119.1 bt119.2.1 bt128.1 bt128.2 bt135.1 bt135.2.1)) else (laws_FnExactFarthestState.j0 k a1 bt119.2.2.1 bt119.2.2.2 bt135.2.2.1 bt135.2.2.2 true l0_0 l0_1 bt119.1 bt119.2.1 bt128.1 bt128.2 bt135.1 bt135.2.1)))))) = some r := H
 have A8 := Aside0.mk A80
 clear A80
 replace H := Option.bind_eq_some_iff.mp H
 obtain ⟨⟨t119, t122, t125, t126⟩, A90, H⟩ := H
 replace H : ((laws_toVessels.f k l0_0 l0_1).bind fun bt128 => ((impl_FarthestState.f k bt128.1 bt128.2 a1).bind fun bt135 => ((laws_eqVessels.f k bt135.1 bt135.2.1 t119 t122).bind fun t144 => (if t144 = true then (if bt135.2.2.1 = t125 then (laws_FnExactFarthestState.j0 k a1 t125 t126 bt135.2.2.1 bt135.2.2.2 (bt135.2.2.2 != t126) l0_0 l0_1 t119 t122 bt128.1 bt128.2 bt135.1 bt135.2.1) else (laws_FnExactFarthestState.j0 k a1 t125 t126 bt135.2.2.1 bt135.2.2.2 true l0_0 l0_1 t119 t122 bt128.1 bt128.2 bt135.1 bt135.2.1)) else (laws_FnExactFarthestState.j0 k a1 t125 t126 bt135.2.2.1 bt135.2.2.2 true l0_0 l0_1 t119 t122 bt128.1 bt128.2 bt135.1 bt135.2.1))))) = some r := H
 have A9 := Aside0.mk A90
 clear A90
 replace H := Option.bind_eq_some_iff.mp H
 obtain ⟨⟨t128, t131⟩, A100, H⟩ := H
 replace H : ((impl_FarthestState.f k t128 t131 a1).bind fun bt135 => ((laws_eqVessels.f k bt135.1 bt135.2.1 t119 t122).bind fun t144 => (if t144 = true then (if bt135.2.2.1 = t125 then (laws_FnExactFarthestState.j0 k a1 t125 t126 bt135.2.2.1 bt135.2.2.2 (bt135.2.2.2 != t126) l0_0 l0_1 t119 t122 t128 t131 bt135.1 bt135.2.1) else (laws_FnExactFarthestState.j0 k a1 t125 t126 bt135.2.2.1 bt135.2.2.2 true l0_0 l0_1 t119 t122 t128 t131 bt135.1 bt135.2.1)) else (laws_FnExactFarthestState.j0 k a1 t125 t126 bt135.2.2.1 bt135.2.2.2 true l0_0 l0_1 t119 t122 t128 t131 bt135.1 bt135.2.1)))) = some r := H
 have A10 := Aside0.mk A100
 clear A100
 replace H := Option.bind_eq_some_iff.mp H
 obtain ⟨⟨t135, t138, t141, t142⟩, A110, H⟩ := H
 replace H : ((laws_eqVessels.f k t135 t138 t119 t122).bind fun t144 => (if t144 = true then (if t141 = t125 then (laws_FnExactFarthestState.j0 k a1 t125 t126 t141 t142 (t142 != t126) l0_0 l0_1 t119 t122 t128 t131 t135 t138) else (laws_FnExactFarthestState.j0 k a1 t125 t126 t141 t142 true l0_0 l0_1 t119 t122 t128 t131 t135 t138)) else (laws_FnExactFarthestState.j0 k a1 t125 t126 t141 t142 true l0_0 l0_1 t119 t122 t128 t131 t135 t138))) = some r := H
 have A11 := Aside0.mk A110
 clear A110
 have HC12 := Aside0.mk H
 clear H
 go_enter Try.func11, Try.ntmps11
 go_upto_region 8 with (first | ((with_reducible refine gate_dst (N := 2) rfl ?_); refine bx 2 #[.slice A0_0 l0_0.length c0_0, .slice A0_1 l0_1.length c0_1] 24 ?_; intro gb111 hg w13 hbox hb; have BK111 := Aside0.mk (hbox); have GW111 := ge HB hg; have GE111 := ge HB hg; replace HB := bs HB hb; clear hb hbox hg; have hcz14_0 := bc0 BK111; have hcz14_1 := bc1 BK111; have hfz14_0 := blk_frozen BK111.out 0; have hfz14_1 := blk_frozen BK111.out 1) | ((with_reducible refine gate_callee (f := 17) rfl ?_); refine gl 21 Try.func17 #[.agg #[.slice A0_0 l0_0.length c0_0, .slice A0_1 l0_1.length c0_1], .int .i64 1048576] ?_; (with_reducible refine (laws_szVessels.calls _ _ l0_0 _ _ l0_1 1048576 t112 _ ?side1 ?side2 ?side3 ?side4 A3.out).mono ?_); (case side1 => exact ck HR0_0 HB); (case side2 => exact HC0_0.out); (case side3 => exact ck HR0_1 HB); (case side4 => exact HC0_1.out); rintro e w15 ⟨rfl, hb⟩; refine ⟨_, rfl, ?_⟩; replace BK111 := bb BK111 hb; replace HB := bs HB hb; (try clear hb); have hcz16_0 := bc0 BK111; have hcz16_1 := bc1 BK111; have hfz16_0 := blk_frozen BK111.out 0; have hfz16_1 := blk_frozen BK111.out 1) | ((with_reducible refine gate_callee (f := 19) rfl ?_); refine gl 26 Try.func19 #[.agg #[.slice A0_0 l0_0.length c0_0, .slice A0_1 l0_1.length c0_1]] ?_; (with_reducible refine (laws_toVessels.calls k _ _ l0_0 _ _ l0_1 t113 t116 _ ?side1 ?side2 ?side3 ?side4 A8.out).mono ?_); (case side1 => exact ck HR0_0 HB); (case side2 => exact HC0_0.out); (case side3 => exact ck HR0_1 HB); (case side4 => exact HC0_1.out); rintro e w17 ⟨v114, v117, rfl, ho0, ho1, hb⟩; refine ⟨_, rfl, ?_⟩; have HO115 := lo ho0 HB; have HO118 := lo ho1 HB; replace BK111 := bb BK111 hb; replace HB := bs HB hb; (try clear hb); (try clear ho0); (try clear ho1); obtain ⟨Ao18, co18, eo18⟩ := Kd.R_slice HO115.out; subst eo18; obtain ⟨Ao19, co19, eo19⟩ := Kd.R_slice HO118.out; subst eo19) | ((with_reducible refine gate_callee (f := 42) rfl ?_); refine gl 28 Try.func42 #[.agg #[.slice Ao18 t113.length co18, .slice Ao19 t116.length co19], .bool a1] ?_; (with_reducible refine (spec_FarthestState.calls k _ _ t113 _ _ t116 a1 t119 t122 t125 t126 _ ?side1 ?side2 ?side3 ?side4 A9.out).mono ?_); (case side1 => exact cr HO115); (case side2 => exact (Kd.R_reads' HO115.out).2.1); (case side3 => exact cr HO118); (case side4 => exact (Kd.R_reads' HO118.out).2.1); rintro e w20 ⟨v120, v123, rfl, ho0, ho1, hb⟩; refine ⟨_, rfl, ?_⟩; have HO121 := Aside0.mk (Kd.R_lower (Kd.R_new' (Kd.R_new' ho0 (Kd.R_lt (rk HO115))) (Kd.R_lt (rk HO118))) (below_size (bw HB))); have HO124 := Aside0.mk (Kd.R_lower (Kd.R_new' (Kd.R_new' ho1 (Kd.R_lt (rk HO115))) (Kd.R_lt (rk HO118))) (below_size (bw HB))); replace HO115 := Aside0.mk (Kd.R_mono (Kd.R_told (Kd.R_told (Kd.R_old (rk HO115) hb) (Kd.R_base ho0)) (Kd.R_base ho1)) (fun _ h_ => h_.1)); replace HO118 := Aside0.mk (Kd.R_mono (Kd.R_told (Kd.R_told (Kd.R_old (rk HO118) hb) (Kd.R_base ho0)) (Kd.R_base ho1)) (fun _ h_ => h_.1)); replace BK111 := bb BK111 hb; replace HB := bs HB hb; (try clear hb); (try clear ho0); (try clear ho1)) | ((with_reducible refine gate_dst (N := 6) rfl ?_); refine bx 6 #[.slice none 0 0, .slice none 0 0] 29 ?_; intro gb127 hg w21 hbox hb; replace HO115 := rb HO115 hb; replace HO118 := rb HO118 hb; replace HO121 := rb HO121 hb; replace HO124 := rb HO124 hb; have BK127 := Aside0.mk (hbox); have GW127 := ge HB hg; have GE127 := ge HB hg; replace HB := bs HB hb; have NB111_127 := nl BK111 hg; have NB127_111 := nr BK111 hg; replace BK111 := bb BK111 hb; clear hb hbox hg; obtain ⟨Ao22, co22, eo22⟩ := Kd.R_slice HO121.out; subst eo22; have hnb23 := NB127_111.out; have hnc23 := NB111_127.out; have hcz24_0 := bc0 BK127; have hcz24_1 := bc1 BK127; have hfz24_0 := blk_frozen BK127.out 0; have hfz24_1 := blk_frozen BK127.out 1; obtain ⟨Ao25, co25, eo25⟩ := Kd.R_slice HO124.out; subst eo25; have hcz26_0 := bc0 BK111; have hcz26_1 := bc1 BK111; have hfz26_0 := blk_frozen BK111.out 0; have hfz26_1 := blk_frozen BK111.out 1) | ((with_reducible refine gate_callee (f := 19) rfl ?_); refine gl 33 Try.func19 #[.agg #[.slice A0_0 l0_0.length c0_0, .slice A0_1 l0_1.length c0_1]] ?_; (with_reducible refine (laws_toVessels.calls k _ _ l0_0 _ _ l0_1 t128 t131 _ ?side1 ?side2 ?side3 ?side4 A10.out).mono ?_); (case side1 => exact Kd.C_below HR0_0.out (bw HB)); (case side2 => exact HC0_0.out); (case side3 => exact Kd.C_below HR0_1.out (bw HB)); (case side4 => exact HC0_1.out); rintro e w27 ⟨v129, v132, rfl, ho0, ho1, hb⟩; refine ⟨_, rfl, ?_⟩; have HO130 := Aside0.mk (Kd.R_lower (Kd.R_new' (Kd.R_new' (Kd.R_new' (Kd.R_new' ho0 (Kd.R_lt (by (with_reducible repeat (first | apply Kd.R_alloc | apply Kd.R_drewN | apply Kd.R_drew)); exact (Kd.R_mono (Kd.R_far (p := ⟨gb127, 1, none⟩) (Kd.R_far (p := ⟨gb127, 0, none⟩) (Kd.R_types HO115.out BK127.out (by decide)) (fun _ hk => hk.2) (.slice Ao22 t119.length co22)) (fun _ hk => hk.2) (.slice Ao25 t122.length co25)) (fun _ h_ => h_.1))))) (Kd.R_lt (by (with_reducible repeat (first | apply Kd.R_alloc | apply Kd.R_drewN | apply Kd.R_drew)); exact (Kd.R_mono (Kd.R_far (p := ⟨gb127, 1, none⟩) (Kd.R_far (p := ⟨gb127, 0, none⟩) (Kd.R_types HO118.out BK127.out (by decide)) (fun _ hk => hk.2) (.slice Ao22 t119.length co22)) (fun _ hk => hk.2) (.slice Ao25 t122.length co25)) (fun _ h_ => h_.1))))) (Kd.R_lt (by (with_reducible repeat (first | apply Kd.R_alloc | apply Kd.R_drewN | apply Kd.R_drew)); exact (Kd.R_mono (Kd.R_far (p := ⟨gb127, 1, none⟩) (Kd.R_far (p := ⟨gb127, 0, none⟩) (Kd.R_types HO121.out BK127.out (by decide)) (fun _ hk => hk.2) (.slice Ao22 t119.length co22)) (fun _ hk => hk.2) (.slice Ao25 t122.length co25)) (fun _ h_ => h_.1))))) (Kd.R_lt (by (with_reducible repeat (first | apply Kd.R_alloc | apply Kd.R_drewN | apply Kd.R_drew)); exact (Kd.R_mono (Kd.R_far (p := ⟨gb127, 1, none⟩) (Kd.R_far (p := ⟨gb127, 0, none⟩) (Kd.R_types HO124.out BK127.out (by decide)) (fun _ hk => hk.2) (.slice Ao22 t119.length co22)) (fun _ hk => hk.2) (.slice Ao25 t122.length co25)) (fun _ h_ => h_.1))))) (below_size (bw HB))); have HO133 := Aside0.mk (Kd.R_lower (Kd.R_new' (Kd.R_new' (Kd.R_new' (Kd.R_new' ho1 (Kd.R_lt (by (with_reducible repeat (first | apply Kd.R_alloc | apply Kd.R_drewN | apply Kd.R_drew)); exact (Kd.R_mono (Kd.R_far (p := ⟨gb127, 1, none⟩) (Kd.R_far (p := ⟨gb127, 0, none⟩) (Kd.R_types HO115.out BK127.out (by decide)) (fun _ hk => hk.2) (.slice Ao22 t119.length co22)) (fun _ hk => hk.2) (.slice Ao25 t122.length co25)) (fun _ h_ => h_.1))))) (Kd.R_lt (by (with_reducible repeat (first | apply Kd.R_alloc | apply Kd.R_drewN | apply Kd.R_drew)); exact (Kd.R_mono (Kd.R_far (p := ⟨gb127, 1, none⟩) (Kd.R_far (p := ⟨gb127, 0, none⟩) (Kd.R_types HO118.out BK127.out (by decide)) (fun _ hk => hk.2) (.slice Ao22 t119.length co22)) (fun _ hk => hk.2) (.slice Ao25 t122.length co25)) (fun _ h_ => h_.1))))) (Kd.R_lt (by (with_reducible repeat (first | apply Kd.R_alloc | apply Kd.R_drewN | apply Kd.R_drew)); exact (Kd.R_mono (Kd.R_far (p := ⟨gb127, 1, none⟩) (Kd.R_far (p := ⟨gb127, 0, none⟩) (Kd.R_types HO121.out BK127.out (by decide)) (fun _ hk => hk.2) (.slice Ao22 t119.length co22)) (fun _ hk => hk.2) (.slice Ao25 t122.length co25)) (fun _ h_ => h_.1))))) (Kd.R_lt (by (with_reducible repeat (first | apply Kd.R_alloc | apply Kd.R_drewN | apply Kd.R_drew)); exact (Kd.R_mono (Kd.R_far (p := ⟨gb127, 1, none⟩) (Kd.R_far (p := ⟨gb127, 0, none⟩) (Kd.R_types HO124.out BK127.out (by decide)) (fun _ hk => hk.2) (.slice Ao22 t119.length co22)) (fun _ hk => hk.2) (.slice Ao25 t122.length co25)) (fun _ h_ => h_.1))))) (below_size (bw HB))); replace HO115 := Aside0.mk (Kd.R_mono (Kd.R_told (Kd.R_told (Kd.R_old (by (with_reducible repeat (first | apply Kd.R_alloc | apply Kd.R_drewN | apply Kd.R_drew)); exact (Kd.R_mono (Kd.R_far (p := ⟨gb127, 1, none⟩) (Kd.R_far (p := ⟨gb127, 0, none⟩) (Kd.R_types HO115.out BK127.out (by decide)) (fun _ hk => hk.2) (.slice Ao22 t119.length co22)) (fun _ hk => hk.2) (.slice Ao25 t122.length co25)) (fun _ h_ => h_.1))) hb) (Kd.R_base ho0)) (Kd.R_base ho1)) (fun _ h_ => h_.1)); replace HO118 := Aside0.mk (Kd.R_mono (Kd.R_told (Kd.R_told (Kd.R_old (by (with_reducible repeat (first | apply Kd.R_alloc | apply Kd.R_drewN | apply Kd.R_drew)); exact (Kd.R_mono (Kd.R_far (p := ⟨gb127, 1, none⟩) (Kd.R_far (p := ⟨gb127, 0, none⟩) (Kd.R_types HO118.out BK127.out (by decide)) (fun _ hk => hk.2) (.slice Ao22 t119.length co22)) (fun _ hk => hk.2) (.slice Ao25 t122.length co25)) (fun _ h_ => h_.1))) hb) (Kd.R_base ho0)) (Kd.R_base ho1)) (fun _ h_ => h_.1)); replace HO121 := Aside0.mk (Kd.R_mono (Kd.R_told (Kd.R_told (Kd.R_old (by (with_reducible repeat (first | apply Kd.R_alloc | apply Kd.R_drewN | apply Kd.R_drew)); exact (Kd.R_mono (Kd.R_far (p := ⟨gb127, 1, none⟩) (Kd.R_far (p := ⟨gb127, 0, none⟩) (Kd.R_types HO121.out BK127.out (by decide)) (fun _ hk => hk.2) (.slice Ao22 t119.length co22)) (fun _ hk => hk.2) (.slice Ao25 t122.length co25)) (fun _ h_ => h_.1))) hb) (Kd.R_base ho0)) (Kd.R_base ho1)) (fun _ h_ => h_.1)); replace HO124 := Aside0.mk (Kd.R_mono (Kd.R_told (Kd.R_told (Kd.R_old (by (with_reducible repeat (first | apply Kd.R_alloc | apply Kd.R_drewN | apply Kd.R_drew)); exact (Kd.R_mono (Kd.R_far (p := ⟨gb127, 1, none⟩) (Kd.R_far (p := ⟨gb127, 0, none⟩) (Kd.R_types HO124.out BK127.out (by decide)) (fun _ hk => hk.2) (.slice Ao22 t119.length co22)) (fun _ hk => hk.2) (.slice Ao25 t122.length co25)) (fun _ h_ => h_.1))) hb) (Kd.R_base ho0)) (Kd.R_base ho1)) (fun _ h_ => h_.1)); replace BK111 := bb BK111 hb; replace BK127 := Aside0.mk (blk_below (g := gb127) (o := .cells #[.slice Ao22 t119.length co22, .slice Ao25 t122.length co25] 29 (0, 0)) (by (with_reducible repeat (first | refine blk_drewN ?_ _ | refine blk_drew ?_ | refine blk_alloc ?_ _)); refine blk_put (cs := #[.slice Ao22 t119.length co22, .slice none 0 0]) ?_ 1 _ rfl; (with_reducible repeat (first | refine blk_drewN ?_ _ | refine blk_drew ?_ | refine blk_alloc ?_ _)); refine blk_put (cs := #[.slice none 0 0, .slice none 0 0]) ?_ 0 _ rfl; exact bk BK127) hb); replace HB := bs HB hb; (try clear hb); (try clear ho0); (try clear ho1)) | ((with_reducible refine gate_dst (N := 9) rfl ?_); refine bx 9 #[.slice none 0 0, .slice none 0 0] 29 ?_; intro gb134 hg w28 hbox hb; replace HO115 := rb HO115 hb; replace HO118 := rb HO118 hb; replace HO121 := rb HO121 hb; replace HO124 := rb HO124 hb; replace HO130 := rb HO130 hb; replace HO133 := rb HO133 hb; have BK134 := Aside0.mk (hbox); have GW134 := ge HB hg; have GE134 := ge HB hg; replace HB := bs HB hb; have NB111_134 := nl BK111 hg; have NB134_111 := nr BK111 hg; replace BK111 := bb BK111 hb; have NB127_134 := nl BK127 hg; have NB134_127 := nr BK127 hg; replace BK127 := bb BK127 hb; clear hb hbox hg; obtain ⟨Ao29, co29, eo29⟩ := Kd.R_slice HO130.out; subst eo29; have hnb30 := NB134_111.out; have hnc30 := NB111_134.out; have hnb31 := NB134_127.out; have hnc31 := NB127_134.out; have hcz32_0 := bc0 BK134; have hcz32_1 := bc1 BK134; have hfz32_0 := blk_frozen BK134.out 0; have hfz32_1 := blk_frozen BK134.out 1; obtain ⟨Ao33, co33, eo33⟩ := Kd.R_slice HO133.out; subst eo33) | ((with_reducible refine gate_callee (f := 43) rfl ?_); refine gl 37 Try.func43 #[.agg #[.slice Ao29 t128.length co29, .slice Ao33 t131.length co33], .bool a1] ?_; (with_reducible refine (impl_FarthestState.calls k _ _ t128 _ _ t131 a1 t135 t138 t141 t142 _ ?side1 ?side2 ?side3 ?side4 A11.out).mono ?_); (case side1 => refine (Kd.R_reads' (e := 3) (base := w.heap.size) (ok := fun k_ => ((((some k_ ≠ (.slice Ao33 t131.length co33 : Value).ownBlock ∧ some k_ ≠ (.slice Ao18 t113.length co18 : Value).ownBlock) ∧ some k_ ≠ (.slice Ao19 t116.length co19 : Value).ownBlock) ∧ some k_ ≠ (.slice Ao22 t119.length co22 : Value).ownBlock) ∧ some k_ ≠ (.slice Ao25 t122.length co25 : Value).ownBlock)) (n := t128.length) (c := co29) ?_).2.2; exact (by (with_reducible repeat (first | apply Kd.R_alloc | apply Kd.R_drewN | apply Kd.R_drew)); exact (Kd.R_mono (Kd.R_far (p := ⟨gb134, 1, none⟩) (Kd.R_far (p := ⟨gb134, 0, none⟩) (Kd.R_types HO130.out BK134.out (by decide)) (fun _ hk => hk.2) (.slice Ao29 t128.length co29)) (fun _ hk => hk.2) (.slice Ao33 t131.length co33)) (fun _ h_ => h_.1)))); (case side2 => exact (Kd.R_reads' HO130.out).2.1); (case side3 => refine (Kd.R_reads' (e := 3) (base := w.heap.size) (ok := fun k_ => ((((some k_ ≠ (.slice Ao29 t128.length co29 : Value).ownBlock ∧ some k_ ≠ (.slice Ao18 t113.length co18 : Value).ownBlock) ∧ some k_ ≠ (.slice Ao19 t116.length co19 : Value).ownBlock) ∧ some k_ ≠ (.slice Ao22 t119.length co22 : Value).ownBlock) ∧ some k_ ≠ (.slice Ao25 t122.length co25 : Value).ownBlock)) (n := t131.length) (c := co33) ?_).2.2; exact (by (with_reducible repeat (first | apply Kd.R_alloc | apply Kd.R_drewN | apply Kd.R_drew)); exact (Kd.R_mono (Kd.R_far (p := ⟨gb134, 1, none⟩) (Kd.R_far (p := ⟨gb134, 0, none⟩) (Kd.R_types HO133.out BK134.out (by decide)) (fun _ hk => hk.2) (.slice Ao29 t128.length co29)) (fun _ hk => hk.2) (.slice Ao33 t131.length co33)) (fun _ h_ => h_.1)))); (case side4 => exact (Kd.R_reads' HO133.out).2.1); rintro e w34 ⟨v136, v139, rfl, ho0, ho1, hb⟩; refine ⟨_, rfl, ?_⟩; have HO137 := Aside0.mk (Kd.R_lower (Kd.R_new' (Kd.R_new' (Kd.R_new' (Kd.R_new' (Kd.R_new' (Kd.R_new' ho0 (Kd.R_lt (by (with_reducible repeat (first | apply Kd.R_alloc | apply Kd.R_drewN | apply Kd.R_drew)); exact (Kd.R_mono (Kd.R_far (p := ⟨gb134, 1, none⟩) (Kd.R_far (p := ⟨gb134, 0, none⟩) (Kd.R_types HO115.out BK134.out (by decide)) (fun _ hk => hk.2) (.slice Ao29 t128.length co29)) (fun _ hk => hk.2) (.slice Ao33 t131.length co33)) (fun _ h_ => h_.1))))) (Kd.R_lt (by (with_reducible repeat (first | apply Kd.R_alloc | apply Kd.R_drewN | apply Kd.R_drew)); exact (Kd.R_mono (Kd.R_far (p := ⟨gb134, 1, none⟩) (Kd.R_far (p := ⟨gb134, 0, none⟩) (Kd.R_types HO118.out BK134.out (by decide)) (fun _ hk => hk.2) (.slice Ao29 t128.length co29)) (fun _ hk => hk.2) (.slice Ao33 t131.length co33)) (fun _ h_ => h_.1))))) (Kd.R_lt (by (with_reducible repeat (first | apply Kd.R_alloc | apply Kd.R_drewN | apply Kd.R_drew)); exact (Kd.R_mono (Kd.R_far (p := ⟨gb134, 1, none⟩) (Kd.R_far (p := ⟨gb134, 0, none⟩) (Kd.R_types HO121.out BK134.out (by decide)) (fun _ hk => hk.2) (.slice Ao29 t128.length co29)) (fun _ hk => hk.2) (.slice Ao33 t131.length co33)) (fun _ h_ => h_.1))))) (Kd.R_lt (by (with_reducible repeat (first | apply Kd.R_alloc | apply Kd.R_drewN | apply Kd.R_drew)); exact (Kd.R_mono (Kd.R_far (p := ⟨gb134, 1, none⟩) (Kd.R_far (p := ⟨gb134, 0, none⟩) (Kd.R_types HO124.out BK134.out (by decide)) (fun _ hk => hk.2) (.slice Ao29 t128.length co29)) (fun _ hk => hk.2) (.slice Ao33 t131.length co33)) (fun _ h_ => h_.1))))) (Kd.R_lt (by (with_reducible repeat (first | apply Kd.R_alloc | apply Kd.R_drewN | apply Kd.R_drew)); exact (Kd.R_mono (Kd.R_far (p := ⟨gb134, 1, none⟩) (Kd.R_far (p := ⟨gb134, 0, none⟩) (Kd.R_types HO130.out BK134.out (by decide)) (fun _ hk => hk.2) (.slice Ao29 t128.length co29)) (fun _ hk => hk.2) (.slice Ao33 t131.length co33)) (fun _ h_ => h_.1))))) (Kd.R_lt (by (with_reducible repeat (first | apply Kd.R_alloc | apply Kd.R_drewN | apply Kd.R_drew)); exact (Kd.R_mono (Kd.R_far (p := ⟨gb134, 1, none⟩) (Kd.R_far (p := ⟨gb134, 0, none⟩) (Kd.R_types HO133.out BK134.out (by decide)) (fun _ hk => hk.2) (.slice Ao29 t128.length co29)) (fun _ hk => hk.2) (.slice Ao33 t131.length co33)) (fun _ h_ => h_.1))))) (below_size (bw HB))); have HO140 := Aside0.mk (Kd.R_lower (Kd.R_new' (Kd.R_new' (Kd.R_new' (Kd.R_new' (Kd.R_new' (Kd.R_new' ho1 (Kd.R_lt (by (with_reducible repeat (first | apply Kd.R_alloc | apply Kd.R_drewN | apply Kd.R_drew)); exact (Kd.R_mono (Kd.R_far (p := ⟨gb134, 1, none⟩) (Kd.R_far (p := ⟨gb134, 0, none⟩) (Kd.R_types HO115.out BK134.out (by decide)) (fun _ hk => hk.2) (.slice Ao29 t128.length co29)) (fun _ hk => hk.2) (.slice Ao33 t131.length co33)) (fun _ h_ => h_.1))))) (Kd.R_lt (by (with_reducible repeat (first | apply Kd.R_alloc | apply Kd.R_drewN | apply Kd.R_drew)); exact (Kd.R_mono (Kd.R_far (p := ⟨gb134, 1, none⟩) (Kd.R_far (p := ⟨gb134, 0, none⟩) (Kd.R_types HO118.out BK134.out (by decide)) (fun _ hk => hk.2) (.slice Ao29 t128.length co29)) (fun _ hk => hk.2) (.slice Ao33 t131.length co33)) (fun _ h_ => h_.1))))) (Kd.R_lt (by (with_reducible repeat (first | apply Kd.R_alloc | apply Kd.R_drewN | apply Kd.R_drew)); exact (Kd.R_mono (Kd.R_far (p := ⟨gb134, 1, none⟩) (Kd.R_far (p := ⟨gb134, 0, none⟩) (Kd.R_types HO121.out BK134.out (by decide)) (fun _ hk => hk.2) (.slice Ao29 t128.length co29)) (fun _ hk => hk.2) (.slice Ao33 t131.length co33)) (fun _ h_ => h_.1))))) (Kd.R_lt (by (with_reducible repeat (first | apply Kd.R_alloc | apply Kd.R_drewN | apply Kd.R_drew)); exact (Kd.R_mono (Kd.R_far (p := ⟨gb134, 1, none⟩) (Kd.R_far (p := ⟨gb134, 0, none⟩) (Kd.R_types HO124.out BK134.out (by decide)) (fun _ hk => hk.2) (.slice Ao29 t128.length co29)) (fun _ hk => hk.2) (.slice Ao33 t131.length co33)) (fun _ h_ => h_.1))))) (Kd.R_lt (by (with_reducible repeat (first | apply Kd.R_alloc | apply Kd.R_drewN | apply Kd.R_drew)); exact (Kd.R_mono (Kd.R_far (p := ⟨gb134, 1, none⟩) (Kd.R_far (p := ⟨gb134, 0, none⟩) (Kd.R_types HO130.out BK134.out (by decide)) (fun _ hk => hk.2) (.slice Ao29 t128.length co29)) (fun _ hk => hk.2) (.slice Ao33 t131.length co33)) (fun _ h_ => h_.1))))) (Kd.R_lt (by (with_reducible repeat (first | apply Kd.R_alloc | apply Kd.R_drewN | apply Kd.R_drew)); exact (Kd.R_mono (Kd.R_far (p := ⟨gb134, 1, none⟩) (Kd.R_far (p := ⟨gb134, 0, none⟩) (Kd.R_types HO133.out BK134.out (by decide)) (fun _ hk => hk.2) (.slice Ao29 t128.length co29)) (fun _ hk => hk.2) (.slice Ao33 t131.length co33)) (fun _ h_ => h_.1))))) (below_size (bw HB))); replace HO115 := Aside0.mk (Kd.R_mono (Kd.R_told (Kd.R_told (Kd.R_old (by (with_reducible repeat (first | apply Kd.R_alloc | apply Kd.R_drewN | apply Kd.R_drew)); exact (Kd.R_mono (Kd.R_far (p := ⟨gb134, 1, none⟩) (Kd.R_far (p := ⟨gb134, 0, none⟩) (Kd.R_types HO115.out BK134.out (by decide)) (fun _ hk => hk.2) (.slice Ao29 t128.length co29)) (fun _ hk => hk.2) (.slice Ao33 t131.length co33)) (fun _ h_ => h_.1))) hb) (Kd.R_base ho0)) (Kd.R_base ho1)) (fun _ h_ => h_.1)); replace HO118 := Aside0.mk (Kd.R_mono (Kd.R_told (Kd.R_told (Kd.R_old (by (with_reducible repeat (first | apply Kd.R_alloc | apply Kd.R_drewN | apply Kd.R_drew)); exact (Kd.R_mono (Kd.R_far (p := ⟨gb134, 1, none⟩) (Kd.R_far (p := ⟨gb134, 0, none⟩) (Kd.R_types HO118.out BK134.out (by decide)) (fun _ hk => hk.2) (.slice Ao29 t128.length co29)) (fun _ hk => hk.2) (.slice Ao33 t131.length co33)) (fun _ h_ => h_.1))) hb) (Kd.R_base ho0)) (Kd.R_base ho1)) (fun _ h_ => h_.1)); replace HO121 := Aside0.mk (Kd.R_mono (Kd.R_told (Kd.R_told (Kd.R_old (by (with_reducible repeat (first | apply Kd.R_alloc | apply Kd.R_drewN | apply Kd.R_drew)); exact (Kd.R_mono (Kd.R_far (p := ⟨gb134, 1, none⟩) (Kd.R_far (p := ⟨gb134, 0, none⟩) (Kd.R_types HO121.out BK134.out (by decide)) (fun _ hk => hk.2) (.slice Ao29 t128.length co29)) (fun _ hk => hk.2) (.slice Ao33 t131.length co33)) (fun _ h_ => h_.1))) hb) (Kd.R_base ho0)) (Kd.R_base ho1)) (fun _ h_ => h_.1)); replace HO124 := Aside0.mk (Kd.R_mono (Kd.R_told (Kd.R_told (Kd.R_old (by (with_reducible repeat (first | apply Kd.R_alloc | apply Kd.R_drewN | apply Kd.R_drew)); exact (Kd.R_mono (Kd.R_far (p := ⟨gb134, 1, none⟩) (Kd.R_far (p := ⟨gb134, 0, none⟩) (Kd.R_types HO124.out BK134.out (by decide)) (fun _ hk => hk.2) (.slice Ao29 t128.length co29)) (fun _ hk => hk.2) (.slice Ao33 t131.length co33)) (fun _ h_ => h_.1))) hb) (Kd.R_base ho0)) (Kd.R_base ho1)) (fun _ h_ => h_.1)); replace HO130 := Aside0.mk (Kd.R_mono (Kd.R_told (Kd.R_told (Kd.R_old (by (with_reducible repeat (first | apply Kd.R_alloc | apply Kd.R_drewN | apply Kd.R_drew)); exact (Kd.R_mono (Kd.R_far (p := ⟨gb134, 1, none⟩) (Kd.R_far (p := ⟨gb134, 0, none⟩) (Kd.R_types HO130.out BK134.out (by decide)) (fun _ hk => hk.2) (.slice Ao29 t128.length co29)) (fun _ hk => hk.2) (.slice Ao33 t131.length co33)) (fun _ h_ => h_.1))) hb) (Kd.R_base ho0)) (Kd.R_base ho1)) (fun _ h_ => h_.1)); replace HO133 := Aside0.mk (Kd.R_mono (Kd.R_told (Kd.R_told (Kd.R_old (by (with_reducible repeat (first | apply Kd.R_alloc | apply Kd.R_drewN | apply Kd.R_drew)); exact (Kd.R_mono (Kd.R_far (p := ⟨gb134, 1, none⟩) (Kd.R_far (p := ⟨gb134, 0, none⟩) (Kd.R_types HO133.out BK134.out (by decide)) (fun _ hk => hk.2) (.slice Ao29 t128.length co29)) (fun _ hk => hk.2) (.slice Ao33 t131.length co33)) (fun _ h_ => h_.1))) hb) (Kd.R_base ho0)) (Kd.R_base ho1)) (fun _ h_ => h_.1)); replace BK111 := bb BK111 hb; replace BK127 := bb BK127 hb; replace BK134 := Aside0.mk (blk_below (g := gb134) (o := .cells #[.slice Ao29 t128.length co29, .slice Ao33 t131.length co33] 29 (0, 0)) (by (with_reducible repeat (first | refine blk_drewN ?_ _ | refine blk_drew ?_ | refine blk_alloc ?_ _)); refine blk_put (cs := #[.slice Ao29 t128.length co29, .slice none 0 0]) ?_ 1 _ rfl; (with_reducible repeat (first | refine blk_drewN ?_ _ | refine blk_drew ?_ | refine blk_alloc ?_ _)); refine blk_put (cs := #[.slice none 0 0, .slice none 0 0]) ?_ 0 _ rfl; exact bk BK134) hb); replace HB := bs HB hb; (try clear hb); (try clear ho0); (try clear ho1)) | ((with_reducible refine gate_dst (N := 10) rfl ?_); refine bx 10 #[.slice none 0 0, .slice none 0 0] 29 ?_; intro gb143 hg w35 hbox hb; replace HO115 := rb HO115 hb; replace HO118 := rb HO118 hb; replace HO121 := rb HO121 hb; replace HO124 := rb HO124 hb; replace HO130 := rb HO130 hb; replace HO133 := rb HO133 hb; replace HO137 := rb HO137 hb; replace HO140 := rb HO140 hb; have BK143 := Aside0.mk (hbox); have GW143 := ge HB hg; have GE143 := ge HB hg; replace HB := bs HB hb; have NB111_143 := nl BK111 hg; have NB143_111 := nr BK111 hg; replace BK111 := bb BK111 hb; have NB127_143 := nl BK127 hg; have NB143_127 := nr BK127 hg; replace BK127 := bb BK127 hb; have NB134_143 := nl BK134 hg; have NB143_134 := nr BK134 hg; replace BK134 := bb BK134 hb; clear hb hbox hg; obtain ⟨Ao36, co36, eo36⟩ := Kd.R_slice HO137.out; subst eo36; have hnb37 := NB143_111.out; have hnc37 := NB111_143.out; have hnb38 := NB143_127.out; have hnc38 := NB127_143.out; have hnb39 := NB143_134.out; have hnc39 := NB134_143.out; have hcz40_0 := bc0 BK143; have hcz40_1 := bc1 BK143; have hfz40_0 := blk_frozen BK143.out 0; have hfz40_1 := blk_frozen BK143.out 1; obtain ⟨Ao41, co41, eo41⟩ := Kd.R_slice HO140.out; subst eo41))
 (try simp only [Act.put, List.setIfInBounds_toArray, List.set_cons_zero, List.set_cons_succ])
 go_cut [54] (fun v54 wc => ∃ (kq : Nat) (x54_11 : Bool), v54 = .bool x54_11 ∧ Aside0 (laws_FnExactFarthestState.j0 kq a1 t125 t126 t141 t142 x54_11 l0_0 l0_1 t119 t122 t128 t131 t135 t138 = some r) ∧ Aside0 (kq ≤ k) ∧ Aside0 (Kd.R (Kd.int .i64) 3 wc w.heap.size (fun k_ => some k_ ≠ ((.slice Ao25 t122.length co25) : Value).ownBlock ∧ some k_ ≠ ((.slice Ao29 t128.length co29) : Value).ownBlock ∧ some k_ ≠ ((.slice Ao33 t131.length co33) : Value).ownBlock ∧ some k_ ≠ ((.slice Ao36 t135.length co36) : Value).ownBlock ∧ some k_ ≠ ((.slice Ao41 t138.length co41) : Value).ownBlock) (.slice Ao22 t119.length co22) t119) ∧ Aside0 (Kd.R (Kd.int .i64) 3 wc w.heap.size (fun k_ => some k_ ≠ ((.slice Ao22 t119.length co22) : Value).ownBlock ∧ some k_ ≠ ((.slice Ao29 t128.length co29) : Value).ownBlock ∧ some k_ ≠ ((.slice Ao33 t131.length co33) : Value).ownBlock ∧ some k_ ≠ ((.slice Ao36 t135.length co36) : Value).ownBlock ∧ some k_ ≠ ((.slice Ao41 t138.length co41) : Value).ownBlock) (.slice Ao25 t122.length co25) t122) ∧ Aside0 (Kd.R (Kd.int .i64) 3 wc w.heap.size (fun k_ => some k_ ≠ ((.slice Ao22 t119.length co22) : Value).ownBlock ∧ some k_ ≠ ((.slice Ao25 t122.length co25) : Value).ownBlock ∧ some k_ ≠ ((.slice Ao33 t131.length co33) : Value).ownBlock ∧ some k_ ≠ ((.slice Ao36 t135.length co36) : Value).ownBlock ∧ some k_ ≠ ((.slice Ao41 t138.length co41) : Value).ownBlock) (.slice Ao29 t128.length co29) t128) ∧ Aside0 (Kd.R (Kd.int .i64) 3 wc w.heap.size (fun k_ => some k_ ≠ ((.slice Ao22 t119.length co22) : Value).ownBlock ∧ some k_ ≠ ((.slice Ao25 t122.length co25) : Value).ownBlock ∧ some k_ ≠ ((.slice Ao29 t128.length co29) : Value).ownBlock ∧ some k_ ≠ ((.slice Ao36 t135.length co36) : Value).ownBlock ∧ some k_ ≠ ((.slice Ao41 t138.length co41) : Value).ownBlock) (.slice Ao33 t131.length co33) t131) ∧ Aside0 (Kd.R (Kd.int .i64) 3 wc w.heap.size (fun k_ => some k_ ≠ ((.slice Ao22 t119.length co22) : Value).ownBlock ∧ some k_ ≠ ((.slice Ao25 t122.length co25) : Value).ownBlock ∧ some k_ ≠ ((.slice Ao29 t128.length co29) : Value).ownBlock ∧ some k_ ≠ ((.slice Ao33 t131.length co33) : Value).ownBlock ∧ some k_ ≠ ((.slice Ao41 t138.length co41) : Value).ownBlock) (.slice Ao36 t135.length co36) t135) ∧ Aside0 (Kd.R (Kd.int .i64) 3 wc w.heap.size (fun k_ => some k_ ≠ ((.slice Ao22 t119.length co22) : Value).ownBlock ∧ some k_ ≠ ((.slice Ao25 t122.length co25) : Value).ownBlock ∧ some k_ ≠ ((.slice Ao29 t128.length co29) : Value).ownBlock ∧ some k_ ≠ ((.slice Ao33 t131.length co33) : Value).ownBlock ∧ some k_ ≠ ((.slice Ao36 t135.length co36) : Value).ownBlock) (.slice Ao41 t138.length co41) t138) ∧ Aside0 (wc.heap[gb111]? = some (.cells #[(.slice A0_0 l0_0.length c0_0), (.slice A0_1 l0_1.length c0_1)] 24 (0, 0))) ∧ Aside0 (wc.heap[gb127]? = some (.cells #[(.slice Ao22 t119.length co22), (.slice Ao25 t122.length co25)] 29 (0, 0))) ∧ Aside0 (wc.heap[gb134]? = some (.cells #[(.slice Ao29 t128.length co29), (.slice Ao33 t131.length co33)] 29 (0, 0))) ∧ Aside0 (wc.heap[gb143]? = some (.cells #[(.slice Ao36 t135.length co36), (.slice Ao41 t138.length co41)] 29 (0, 0))) ∧ Aside0 (Below w.heap.size w wc))
 case first =>
  have H := HC12.out
  clear HC12
  replace H := Option.bind_eq_some_iff.mp H
  obtain ⟨t144, A420, H⟩ := H
  replace H : (if t144 = true then (if t141 = t125 then (laws_FnExactFarthestState.j0 k a1 t125 t126 t141 t142 (t142 != t126) l0_0 l0_1 t119 t122 t128 t131 t135 t138) else (laws_FnExactFarthestState.j0 k a1 t125 t126 t141 t142 true l0_0 l0_1 t119 t122 t128 t131 t135 t138)) else (laws_FnExactFarthestState.j0 k a1 t125 t126 t141 t142 true l0_0 l0_1 t119 t122 t128 t131 t135 t138)) = some r := H
  have A42 := Aside0.mk A420
  clear A420
  by_cases c43 : t144 = true
  rotate_left
  ·replace c43 := Bool.eq_false_iff.mpr c43
   subst c43
   have H1 : (laws_FnExactFarthestState.j0 k a1 t125 t126 t141 t142 true l0_0 l0_1 t119 t122 t128 t131 t135 t138) = some r := by rw [if_neg (show ¬ (false = true) by decide)] at H; exact H
   clear H
   have H := H1
   clear H1
   exact absurd H (by rw [hrt.out]; cases k <;> simp [laws_FnExactFarthestState.j0])
  subst c43
  have H1 : (if t141 = t125 then (laws_FnExactFarthestState.j0 k a1 t125 t126 t141 t142 (t142 != t126) l0_0 l0_1 t119 t122 t128 t131 t135 t138) else (laws_FnExactFarthestState.j0 k a1 t125 t126 t141 t142 true l0_0 l0_1 t119 t122 t128 t131 t135 t138)) = some r := by rw [if_pos rfl] at H; exact H
  clear H
  have H := H1
  clear H1
  by_cases c44 : t141 = t125
  rotate_left
  ·rw [if_neg c44] at H
   have c44b0 : (t141 == t125) = false := beq_eq_false_iff_ne.mpr c44
   have c44b1 : (t141 != t125) = true := bne_iff_ne.mpr c44
   (first | rw [c44b0] | (simp only [i64_w, i32_w]; rw [c44b0]) | skip)
   exact absurd H (by rw [hrt.out]; cases k <;> simp [laws_FnExactFarthestState.j0])
  rw [if_pos c44] at H
  have c44b0 : (t141 == t125) = true := beq_iff_eq.mpr c44
  have c44b1 : (t141 != t125) = false := bne_eq_false_iff_eq.mpr c44
  clear c44
  (first | rw [c44b0] | (simp only [i64_w, i32_w]; rw [c44b0]) | skip)
  have H' := Aside0.mk H
  clear H
  have hnb45 := NB143_111.out
  have hnc45 := NB111_143.out
  have hnb46 := NB143_127.out
  have hnc46 := NB127_143.out
  have hnb47 := NB143_134.out
  have hnc47 := NB134_143.out
  have hcz48_0 := bc0 BK143
  have hcz48_1 := bc1 BK143
  have hfz48_0 := blk_frozen BK143.out 0
  have hfz48_1 := blk_frozen BK143.out 1
  have hnb49 := NB127_111.out
  have hnc49 := NB111_127.out
  have hnb50 := NB127_134.out
  have hnc50 := NB134_127.out
  have hcz51_0 := bc0 BK127
  have hcz51_1 := bc1 BK127
  have hfz51_0 := blk_frozen BK127.out 0
  have hfz51_1 := blk_frozen BK127.out 1
  go_wp2_with (first | ((with_reducible refine gate_callee (f := 22) rfl ?_); refine gl 43 Try.func22 #[.agg #[.slice Ao36 t135.length co36, .slice Ao41 t138.length co41], .agg #[.slice Ao22 t119.length co22, .slice Ao25 t122.length co25]] ?_; (with_reducible refine (laws_eqVessels.calls k _ _ t135 _ _ t138 _ _ t119 _ _ t122 true _ ?side1 ?side2 ?side3 ?side4 ?side5 ?side6 ?side7 ?side8 A42.out).mono ?_); (case side1 => refine (Kd.R_reads' (e := 3) (base := w.heap.size) (ok := fun k_ => ((((((some k_ ≠ (.slice Ao41 t138.length co41 : Value).ownBlock ∧ some k_ ≠ (.slice Ao18 t113.length co18 : Value).ownBlock) ∧ some k_ ≠ (.slice Ao19 t116.length co19 : Value).ownBlock) ∧ some k_ ≠ (.slice Ao22 t119.length co22 : Value).ownBlock) ∧ some k_ ≠ (.slice Ao25 t122.length co25 : Value).ownBlock) ∧ some k_ ≠ (.slice Ao29 t128.length co29 : Value).ownBlock) ∧ some k_ ≠ (.slice Ao33 t131.length co33 : Value).ownBlock)) (n := t135.length) (c := co36) ?_).2.2; exact (by (with_reducible repeat (first | apply Kd.R_alloc | apply Kd.R_drewN | apply Kd.R_drew)); exact (Kd.R_mono (Kd.R_far (p := ⟨gb143, 1, none⟩) (Kd.R_far (p := ⟨gb143, 0, none⟩) (Kd.R_types HO137.out BK143.out (by decide)) (fun _ hk => hk.2) (.slice Ao36 t135.length co36)) (fun _ hk => hk.2) (.slice Ao41 t138.length co41)) (fun _ h_ => h_.1)))); (case side2 => exact (Kd.R_reads' HO137.out).2.1); (case side3 => refine (Kd.R_reads' (e := 3) (base := w.heap.size) (ok := fun k_ => ((((((some k_ ≠ (.slice Ao36 t135.length co36 : Value).ownBlock ∧ some k_ ≠ (.slice Ao18 t113.length co18 : Value).ownBlock) ∧ some k_ ≠ (.slice Ao19 t116.length co19 : Value).ownBlock) ∧ some k_ ≠ (.slice Ao22 t119.length co22 : Value).ownBlock) ∧ some k_ ≠ (.slice Ao25 t122.length co25 : Value).ownBlock) ∧ some k_ ≠ (.slice Ao29 t128.length co29 : Value).ownBlock) ∧ some k_ ≠ (.slice Ao33 t131.length co33 : Value).ownBlock)) (n := t138.length) (c := co41) ?_).2.2; exact (by (with_reducible repeat (first | apply Kd.R_alloc | apply Kd.R_drewN | apply Kd.R_drew)); exact (Kd.R_mono (Kd.R_far (p := ⟨gb143, 1, none⟩) (Kd.R_far (p := ⟨gb143, 0, none⟩) (Kd.R_types HO140.out BK143.out (by decide)) (fun _ hk => hk.2) (.slice Ao36 t135.length co36)) (fun _ hk => hk.2) (.slice Ao41 t138.length co41)) (fun _ h_ => h_.1)))); (case side4 => exact (Kd.R_reads' HO140.out).2.1); (case side5 => refine (Kd.R_reads' (e := 3) (base := w.heap.size) (ok := fun k_ => ((((((some k_ ≠ (.slice Ao25 t122.length co25 : Value).ownBlock ∧ some k_ ≠ (.slice Ao18 t113.length co18 : Value).ownBlock) ∧ some k_ ≠ (.slice Ao19 t116.length co19 : Value).ownBlock) ∧ some k_ ≠ (.slice Ao29 t128.length co29 : Value).ownBlock) ∧ some k_ ≠ (.slice Ao33 t131.length co33 : Value).ownBlock) ∧ some k_ ≠ (.slice Ao36 t135.length co36 : Value).ownBlock) ∧ some k_ ≠ (.slice Ao41 t138.length co41 : Value).ownBlock)) (n := t119.length) (c := co22) ?_).2.2; exact (by (with_reducible repeat (first | apply Kd.R_alloc | apply Kd.R_drewN | apply Kd.R_drew)); exact (Kd.R_mono (Kd.R_far (p := ⟨gb143, 1, none⟩) (Kd.R_far (p := ⟨gb143, 0, none⟩) (Kd.R_types HO121.out BK143.out (by decide)) (fun _ hk => hk.2) (.slice Ao36 t135.length co36)) (fun _ hk => hk.2) (.slice Ao41 t138.length co41)) (fun _ h_ => h_.1)))); (case side6 => exact (Kd.R_reads' HO121.out).2.1); (case side7 => refine (Kd.R_reads' (e := 3) (base := w.heap.size) (ok := fun k_ => ((((((some k_ ≠ (.slice Ao22 t119.length co22 : Value).ownBlock ∧ some k_ ≠ (.slice Ao18 t113.length co18 : Value).ownBlock) ∧ some k_ ≠ (.slice Ao19 t116.length co19 : Value).ownBlock) ∧ some k_ ≠ (.slice Ao29 t128.length co29 : Value).ownBlock) ∧ some k_ ≠ (.slice Ao33 t131.length co33 : Value).ownBlock) ∧ some k_ ≠ (.slice Ao36 t135.length co36 : Value).ownBlock) ∧ some k_ ≠ (.slice Ao41 t138.length co41 : Value).ownBlock)) (n := t122.length) (c := co25) ?_).2.2; exact (by (with_reducible repeat (first | apply Kd.R_alloc | apply Kd.R_drewN | apply Kd.R_drew)); exact (Kd.R_mono (Kd.R_far (p := ⟨gb143, 1, none⟩) (Kd.R_far (p := ⟨gb143, 0, none⟩) (Kd.R_types HO124.out BK143.out (by decide)) (fun _ hk => hk.2) (.slice Ao36 t135.length co36)) (fun _ hk => hk.2) (.slice Ao41 t138.length co41)) (fun _ h_ => h_.1)))); (case side8 => exact (Kd.R_reads' HO124.out).2.1); rintro e w52 ⟨rfl, hb⟩; refine ⟨_, rfl, ?_⟩; replace HO115 := Aside0.mk (Kd.R_below (by (with_reducible repeat (first | apply Kd.R_alloc | apply Kd.R_drewN | apply Kd.R_drew)); exact (Kd.R_mono (Kd.R_far (p := ⟨gb143, 1, none⟩) (Kd.R_far (p := ⟨gb143, 0, none⟩) (Kd.R_types HO115.out BK143.out (by decide)) (fun _ hk => hk.2) (.slice Ao36 t135.length co36)) (fun _ hk => hk.2) (.slice Ao41 t138.length co41)) (fun _ h_ => h_.1))) hb); replace HO118 := Aside0.mk (Kd.R_below (by (with_reducible repeat (first | apply Kd.R_alloc | apply Kd.R_drewN | apply Kd.R_drew)); exact (Kd.R_mono (Kd.R_far (p := ⟨gb143, 1, none⟩) (Kd.R_far (p := ⟨gb143, 0, none⟩) (Kd.R_types HO118.out BK143.out (by decide)) (fun _ hk => hk.2) (.slice Ao36 t135.length co36)) (fun _ hk => hk.2) (.slice Ao41 t138.length co41)) (fun _ h_ => h_.1))) hb); replace HO121 := Aside0.mk (Kd.R_below (by (with_reducible repeat (first | apply Kd.R_alloc | apply Kd.R_drewN | apply Kd.R_drew)); exact (Kd.R_mono (Kd.R_far (p := ⟨gb143, 1, none⟩) (Kd.R_far (p := ⟨gb143, 0, none⟩) (Kd.R_types HO121.out BK143.out (by decide)) (fun _ hk => hk.2) (.slice Ao36 t135.length co36)) (fun _ hk => hk.2) (.slice Ao41 t138.length co41)) (fun _ h_ => h_.1))) hb); replace HO124 := Aside0.mk (Kd.R_below (by (with_reducible repeat (first | apply Kd.R_alloc | apply Kd.R_drewN | apply Kd.R_drew)); exact (Kd.R_mono (Kd.R_far (p := ⟨gb143, 1, none⟩) (Kd.R_far (p := ⟨gb143, 0, none⟩) (Kd.R_types HO124.out BK143.out (by decide)) (fun _ hk => hk.2) (.slice Ao36 t135.length co36)) (fun _ hk => hk.2) (.slice Ao41 t138.length co41)) (fun _ h_ => h_.1))) hb); replace HO130 := Aside0.mk (Kd.R_below (by (with_reducible repeat (first | apply Kd.R_alloc | apply Kd.R_drewN | apply Kd.R_drew)); exact (Kd.R_mono (Kd.R_far (p := ⟨gb143, 1, none⟩) (Kd.R_far (p := ⟨gb143, 0, none⟩) (Kd.R_types HO130.out BK143.out (by decide)) (fun _ hk => hk.2) (.slice Ao36 t135.length co36)) (fun _ hk => hk.2) (.slice Ao41 t138.length co41)) (fun _ h_ => h_.1))) hb); replace HO133 := Aside0.mk (Kd.R_below (by (with_reducible repeat (first | apply Kd.R_alloc | apply Kd.R_drewN | apply Kd.R_drew)); exact (Kd.R_mono (Kd.R_far (p := ⟨gb143, 1, none⟩) (Kd.R_far (p := ⟨gb143, 0, none⟩) (Kd.R_types HO133.out BK143.out (by decide)) (fun _ hk => hk.2) (.slice Ao36 t135.length co36)) (fun _ hk => hk.2) (.slice Ao41 t138.length co41)) (fun _ h_ => h_.1))) hb); replace HO137 := Aside0.mk (Kd.R_below (by (with_reducible repeat (first | apply Kd.R_alloc | apply Kd.R_drewN | apply Kd.R_drew)); exact (Kd.R_mono (Kd.R_far (p := ⟨gb143, 1, none⟩) (Kd.R_far (p := ⟨gb143, 0, none⟩) (Kd.R_types HO137.out BK143.out (by decide)) (fun _ hk => hk.2) (.slice Ao36 t135.length co36)) (fun _ hk => hk.2) (.slice Ao41 t138.length co41)) (fun _ h_ => h_.1))) hb); replace HO140 := Aside0.mk (Kd.R_below (by (with_reducible repeat (first | apply Kd.R_alloc | apply Kd.R_drewN | apply Kd.R_drew)); exact (Kd.R_mono (Kd.R_far (p := ⟨gb143, 1, none⟩) (Kd.R_far (p := ⟨gb143, 0, none⟩) (Kd.R_types HO140.out BK143.out (by decide)) (fun _ hk => hk.2) (.slice Ao36 t135.length co36)) (fun _ hk => hk.2) (.slice Ao41 t138.length co41)) (fun _ h_ => h_.1))) hb); replace BK111 := bb BK111 hb; replace BK127 := bb BK127 hb; replace BK134 := bb BK134 hb; replace BK143 := Aside0.mk (blk_below (g := gb143) (o := .cells #[.slice Ao36 t135.length co36, .slice Ao41 t138.length co41] 29 (0, 0)) (by (with_reducible repeat (first | refine blk_drewN ?_ _ | refine blk_drew ?_ | refine blk_alloc ?_ _)); refine blk_put (cs := #[.slice Ao36 t135.length co36, .slice none 0 0]) ?_ 1 _ rfl; (with_reducible repeat (first | refine blk_drewN ?_ _ | refine blk_drew ?_ | refine blk_alloc ?_ _)); refine blk_put (cs := #[.slice none 0 0, .slice none 0 0]) ?_ 0 _ rfl; exact bk BK143) hb); replace HB := bs HB hb; (try clear hb)))
  go_meet
  case rel => exact ⟨_, ((t142 != t126)), (by first | rfl | (simp; done) | (simp [*]; done)), H', ⟨by first | omega | exact Nat.le_refl _⟩, ⟨by (with_reducible repeat (first | apply Kd.R_alloc | apply Kd.R_drewN | apply Kd.R_drew)); exact Kd.R_mono HO121.out (fun _ hk => ⟨hk.1.1.1.1.1.1, ⟨hk.1.1.1.2, ⟨hk.1.1.2, ⟨hk.1.2, hk.2⟩⟩⟩⟩)⟩, ⟨by (with_reducible repeat (first | apply Kd.R_alloc | apply Kd.R_drewN | apply Kd.R_drew)); exact Kd.R_mono HO124.out (fun _ hk => ⟨hk.1.1.1.1.1.1, ⟨hk.1.1.1.2, ⟨hk.1.1.2, ⟨hk.1.2, hk.2⟩⟩⟩⟩)⟩, ⟨by (with_reducible repeat (first | apply Kd.R_alloc | apply Kd.R_drewN | apply Kd.R_drew)); exact Kd.R_mono HO130.out (fun _ hk => ⟨hk.1.1.1.2, ⟨hk.1.1.2, ⟨hk.1.1.1.1.1.1, ⟨hk.1.2, hk.2⟩⟩⟩⟩)⟩, ⟨by (with_reducible repeat (first | apply Kd.R_alloc | apply Kd.R_drewN | apply Kd.R_drew)); exact Kd.R_mono HO133.out (fun _ hk => ⟨hk.1.1.1.2, ⟨hk.1.1.2, ⟨hk.1.1.1.1.1.1, ⟨hk.1.2, hk.2⟩⟩⟩⟩)⟩, ⟨by (with_reducible repeat (first | apply Kd.R_alloc | apply Kd.R_drewN | apply Kd.R_drew)); exact Kd.R_mono HO137.out (fun _ hk => ⟨hk.1.1.1.2, ⟨hk.1.1.2, ⟨hk.1.2, ⟨hk.2, hk.1.1.1.1.1.1⟩⟩⟩⟩)⟩, ⟨by (with_reducible repeat (first | apply Kd.R_alloc | apply Kd.R_drewN | apply Kd.R_drew)); exact Kd.R_mono HO140.out (fun _ hk => ⟨hk.1.1.1.2, ⟨hk.1.1.2, ⟨hk.1.2, ⟨hk.2, hk.1.1.1.1.1.1⟩⟩⟩⟩)⟩, ⟨bk BK111⟩, ⟨bk BK127⟩, ⟨bk BK134⟩, ⟨bk BK143⟩, ⟨bw HB⟩⟩
 case rest =>
  clear HC12
  try clear c1
  try clear c2
  try clear p2
  try clear c3
  try clear c4
  try clear c4b0
  try clear c5
  try clear c11
  try clear c17
  try clear c19
  try clear c22
  try clear c23
  try clear c30
  try clear c31
  try clear c37
  try clear c38
  try clear c39
  try clear c42
  try clear c43
  try clear c44
  try clear c44b0
  try clear c44b1
  try clear c45
  try clear c46
  try clear c47
  try clear c49
  try clear c50
  try clear hcz14_0
  try clear hcz14_1
  try clear hcz16_0
  try clear hcz16_1
  try clear hcz24_0
  try clear hcz24_1
  try clear hcz26_0
  try clear hcz26_1
  try clear hcz32_0
  try clear hcz32_1
  try clear hcz40_0
  try clear hcz40_1
  try clear hcz48_0
  try clear hcz48_1
  try clear hcz51_0
  try clear hcz51_1
  try clear hcz6_0
  try clear hcz6_1
  try clear hfz14_0
  try clear hfz14_1
  try clear hfz16_0
  try clear hfz16_1
  try clear hfz24_0
  try clear hfz24_1
  try clear hfz26_0
  try clear hfz26_1
  try clear hfz32_0
  try clear hfz32_1
  try clear hfz40_0
  try clear hfz40_1
  try clear hfz48_0
  try clear hfz48_1
  try clear hfz51_0
  try clear hfz51_1
  try clear hfz6_0
  try clear hfz6_1
  obtain ⟨kq, x54_11, rfl, HA, HJ11, HO_128000, HO_128001, HO_135000, HO_135001, HO_144000, HO_144001, BK111, BK127, BK134, BK143, HB⟩ := hcut
  cases kq with
  | zero => exact absurd HA.out (by simp [laws_FnExactFarthestState.j0])
  | succ kj11 =>
   have H := HA.out
   clear HA
   simp only [laws_FnExactFarthestState.j0] at H
   by_cases c53 : x54_11 = true
   ·subst c53
    have H1 : (some false) = some r := by rw [if_pos rfl] at H; exact H
    clear H
    have H := H1
    clear H1
    exact absurd ((Option.some.inj H).trans hrt.out) (by decide)
   replace c53 := Bool.eq_false_iff.mpr c53
   subst c53
   have H1 : ((laws_toVessels.f kj11 l0_0 l0_1).bind fun bt145 => ((laws_eqVessels.f kj11 t128 t131 bt145.1 bt145.2).bind fun t151 => (if t151 = true then ((laws_markVessels.f kj11 t128 t131 1).bind fun bt152 => (if bt152.1 < 0 then (laws_FnExactFarthestState.j1 kj11 a1 t125 t126 true l0_0 l0_1 t119 t122 t135 t138) else ((laws_eqVessels.f kj11 t135 t138 t119 t122).bind fun t155 => (if t155 = true then (if t141 = t125 then (laws_FnExactFarthestState.j1 kj11 a1 t125 t126 (t142 != t126) l0_0 l0_1 t119 t122 t135 t138) else (laws_FnExactFarthestState.j1 kj11 a1 t125 t126 true l0_0 l0_1 t119 t122 t135 t138)) else (laws_FnExactFarthestState.j1 kj11 a1 t125 t126 true l0_0 l0_1 t119 t122 t135 t138))))) else (some false)))) = some r := by rw [if_neg (show ¬ (false = true) by decide)] at H; exact H
   clear H
   have H := H1
   clear H1
   replace H := Option.bind_eq_some_iff.mp H
   obtain ⟨⟨t145, t148⟩, A540, H⟩ := H
   replace H : ((laws_eqVessels.f kj11 t128 t131 t145 t148).bind fun t151 => (if t151 = true then ((laws_markVessels.f kj11 t128 t131 1).bind fun bt152 => (if bt152.1 < 0 then (laws_FnExactFarthestState.j1 kj11 a1 t125 t126 true l0_0 l0_1 t119 t122 t135 t138) else ((laws_eqVessels.f kj11 t135 t138 t119 t122).bind fun t155 => (if t155 = true then (if t141 = t125 then (laws_FnExactFarthestState.j1 kj11 a1 t125 t126 (t142 != t126) l0_0 l0_1 t119 t122 t135 t138) else (laws_FnExactFarthestState.j1 kj11 a1 t125 t126 true l0_0 l0_1 t119 t122 t135 t138)) else (laws_FnExactFarthestState.j1 kj11 a1 t125 t126 true l0_0 l0_1 t119 t122 t135 t138))))) else (some false))) = some r := H
   have A54 := Aside0.mk A540
   clear A540
   replace H := Option.bind_eq_some_iff.mp H
   obtain ⟨t151, A550, H⟩ := H
   replace H : (if t151 = true then ((laws_markVessels.f kj11 t128 t131 1).bind fun bt152 => (if bt152.1 < 0 then (laws_FnExactFarthestState.j1 kj11 a1 t125 t126 true l0_0 l0_1 t119 t122 t135 t138) else ((laws_eqVessels.f kj11 t135 t138 t119 t122).bind fun t155 => (if t155 = true then (if t141 = t125 then (laws_FnExactFarthestState.j1 kj11 a1 t125 t126 (t142 != t126) l0_0 l0_1 t119 t122 t135 t138) else (laws_FnExactFarthestState.j1 kj11 a1 t125 t126 true l0_0 l0_1 t119 t122 t135 t138)) else (laws_FnExactFarthestState.j1 kj11 a1 t125 t126 true l0_0 l0_1 t119 t122 t135 t138))))) else (some false)) = some r := H
   have A55 := Aside0.mk A550
   clear A550
   by_cases c56 : t151 = true
   rotate_left
   ·replace c56 := Bool.eq_false_iff.mpr c56
    subst c56
    have H1 : (some false) = some r := by rw [if_neg (show ¬ (false = true) by decide)] at H; exact H
    clear H
    have H := H1
    clear H1
    exact absurd ((Option.some.inj H).trans hrt.out) (by decide)
   subst c56
   have H1 : ((laws_markVessels.f kj11 t128 t131 1).bind fun bt152 => (if bt152.1 < 0 then (laws_FnExactFarthestState.j1 kj11 a1 t125 t126 true l0_0 l0_1 t119 t122 t135 t138) else ((laws_eqVessels.f kj11 t135 t138 t119 t122).bind fun t155 => (if t155 = true then (if t141 = t125 then (laws_FnExactFarthestState.j1 kj11 a1 t125 t126 (t142 != t126) l0_0 l0_1 t119 t122 t135 t138) else (laws_FnExactFarthestState.j1 kj11 a1 t125 t126 true l0_0 l0_1 t119 t122 t135 t138)) else (laws_FnExactFarthestState.j1 kj11 a1 t125 t126 true l0_0 l0_1 t119 t122 t135 t138))))) = some r := by rw [if_pos rfl] at H; exact H
   clear H
   have H := H1
   clear H1
   replace H := Option.bind_eq_some_iff.mp H
   obtain ⟨⟨t152, t153, t154⟩, A570, H⟩ := H
   replace H : (if t152 < 0 then (laws_FnExactFarthestState.j1 kj11 a1 t125 t126 true l0_0 l0_1 t119 t122 t135 t138) else ((laws_eqVessels.f kj11 t135 t138 t119 t122).bind fun t155 => (if t155 = true then (if t141 = t125 then (laws_FnExactFarthestState.j1 kj11 a1 t125 t126 (t142 != t126) l0_0 l0_1 t119 t122 t135 t138) else (laws_FnExactFarthestState.j1 kj11 a1 t125 t126 true l0_0 l0_1 t119 t122 t135 t138)) else (laws_FnExactFarthestState.j1 kj11 a1 t125 t126 true l0_0 l0_1 t119 t122 t135 t138)))) = some r := H
   have A57 := Aside0.mk A570
   clear A570
   have HC58 := Aside0.mk H
   clear H
   try go_wp2
   replace HO_128000 := Aside0.mk (Kd.R_drew HO_128000.out)
   replace HO_128001 := Aside0.mk (Kd.R_drew HO_128001.out)
   replace HO_135000 := Aside0.mk (Kd.R_drew HO_135000.out)
   replace HO_135001 := Aside0.mk (Kd.R_drew HO_135001.out)
   replace HO_144000 := Aside0.mk (Kd.R_drew HO_144000.out)
   replace HO_144001 := Aside0.mk (Kd.R_drew HO_144001.out)
   replace BK111 := Aside0.mk (blk_drew BK111.out)
   replace BK127 := Aside0.mk (blk_drew BK127.out)
   replace BK134 := Aside0.mk (blk_drew BK134.out)
   replace BK143 := Aside0.mk (blk_drew BK143.out)
   replace HB := Aside0.mk (below_drew1 HB.out)
   refine start_ (n := 5) (S := fun w' => w'.cell? ⟨gb134, 0, none⟩ = some (.slice Ao29 t128.length co29) ∧ w'.cell? ⟨gb134, 1, none⟩ = some (.slice Ao33 t131.length co33) ∧ w'.cell? ⟨gb111, 0, none⟩ = some (.slice A0_0 l0_0.length c0_0) ∧ w'.cell? ⟨gb111, 1, none⟩ = some (.slice A0_1 l0_1.length c0_1)) (ds := []) #[false, false, false, false, false] (by kernel_rfl) rfl rfl ⟨bc0 BK134, bc1 BK134, bc0 BK111, bc1 BK111⟩ (fun hHeld => ?_)
   generalize wc.drew = w59 at HO_128000 HO_128001 HO_135000 HO_135001 HO_144000 HO_144001 BK111 BK127 BK134 BK143 HB hHeld ⊢
   refine take_ (i := 0) (N := some 55) (v := ?_) (a' := ?_) #[true, false, false, false, false] rfl rfl (by kernel_rfl) (fun _ _ _ h => h) (Or.inl ⟨by rfl, ?_⟩) hHeld ?_ ?_
   rotate_left
   ·rintro w' ⟨s0, s1, s2, s3⟩
    go_simp
    with_reducible rfl
   rotate_left
   ·simp only [sqa, sqb, sqc, sqd, i64_w, i32_w]
    rfl
   refine take_ (i := 1) (N := some 56) (v := ?_) (a' := ?_) #[true, true, false, false, false] rfl rfl (by kernel_rfl) (fun _ _ _ h => h) (Or.inl ⟨by rfl, ?_⟩) hHeld ?_ ?_
   rotate_left
   ·rintro w' ⟨s0, s1, s2, s3⟩
    go_simp
    with_reducible rfl
   rotate_left
   ·simp only [sqa, sqb, sqc, sqd, i64_w, i32_w]
    rfl
   refine one_ (i := 2) (N := some 57) #[true, true, true, false, false] rfl rfl (by kernel_rfl) (by decide) (fun K hK => ?_)
   refine gs Try.func19 #[.agg #[.slice A0_0 l0_0.length c0_0, .slice A0_1 l0_1.length c0_1]] ?_
   with_reducible refine (laws_toVessels.calls kj11 _ _ l0_0 _ _ l0_1 t145 t148 _ ?side1 ?side2 ?side3 ?side4 A54.out).mono ?_
   (case side1 => exact ck HR0_0 HB)
   (case side2 => exact HC0_0.out)
   (case side3 => exact ck HR0_1 HB)
   (case side4 => exact HC0_1.out)
   rintro e w60 ⟨v146, v149, rfl, ho0, ho1, hb⟩
   refine ⟨_, rfl, ?_⟩
   have HO147 := Aside0.mk (Kd.R_lower (Kd.R_new' (Kd.R_new' (Kd.R_new' (Kd.R_new' (Kd.R_new' (Kd.R_new' ho0 (Kd.R_lt (rk HO_128000))) (Kd.R_lt (rk HO_128001))) (Kd.R_lt (rk HO_135000))) (Kd.R_lt (rk HO_135001))) (Kd.R_lt (rk HO_144000))) (Kd.R_lt (rk HO_144001))) (below_size (bw HB)))
   have HO150 := Aside0.mk (Kd.R_lower (Kd.R_new' (Kd.R_new' (Kd.R_new' (Kd.R_new' (Kd.R_new' (Kd.R_new' ho1 (Kd.R_lt (rk HO_128000))) (Kd.R_lt (rk HO_128001))) (Kd.R_lt (rk HO_135000))) (Kd.R_lt (rk HO_135001))) (Kd.R_lt (rk HO_144000))) (Kd.R_lt (rk HO_144001))) (below_size (bw HB)))
   replace HO_128000 := Aside0.mk (Kd.R_mono (Kd.R_told (Kd.R_told (Kd.R_old (rk HO_128000) hb) (Kd.R_base ho0)) (Kd.R_base ho1)) (fun _ h_ => h_.1))
   replace HO_128001 := Aside0.mk (Kd.R_mono (Kd.R_told (Kd.R_told (Kd.R_old (rk HO_128001) hb) (Kd.R_base ho0)) (Kd.R_base ho1)) (fun _ h_ => h_.1))
   replace HO_135000 := Aside0.mk (Kd.R_mono (Kd.R_told (Kd.R_told (Kd.R_old (rk HO_135000) hb) (Kd.R_base ho0)) (Kd.R_base ho1)) (fun _ h_ => h_.1))
   replace HO_135001 := Aside0.mk (Kd.R_mono (Kd.R_told (Kd.R_told (Kd.R_old (rk HO_135001) hb) (Kd.R_base ho0)) (Kd.R_base ho1)) (fun _ h_ => h_.1))
   replace HO_144000 := Aside0.mk (Kd.R_mono (Kd.R_told (Kd.R_told (Kd.R_old (rk HO_144000) hb) (Kd.R_base ho0)) (Kd.R_base ho1)) (fun _ h_ => h_.1))
   replace HO_144001 := Aside0.mk (Kd.R_mono (Kd.R_told (Kd.R_told (Kd.R_old (rk HO_144001) hb) (Kd.R_base ho0)) (Kd.R_base ho1)) (fun _ h_ => h_.1))
   replace BK111 := bb BK111 hb
   replace BK127 := bb BK127 hb
   replace BK134 := bb BK134 hb
   replace BK143 := bb BK143 hb
   replace HB := bs HB hb
   (try clear hb)
   (try clear hb2)
   (try clear hk)
   (try clear hi)
   (try clear ho0)
   (try clear ho1)
   obtain ⟨Ao61, co61, eo61⟩ := Kd.R_slice HO147.out
   (first | subst eo61 | (injection eo61 with f1_ f2_ f3_; have f4_ := f1_.symm; have f5_ := f3_.symm; clear f1_ f2_ f3_; subst f4_; subst f5_))
   obtain ⟨Ao62, co62, eo62⟩ := Kd.R_slice HO150.out
   (first | subst eo62 | (injection eo62 with f1_ f2_ f3_; have f4_ := f1_.symm; have f5_ := f3_.symm; clear f1_ f2_ f3_; subst f4_; subst f5_))
   refine hK.out _ _ ⟨bc0 BK134, bc1 BK134, bc0 BK111, bc1 BK111⟩ (fun hHeld => ?_)
   clear hK K
   refine norm_ (a' := ?_) ?_ ?_
   rotate_left
   ·show Act.put _ (some 57) _ = _
    simp only [sqa, sqb, sqc, sqd, i64_w, i32_w]
    rfl
   refine one_ (i := 3) (N := some 58) #[true, true, true, true, false] rfl rfl (by kernel_rfl) (by decide) (fun K hK => ?_)
   refine gs Try.func22 #[.agg #[.slice Ao29 t128.length co29, .slice Ao33 t131.length co33], .agg #[.slice Ao61 t145.length co61, .slice Ao62 t148.length co62]] ?_
   with_reducible refine (laws_eqVessels.calls kj11 _ _ t128 _ _ t131 _ _ t145 _ _ t148 true _ ?side1 ?side2 ?side3 ?side4 ?side5 ?side6 ?side7 ?side8 A55.out).mono ?_
   (case side1 => exact cr HO_135000)
   (case side2 => exact (Kd.R_reads' HO_135000.out).2.1)
   (case side3 => exact cr HO_135001)
   (case side4 => exact (Kd.R_reads' HO_135001.out).2.1)
   (case side5 => exact cr HO147)
   (case side6 => exact (Kd.R_reads' HO147.out).2.1)
   (case side7 => exact cr HO150)
   (case side8 => exact (Kd.R_reads' HO150.out).2.1)
   rintro e w63 ⟨rfl, hb⟩
   refine ⟨_, rfl, ?_⟩
   replace HO_128000 := rb HO_128000 hb
   replace HO_128001 := rb HO_128001 hb
   replace HO_135000 := rb HO_135000 hb
   replace HO_135001 := rb HO_135001 hb
   replace HO_144000 := rb HO_144000 hb
   replace HO_144001 := rb HO_144001 hb
   replace HO147 := rb HO147 hb
   replace HO150 := rb HO150 hb
   replace BK111 := bb BK111 hb
   replace BK127 := bb BK127 hb
   replace BK134 := bb BK134 hb
   replace BK143 := bb BK143 hb
   replace HB := bs HB hb
   (try clear hb)
   (try clear hb2)
   (try clear hk)
   (try clear hi)
   refine hK.out _ _ ⟨bc0 BK134, bc1 BK134, bc0 BK111, bc1 BK111⟩ (fun hHeld => ?_)
   clear hK K
   refine norm_ (a' := ?_) ?_ ?_
   rotate_left
   ·show Act.put _ (some 58) _ = _
    simp only [sqa, sqb, sqc, sqd, i64_w, i32_w]
    rfl
   refine pure_ (i := 4) (N := some 59) (v := ?_) (a' := ?_) #[true, true, true, true, true] rfl rfl (by kernel_rfl) (fun _ _ _ h => h) (Or.inl ⟨by rfl, ?_⟩) ?_ ?_
   rotate_left
   ·intro w'
    go_simp
    with_reducible rfl
   rotate_left
   ·simp only [sqa, sqb, sqc, sqd, i64_w, i32_w]
    rfl
   refine done_ (by kernel_rfl) ?_
   have hnb64 := NB134_111.out
   have hnc64 := NB111_134.out
   have hnb65 := NB134_127.out
   have hnc65 := NB127_134.out
   have hnb66 := NB134_143.out
   have hnc66 := NB143_134.out
   have hcz67_0 := bc0 BK134
   have hcz67_1 := bc1 BK134
   have hfz67_0 := blk_frozen BK134.out 0
   have hfz67_1 := blk_frozen BK134.out 1
   go_upto_region 14 with (first | ((with_reducible refine gate_callee (f := 23) rfl ?_); refine gl 62 Try.func23 #[.agg #[.slice Ao29 t128.length co29, .slice Ao33 t131.length co33], .int .i64 1] ?_; (with_reducible refine (laws_markVessels.calls kj11 (fun k_ => some k_ = (.slice Ao29 t128.length co29 : Value).ownBlock) (.slice Ao29 t128.length co29) t128 (fun k_ => some k_ = (.slice Ao33 t131.length co33 : Value).ownBlock) (.slice Ao33 t131.length co33) t131 1 t152 t153 t154 w _ ?side1 ?side2 ?side3 ?side4 ?side5 A57.out).mono ?_); (case side1 => repeat (first | (with_reducible first | exact HB.out | apply below_alloc | apply pw_below_drewN | apply below_drew1 | refine below_set ?_ GE111.out | refine below_set ?_ GE127.out | refine below_set ?_ GE134.out | refine below_set ?_ GE143.out) | exact HB.out)); (case side2 => exact Kd.R_tight rfl HO_135000.out); (case side3 => exact fun k_ e_ => (HO_135000.out.1 k_ e_.symm).1.1.2.2.1); (case side4 => exact Kd.R_tight rfl HO_135001.out); (case side5 => exact fun k_ e_ => (HO_135001.out.1 k_ e_.symm).1.1.2.2.1); rintro e w68 ⟨rfl, hy0, hy1, hb, hkp⟩; refine ⟨_, rfl, ?_⟩; replace HO_128000 := Aside0.mk (Kd.R_mono (ok' := fun k_ => some k_ ≠ (.slice Ao25 t122.length co25 : Value).ownBlock ∧ some k_ ≠ (.slice Ao29 t128.length co29 : Value).ownBlock ∧ some k_ ≠ (.slice Ao33 t131.length co33 : Value).ownBlock ∧ some k_ ≠ (.slice Ao36 t135.length co36 : Value).ownBlock ∧ some k_ ≠ (.slice Ao41 t138.length co41 : Value).ownBlock ∧ some k_ ≠ (.slice Ao61 t145.length co61 : Value).ownBlock ∧ some k_ ≠ (.slice Ao62 t148.length co62 : Value).ownBlock) (Kd.R_keptB (HO_128000.out) hkp (fun k_ hk_ hs_ => Or.elim hs_ (fun e_ => (hk_.1.1.2.1) e_) (fun e_ => (hk_.1.1.2.2.1) e_))) (fun k_ hk_ => ⟨hk_.1.1.1.1, hk_.1.1.1.2.1, hk_.1.1.1.2.2.1, hk_.1.1.1.2.2.2.1, hk_.1.1.1.2.2.2.2, hk_.1.1.2, hk_.1.2⟩)); replace HO_128001 := Aside0.mk (Kd.R_mono (ok' := fun k_ => some k_ ≠ (.slice Ao22 t119.length co22 : Value).ownBlock ∧ some k_ ≠ (.slice Ao29 t128.length co29 : Value).ownBlock ∧ some k_ ≠ (.slice Ao33 t131.length co33 : Value).ownBlock ∧ some k_ ≠ (.slice Ao36 t135.length co36 : Value).ownBlock ∧ some k_ ≠ (.slice Ao41 t138.length co41 : Value).ownBlock ∧ some k_ ≠ (.slice Ao61 t145.length co61 : Value).ownBlock ∧ some k_ ≠ (.slice Ao62 t148.length co62 : Value).ownBlock) (Kd.R_keptB (HO_128001.out) hkp (fun k_ hk_ hs_ => Or.elim hs_ (fun e_ => (hk_.1.1.2.1) e_) (fun e_ => (hk_.1.1.2.2.1) e_))) (fun k_ hk_ => ⟨hk_.1.1.1.1, hk_.1.1.1.2.1, hk_.1.1.1.2.2.1, hk_.1.1.1.2.2.2.1, hk_.1.1.1.2.2.2.2, hk_.1.1.2, hk_.1.2⟩)); replace HO_144000 := Aside0.mk (Kd.R_mono (ok' := fun k_ => some k_ ≠ (.slice Ao22 t119.length co22 : Value).ownBlock ∧ some k_ ≠ (.slice Ao25 t122.length co25 : Value).ownBlock ∧ some k_ ≠ (.slice Ao29 t128.length co29 : Value).ownBlock ∧ some k_ ≠ (.slice Ao33 t131.length co33 : Value).ownBlock ∧ some k_ ≠ (.slice Ao41 t138.length co41 : Value).ownBlock ∧ some k_ ≠ (.slice Ao61 t145.length co61 : Value).ownBlock ∧ some k_ ≠ (.slice Ao62 t148.length co62 : Value).ownBlock) (Kd.R_keptB (HO_144000.out) hkp (fun k_ hk_ hs_ => Or.elim hs_ (fun e_ => (hk_.1.1.2.2.1) e_) (fun e_ => (hk_.1.1.2.2.2.1) e_))) (fun k_ hk_ => ⟨hk_.1.1.1.1, hk_.1.1.1.2.1, hk_.1.1.1.2.2.1, hk_.1.1.1.2.2.2.1, hk_.1.1.1.2.2.2.2, hk_.1.1.2, hk_.1.2⟩)); replace HO_144001 := Aside0.mk (Kd.R_mono (ok' := fun k_ => some k_ ≠ (.slice Ao22 t119.length co22 : Value).ownBlock ∧ some k_ ≠ (.slice Ao25 t122.length co25 : Value).ownBlock ∧ some k_ ≠ (.slice Ao29 t128.length co29 : Value).ownBlock ∧ some k_ ≠ (.slice Ao33 t131.length co33 : Value).ownBlock ∧ some k_ ≠ (.slice Ao36 t135.length co36 : Value).ownBlock ∧ some k_ ≠ (.slice Ao61 t145.length co61 : Value).ownBlock ∧ some k_ ≠ (.slice Ao62 t148.length co62 : Value).ownBlock) (Kd.R_keptB (HO_144001.out) hkp (fun k_ hk_ hs_ => Or.elim hs_ (fun e_ => (hk_.1.1.2.2.1) e_) (fun e_ => (hk_.1.1.2.2.2.1) e_))) (fun k_ hk_ => ⟨hk_.1.1.1.1, hk_.1.1.1.2.1, hk_.1.1.1.2.2.1, hk_.1.1.1.2.2.2.1, hk_.1.1.1.2.2.2.2, hk_.1.1.2, hk_.1.2⟩)); replace BK111 := Aside0.mk (blk_kept (bk BK111) hkp (fun hs_ => Or.elim hs_ (fun e_ => (fun e_ => (Kd.R_ne HO_135000.out BK111.out (by decide)) e_) e_) (fun e_ => (fun e_ => (Kd.R_ne HO_135001.out BK111.out (by decide)) e_) e_))); replace BK127 := Aside0.mk (blk_kept (bk BK127) hkp (fun hs_ => Or.elim hs_ (fun e_ => (fun e_ => (Kd.R_ne HO_135000.out BK127.out (by decide)) e_) e_) (fun e_ => (fun e_ => (Kd.R_ne HO_135001.out BK127.out (by decide)) e_) e_))); replace BK134 := Aside0.mk (blk_kept (bk BK134) hkp (fun hs_ => Or.elim hs_ (fun e_ => (fun e_ => (Kd.R_ne HO_135000.out BK134.out (by decide)) e_) e_) (fun e_ => (fun e_ => (Kd.R_ne HO_135001.out BK134.out (by decide)) e_) e_))); replace BK143 := Aside0.mk (blk_kept (bk BK143) hkp (fun hs_ => Or.elim hs_ (fun e_ => (fun e_ => (Kd.R_ne HO_135000.out BK143.out (by decide)) e_) e_) (fun e_ => (fun e_ => (Kd.R_ne HO_135001.out BK143.out (by decide)) e_) e_))); replace HO_135000 := Aside0.mk (Kd.R_reok rfl hy0 (fun k_ e_ => HO_135000.out.1 k_ e_)); replace HO_135001 := Aside0.mk (Kd.R_reok rfl hy1 (fun k_ e_ => HO_135001.out.1 k_ e_)); replace HO147 := Aside0.mk (Kd.R_mono (ok' := fun k_ => some k_ ≠ (.slice Ao22 t119.length co22 : Value).ownBlock ∧ some k_ ≠ (.slice Ao25 t122.length co25 : Value).ownBlock ∧ some k_ ≠ (.slice Ao29 t128.length co29 : Value).ownBlock ∧ some k_ ≠ (.slice Ao33 t131.length co33 : Value).ownBlock ∧ some k_ ≠ (.slice Ao36 t135.length co36 : Value).ownBlock ∧ some k_ ≠ (.slice Ao41 t138.length co41 : Value).ownBlock ∧ some k_ ≠ (.slice Ao62 t148.length co62 : Value).ownBlock) (Kd.R_keptB (HO147.out) hkp (fun k_ hk_ hs_ => Or.elim hs_ (fun e_ => (hk_.1.1.1.2) e_) (fun e_ => (hk_.1.1.2) e_))) (fun k_ hk_ => ⟨hk_.1.1.1.1.1.1.2, hk_.1.1.1.1.1.2, hk_.1.1.1.1.2, hk_.1.1.1.2, hk_.1.1.2, hk_.1.2, hk_.1.1.1.1.1.1.1⟩)); replace HO150 := Aside0.mk (Kd.R_mono (ok' := fun k_ => some k_ ≠ (.slice Ao22 t119.length co22 : Value).ownBlock ∧ some k_ ≠ (.slice Ao25 t122.length co25 : Value).ownBlock ∧ some k_ ≠ (.slice Ao29 t128.length co29 : Value).ownBlock ∧ some k_ ≠ (.slice Ao33 t131.length co33 : Value).ownBlock ∧ some k_ ≠ (.slice Ao36 t135.length co36 : Value).ownBlock ∧ some k_ ≠ (.slice Ao41 t138.length co41 : Value).ownBlock ∧ some k_ ≠ (.slice Ao61 t145.length co61 : Value).ownBlock) (Kd.R_keptB (HO150.out) hkp (fun k_ hk_ hs_ => Or.elim hs_ (fun e_ => (hk_.1.1.1.2) e_) (fun e_ => (hk_.1.1.2) e_))) (fun k_ hk_ => ⟨hk_.1.1.1.1.1.1.2, hk_.1.1.1.1.1.2, hk_.1.1.1.1.2, hk_.1.1.1.2, hk_.1.1.2, hk_.1.2, hk_.1.1.1.1.1.1.1⟩)); replace HB := Aside0.mk (hb); (try clear hb); (try clear hkp); (try clear hy0); (try clear hy1)))
   (try simp only [Act.put, List.setIfInBounds_toArray, List.set_cons_zero, List.set_cons_succ])
   go_cut [80] (fun v80 wc => ∃ (kq : Nat) (x80_57 : Bool), v80 = .bool x80_57 ∧ Aside0 (laws_FnExactFarthestState.j1 kq a1 t125 t126 x80_57 l0_0 l0_1 t119 t122 t135 t138 = some r) ∧ Aside0 (kq ≤ kj11) ∧ Aside0 (Kd.R (Kd.int .i64) 3 wc w.heap.size (fun k_ => some k_ ≠ ((.slice Ao25 t122.length co25) : Value).ownBlock ∧ some k_ ≠ ((.slice Ao29 t128.length co29) : Value).ownBlock ∧ some k_ ≠ ((.slice Ao33 t131.length co33) : Value).ownBlock ∧ some k_ ≠ ((.slice Ao36 t135.length co36) : Value).ownBlock ∧ some k_ ≠ ((.slice Ao41 t138.length co41) : Value).ownBlock) (.slice Ao22 t119.length co22) t119) ∧ Aside0 (Kd.R (Kd.int .i64) 3 wc w.heap.size (fun k_ => some k_ ≠ ((.slice Ao22 t119.length co22) : Value).ownBlock ∧ some k_ ≠ ((.slice Ao29 t128.length co29) : Value).ownBlock ∧ some k_ ≠ ((.slice Ao33 t131.length co33) : Value).ownBlock ∧ some k_ ≠ ((.slice Ao36 t135.length co36) : Value).ownBlock ∧ some k_ ≠ ((.slice Ao41 t138.length co41) : Value).ownBlock) (.slice Ao25 t122.length co25) t122) ∧ Aside0 (Kd.R (Kd.int .i64) 3 wc w.heap.size (fun k_ => some k_ ≠ ((.slice Ao22 t119.length co22) : Value).ownBlock ∧ some k_ ≠ ((.slice Ao25 t122.length co25) : Value).ownBlock ∧ some k_ ≠ ((.slice Ao33 t131.length co33) : Value).ownBlock ∧ some k_ ≠ ((.slice Ao36 t135.length co36) : Value).ownBlock ∧ some k_ ≠ ((.slice Ao41 t138.length co41) : Value).ownBlock) (.slice Ao29 t128.length co29) t153) ∧ Aside0 (Kd.R (Kd.int .i64) 3 wc w.heap.size (fun k_ => some k_ ≠ ((.slice Ao22 t119.length co22) : Value).ownBlock ∧ some k_ ≠ ((.slice Ao25 t122.length co25) : Value).ownBlock ∧ some k_ ≠ ((.slice Ao29 t128.length co29) : Value).ownBlock ∧ some k_ ≠ ((.slice Ao36 t135.length co36) : Value).ownBlock ∧ some k_ ≠ ((.slice Ao41 t138.length co41) : Value).ownBlock) (.slice Ao33 t131.length co33) t154) ∧ Aside0 (Kd.R (Kd.int .i64) 3 wc w.heap.size (fun k_ => some k_ ≠ ((.slice Ao22 t119.length co22) : Value).ownBlock ∧ some k_ ≠ ((.slice Ao25 t122.length co25) : Value).ownBlock ∧ some k_ ≠ ((.slice Ao29 t128.length co29) : Value).ownBlock ∧ some k_ ≠ ((.slice Ao33 t131.length co33) : Value).ownBlock ∧ some k_ ≠ ((.slice Ao41 t138.length co41) : Value).ownBlock) (.slice Ao36 t135.length co36) t135) ∧ Aside0 (Kd.R (Kd.int .i64) 3 wc w.heap.size (fun k_ => some k_ ≠ ((.slice Ao22 t119.length co22) : Value).ownBlock ∧ some k_ ≠ ((.slice Ao25 t122.length co25) : Value).ownBlock ∧ some k_ ≠ ((.slice Ao29 t128.length co29) : Value).ownBlock ∧ some k_ ≠ ((.slice Ao33 t131.length co33) : Value).ownBlock ∧ some k_ ≠ ((.slice Ao36 t135.length co36) : Value).ownBlock) (.slice Ao41 t138.length co41) t138) ∧ Aside0 (wc.heap[gb111]? = some (.cells #[(.slice A0_0 l0_0.length c0_0), (.slice A0_1 l0_1.length c0_1)] 24 (0, 0))) ∧ Aside0 (wc.heap[gb127]? = some (.cells #[(.slice Ao22 t119.length co22), (.slice Ao25 t122.length co25)] 29 (0, 0))) ∧ Aside0 (wc.heap[gb134]? = some (.cells #[(.slice Ao29 t128.length co29), (.slice Ao33 t131.length co33)] 29 (0, 0))) ∧ Aside0 (wc.heap[gb143]? = some (.cells #[(.slice Ao36 t135.length co36), (.slice Ao41 t138.length co41)] 29 (0, 0))) ∧ Aside0 (Below w.heap.size w wc))
   case first =>
    have H := HC58.out
    clear HC58
    by_cases c69 : t152 < 0
    ·rw [if_pos c69] at H
     have c69b0 : decide (t152 < 0) = true := decide_eq_true c69
     clear c69
     (first | rw [c69b0] | (simp only [i64_w, i32_w]; rw [c69b0]) | skip)
     exact absurd H (by rw [hrt.out]; cases kj11 <;> simp [laws_FnExactFarthestState.j1])
    rw [if_neg c69] at H
    have c69b0 : decide (t152 < 0) = false := decide_eq_false c69
    clear c69
    (first | rw [c69b0] | (simp only [i64_w, i32_w]; rw [c69b0]) | skip)
    replace H := Option.bind_eq_some_iff.mp H
    obtain ⟨t155, A700, H⟩ := H
    replace H : (if t155 = true then (if t141 = t125 then (laws_FnExactFarthestState.j1 kj11 a1 t125 t126 (t142 != t126) l0_0 l0_1 t119 t122 t135 t138) else (laws_FnExactFarthestState.j1 kj11 a1 t125 t126 true l0_0 l0_1 t119 t122 t135 t138)) else (laws_FnExactFarthestState.j1 kj11 a1 t125 t126 true l0_0 l0_1 t119 t122 t135 t138)) = some r := H
    have A70 := Aside0.mk A700
    clear A700
    by_cases c71 : t155 = true
    rotate_left
    ·replace c71 := Bool.eq_false_iff.mpr c71
     subst c71
     have H1 : (laws_FnExactFarthestState.j1 kj11 a1 t125 t126 true l0_0 l0_1 t119 t122 t135 t138) = some r := by rw [if_neg (show ¬ (false = true) by decide)] at H; exact H
     clear H
     have H := H1
     clear H1
     exact absurd H (by rw [hrt.out]; cases kj11 <;> simp [laws_FnExactFarthestState.j1])
    subst c71
    have H1 : (if t141 = t125 then (laws_FnExactFarthestState.j1 kj11 a1 t125 t126 (t142 != t126) l0_0 l0_1 t119 t122 t135 t138) else (laws_FnExactFarthestState.j1 kj11 a1 t125 t126 true l0_0 l0_1 t119 t122 t135 t138)) = some r := by rw [if_pos rfl] at H; exact H
    clear H
    have H := H1
    clear H1
    by_cases c72 : t141 = t125
    rotate_left
    ·rw [if_neg c72] at H
     have c72b0 : (t141 == t125) = false := beq_eq_false_iff_ne.mpr c72
     have c72b1 : (t141 != t125) = true := bne_iff_ne.mpr c72
     exact absurd H (by rw [hrt.out]; cases kj11 <;> simp [laws_FnExactFarthestState.j1])
    rw [if_pos c72] at H
    have c72b0 : (t141 == t125) = true := beq_iff_eq.mpr c72
    have c72b1 : (t141 != t125) = false := bne_eq_false_iff_eq.mpr c72
    clear c72
    have H' := Aside0.mk H
    clear H
    have hnb73 := NB143_111.out
    have hnc73 := NB111_143.out
    have hnb74 := NB143_127.out
    have hnc74 := NB127_143.out
    have hnb75 := NB143_134.out
    have hnc75 := NB134_143.out
    have hcz76_0 := bc0 BK143
    have hcz76_1 := bc1 BK143
    have hfz76_0 := blk_frozen BK143.out 0
    have hfz76_1 := blk_frozen BK143.out 1
    have hnb77 := NB127_111.out
    have hnc77 := NB111_127.out
    have hnb78 := NB127_134.out
    have hnc78 := NB134_127.out
    have hcz79_0 := bc0 BK127
    have hcz79_1 := bc1 BK127
    have hfz79_0 := blk_frozen BK127.out 0
    have hfz79_1 := blk_frozen BK127.out 1
    go_wp2_with (first | (go_at_call 22; (with_reducible refine (laws_eqVessels.calls kj11 _ _ t135 _ _ t138 _ _ t119 _ _ t122 true _ ?side1 ?side2 ?side3 ?side4 ?side5 ?side6 ?side7 ?side8 A70.out).mono ?_); (case side1 => exact cr HO_144000); (case side2 => exact (Kd.R_reads' HO_144000.out).2.1); (case side3 => exact cr HO_144001); (case side4 => exact (Kd.R_reads' HO_144001.out).2.1); (case side5 => exact cr HO_128000); (case side6 => exact (Kd.R_reads' HO_128000.out).2.1); (case side7 => exact cr HO_128001); (case side8 => exact (Kd.R_reads' HO_128001.out).2.1); rintro e w80 ⟨rfl, hb⟩; replace HO_128000 := rb HO_128000 hb; replace HO_128001 := rb HO_128001 hb; replace HO_135000 := rb HO_135000 hb; replace HO_135001 := rb HO_135001 hb; replace HO_144000 := rb HO_144000 hb; replace HO_144001 := rb HO_144001 hb; replace HO147 := rb HO147 hb; replace HO150 := rb HO150 hb; replace BK111 := bb BK111 hb; replace BK127 := bb BK127 hb; replace BK134 := bb BK134 hb; replace BK143 := bb BK143 hb; replace HB := bs HB hb; (try clear hb)))
    go_meet
    case rel => exact ⟨_, ((t142 != t126)), (by first | rfl | (simp; done) | (simp [*]; done)), H', ⟨by have := HJ11.out; first | omega | exact Nat.le_refl _⟩, ⟨by (with_reducible repeat (first | apply Kd.R_alloc | apply Kd.R_drewN | apply Kd.R_drew)); exact Kd.R_mono HO_128000.out (fun _ hk => ⟨hk.1, ⟨hk.2.1, ⟨hk.2.2.1, ⟨hk.2.2.2.1, hk.2.2.2.2.1⟩⟩⟩⟩)⟩, ⟨by (with_reducible repeat (first | apply Kd.R_alloc | apply Kd.R_drewN | apply Kd.R_drew)); exact Kd.R_mono HO_128001.out (fun _ hk => ⟨hk.1, ⟨hk.2.1, ⟨hk.2.2.1, ⟨hk.2.2.2.1, hk.2.2.2.2.1⟩⟩⟩⟩)⟩, ⟨by (with_reducible repeat (first | apply Kd.R_alloc | apply Kd.R_drewN | apply Kd.R_drew)); exact Kd.R_mono HO_135000.out (fun _ hk => ⟨hk.1.1.1, ⟨hk.1.1.2.1, ⟨hk.1.1.2.2.1, ⟨hk.1.1.2.2.2.1, hk.1.1.2.2.2.2⟩⟩⟩⟩)⟩, ⟨by (with_reducible repeat (first | apply Kd.R_alloc | apply Kd.R_drewN | apply Kd.R_drew)); exact Kd.R_mono HO_135001.out (fun _ hk => ⟨hk.1.1.1, ⟨hk.1.1.2.1, ⟨hk.1.1.2.2.1, ⟨hk.1.1.2.2.2.1, hk.1.1.2.2.2.2⟩⟩⟩⟩)⟩, ⟨by (with_reducible repeat (first | apply Kd.R_alloc | apply Kd.R_drewN | apply Kd.R_drew)); exact Kd.R_mono HO_144000.out (fun _ hk => ⟨hk.1, ⟨hk.2.1, ⟨hk.2.2.1, ⟨hk.2.2.2.1, hk.2.2.2.2.1⟩⟩⟩⟩)⟩, ⟨by (with_reducible repeat (first | apply Kd.R_alloc | apply Kd.R_drewN | apply Kd.R_drew)); exact Kd.R_mono HO_144001.out (fun _ hk => ⟨hk.1, ⟨hk.2.1, ⟨hk.2.2.1, ⟨hk.2.2.2.1, hk.2.2.2.2.1⟩⟩⟩⟩)⟩, ⟨bk BK111⟩, ⟨bk BK127⟩, ⟨bk BK134⟩, ⟨bk BK143⟩, ⟨bw HB⟩⟩
   case rest =>
    clear HC58
    try clear c1
    try clear c2
    try clear p2
    try clear c3
    try clear c4
    try clear c4b0
    try clear c5
    try clear c6
    try clear c7
    try clear c11
    try clear c17
    try clear c19
    try clear c22
    try clear c23
    try clear c30
    try clear c31
    try clear c37
    try clear c38
    try clear c39
    try clear c42
    try clear c43
    try clear c44
    try clear c44b0
    try clear c44b1
    try clear c45
    try clear c46
    try clear c47
    try clear c49
    try clear c50
    try clear c53
    try clear c56
    try clear c64
    try clear c65
    try clear c66
    try clear c69
    try clear c69b0
    try clear c71
    try clear c72
    try clear c72b0
    try clear c72b1
    try clear c73
    try clear c74
    try clear c75
    try clear c77
    try clear c78
    try clear hcz14_0
    try clear hcz14_1
    try clear hcz16_0
    try clear hcz16_1
    try clear hcz24_0
    try clear hcz24_1
    try clear hcz26_0
    try clear hcz26_1
    try clear hcz32_0
    try clear hcz32_1
    try clear hcz40_0
    try clear hcz40_1
    try clear hcz48_0
    try clear hcz48_1
    try clear hcz51_0
    try clear hcz51_1
    try clear hcz67_0
    try clear hcz67_1
    try clear hcz6_0
    try clear hcz6_1
    try clear hcz76_0
    try clear hcz76_1
    try clear hcz79_0
    try clear hcz79_1
    try clear hfz14_0
    try clear hfz14_1
    try clear hfz16_0
    try clear hfz16_1
    try clear hfz24_0
    try clear hfz24_1
    try clear hfz26_0
    try clear hfz26_1
    try clear hfz32_0
    try clear hfz32_1
    try clear hfz40_0
    try clear hfz40_1
    try clear hfz48_0
    try clear hfz48_1
    try clear hfz51_0
    try clear hfz51_1
    try clear hfz67_0
    try clear hfz67_1
    try clear hfz6_0
    try clear hfz6_1
    try clear hfz76_0
    try clear hfz76_1
    try clear hfz79_0
    try clear hfz79_1
    try clear p2
    obtain ⟨kq, x80_57, rfl, HA, HJ57, HO_128000, HO_128001, HO_135000, HO_135001, HO_144000, HO_144001, BK111, BK127, BK134, BK143, HB⟩ := hcut
    have hl135000_57 := (Kd.R_reads' HO_135000.out).1
    rw [hl135000_57] at HO_135000
    (try simp only [hl135000_57])
    (try simp only [hl135000_57] at BK111)
    (try simp only [hl135000_57] at BK127)
    (try simp only [hl135000_57] at BK134)
    (try simp only [hl135000_57] at BK143)
    (try simp only [hl135000_57] at HO_128000)
    (try simp only [hl135000_57] at HO_128001)
    (try simp only [hl135000_57] at HO_135001)
    (try simp only [hl135000_57] at HO_144000)
    (try simp only [hl135000_57] at HO_144001)
    have hl135001_57 := (Kd.R_reads' HO_135001.out).1
    rw [hl135001_57] at HO_135001
    (try simp only [hl135001_57])
    (try simp only [hl135001_57] at BK111)
    (try simp only [hl135001_57] at BK127)
    (try simp only [hl135001_57] at BK134)
    (try simp only [hl135001_57] at BK143)
    (try simp only [hl135001_57] at HO_128000)
    (try simp only [hl135001_57] at HO_128001)
    (try simp only [hl135001_57] at HO_135000)
    (try simp only [hl135001_57] at HO_144000)
    (try simp only [hl135001_57] at HO_144001)
    cases kq with
    | zero => exact absurd HA.out (by simp [laws_FnExactFarthestState.j1])
    | succ kj57 =>
     have H := HA.out
     clear HA
     simp only [laws_FnExactFarthestState.j1] at H
     by_cases c81 : x80_57 = true
     ·subst c81
      have H1 : (some false) = some r := by rw [if_pos rfl] at H; exact H
      clear H
      have H := H1
      clear H1
      exact absurd ((Option.some.inj H).trans hrt.out) (by decide)
     replace c81 := Bool.eq_false_iff.mpr c81
     subst c81
     have H1 : ((laws_markVessels.f kj57 t135 t138 1).bind fun bt156 => ((laws_heldVessels.f kj57 bt156.2.1 bt156.2.2 1).bind fun t159 => (if t159 < 0 then (some false) else (if t159 = bt156.1 then ((laws_toVessels.f kj57 l0_0 l0_1).bind fun bt160 => ((impl_FarthestState.f kj57 bt160.1 bt160.2 a1).bind fun bt166 => ((laws_eqVessels.f kj57 bt166.1 bt166.2.1 t119 t122).bind fun t175 => (if t175 = true then (if bt166.2.2.1 = t125 then (laws_FnExactFarthestState.j2 kj57 bt156.1 (bt166.2.2.2 != t126) bt156.2.1 bt156.2.2) else (laws_FnExactFarthestState.j2 kj57 bt156.1 true bt156.2.1 bt156.2.2)) else (laws_FnExactFarthestState.j2 kj57 bt156.1 true bt156.2.1 bt156.2.2))))) else (some false))))) = some r := by rw [if_neg (show ¬ (false = true) by decide)] at H; exact H
     clear H
     have H := H1
     clear H1
     replace H := Option.bind_eq_some_iff.mp H
     obtain ⟨⟨t156, t157, t158⟩, A820, H⟩ := H
     replace H : ((laws_heldVessels.f kj57 t157 t158 1).bind fun t159 => (if t159 < 0 then (some false) else (if t159 = t156 then ((laws_toVessels.f kj57 l0_0 l0_1).bind fun bt160 => ((impl_FarthestState.f kj57 bt160.1 bt160.2 a1).bind fun bt166 => ((laws_eqVessels.f kj57 bt166.1 bt166.2.1 t119 t122).bind fun t175 => (if t175 = true then (if bt166.2.2.1 = t125 then (laws_FnExactFarthestState.j2 kj57 t156 (bt166.2.2.2 != t126) t157 t158) else (laws_FnExactFarthestState.j2 kj57 t156 true t157 t158)) else (laws_FnExactFarthestState.j2 kj57 t156 true t157 t158))))) else (some false)))) = some r := H
     have A82 := Aside0.mk A820
     clear A820
     replace H := Option.bind_eq_some_iff.mp H
     obtain ⟨t159, A830, H⟩ := H
     replace H : (if t159 < 0 then (some false) else (if t159 = t156 then ((laws_toVessels.f kj57 l0_0 l0_1).bind fun bt160 => ((impl_FarthestState.f kj57 bt160.1 bt160.2 a1).bind fun bt166 => ((laws_eqVessels.f kj57 bt166.1 bt166.2.1 t119 t122).bind fun t175 => (if t175 = true then (if bt166.2.2.1 = t125 then (laws_FnExactFarthestState.j2 kj57 t156 (bt166.2.2.2 != t126) t157 t158) else (laws_FnExactFarthestState.j2 kj57 t156 true t157 t158)) else (laws_FnExactFarthestState.j2 kj57 t156 true t157 t158))))) else (some false))) = some r := H
     have A83 := Aside0.mk A830
     clear A830
     by_cases c84 : t159 < 0
     ·rw [if_pos c84] at H
      have c84b0 : decide (t159 < 0) = true := decide_eq_true c84
      clear c84
      exact absurd ((Option.some.inj H).trans hrt.out) (by decide)
     rw [if_neg c84] at H
     have c84b0 : decide (t159 < 0) = false := decide_eq_false c84
     clear c84
     by_cases c85 : t159 = t156
     rotate_left
     ·rw [if_neg c85] at H
      have c85b0 : (t159 == t156) = false := beq_eq_false_iff_ne.mpr c85
      have c85b1 : (t159 != t156) = true := bne_iff_ne.mpr c85
      exact absurd ((Option.some.inj H).trans hrt.out) (by decide)
     rw [if_pos c85] at H
     have c85b0 : (t159 == t156) = true := beq_iff_eq.mpr c85
     have c85b1 : (t159 != t156) = false := bne_eq_false_iff_eq.mpr c85
     clear c85
     replace H := Option.bind_eq_some_iff.mp H
     obtain ⟨⟨t160, t163⟩, A860, H⟩ := H
     replace H : ((impl_FarthestState.f kj57 t160 t163 a1).bind fun bt166 => ((laws_eqVessels.f kj57 bt166.1 bt166.2.1 t119 t122).bind fun t175 => (if t175 = true then (if bt166.2.2.1 = t125 then (laws_FnExactFarthestState.j2 kj57 t156 (bt166.2.2.2 != t126) t157 t158) else (laws_FnExactFarthestState.j2 kj57 t156 true t157 t158)) else (laws_FnExactFarthestState.j2 kj57 t156 true t157 t158)))) = some r := H
     have A86 := Aside0.mk A860
     clear A860
     replace H := Option.bind_eq_some_iff.mp H
     obtain ⟨⟨t166, t169, t172, t173⟩, A870, H⟩ := H
     replace H : ((laws_eqVessels.f kj57 t166 t169 t119 t122).bind fun t175 => (if t175 = true then (if t172 = t125 then (laws_FnExactFarthestState.j2 kj57 t156 (t173 != t126) t157 t158) else (laws_FnExactFarthestState.j2 kj57 t156 true t157 t158)) else (laws_FnExactFarthestState.j2 kj57 t156 true t157 t158))) = some r := H
     have A87 := Aside0.mk A870
     clear A870
     have HC88 := Aside0.mk H
     clear H
     have hnb89 := NB143_111.out
     have hnc89 := NB111_143.out
     have hnb90 := NB143_127.out
     have hnc90 := NB127_143.out
     have hnb91 := NB143_134.out
     have hnc91 := NB134_143.out
     have hcz92_0 := bc0 BK143
     have hcz92_1 := bc1 BK143
     have hfz92_0 := blk_frozen BK143.out 0
     have hfz92_1 := blk_frozen BK143.out 1
     go_upto_region 25 with (first | ((with_reducible refine gate_callee (f := 23) rfl ?_); refine gl 83 Try.func23 #[.agg #[.slice Ao36 t135.length co36, .slice Ao41 t138.length co41], .int .i64 1] ?_; (with_reducible refine (laws_markVessels.calls kj57 (fun k_ => some k_ = (.slice Ao36 t135.length co36 : Value).ownBlock) (.slice Ao36 t135.length co36) t135 (fun k_ => some k_ = (.slice Ao41 t138.length co41 : Value).ownBlock) (.slice Ao41 t138.length co41) t138 1 t156 t157 t158 w _ ?side1 ?side2 ?side3 ?side4 ?side5 A82.out).mono ?_); (case side1 => repeat (first | (with_reducible first | exact HB.out | apply below_alloc | apply pw_below_drewN | apply below_drew1 | refine below_set ?_ GE111.out | refine below_set ?_ GE127.out | refine below_set ?_ GE134.out | refine below_set ?_ GE143.out) | exact HB.out)); (case side2 => exact Kd.R_tight rfl HO_144000.out); (case side3 => exact fun k_ e_ => (HO_144000.out.1 k_ e_.symm).2.2.2.2); (case side4 => exact Kd.R_tight rfl HO_144001.out); (case side5 => exact fun k_ e_ => (HO_144001.out.1 k_ e_.symm).2.2.2.2); rintro e w93 ⟨rfl, hy0, hy1, hb, hkp⟩; refine ⟨_, rfl, ?_⟩; replace HO_128000 := Aside0.mk (Kd.R_mono (ok' := fun k_ => some k_ ≠ (.slice Ao25 t122.length co25 : Value).ownBlock ∧ some k_ ≠ (.slice Ao29 t153.length co29 : Value).ownBlock ∧ some k_ ≠ (.slice Ao33 t154.length co33 : Value).ownBlock ∧ some k_ ≠ (.slice Ao36 t135.length co36 : Value).ownBlock ∧ some k_ ≠ (.slice Ao41 t138.length co41 : Value).ownBlock) (Kd.R_keptB (HO_128000.out) hkp (fun k_ hk_ hs_ => Or.elim hs_ (fun e_ => (hk_.2.2.2.1) e_) (fun e_ => (hk_.2.2.2.2) e_))) (fun k_ hk_ => ⟨hk_.1.1, hk_.1.2.1, hk_.1.2.2.1, hk_.1.2.2.2.1, hk_.1.2.2.2.2⟩)); replace HO_128001 := Aside0.mk (Kd.R_mono (ok' := fun k_ => some k_ ≠ (.slice Ao22 t119.length co22 : Value).ownBlock ∧ some k_ ≠ (.slice Ao29 t153.length co29 : Value).ownBlock ∧ some k_ ≠ (.slice Ao33 t154.length co33 : Value).ownBlock ∧ some k_ ≠ (.slice Ao36 t135.length co36 : Value).ownBlock ∧ some k_ ≠ (.slice Ao41 t138.length co41 : Value).ownBlock) (Kd.R_keptB (HO_128001.out) hkp (fun k_ hk_ hs_ => Or.elim hs_ (fun e_ => (hk_.2.2.2.1) e_) (fun e_ => (hk_.2.2.2.2) e_))) (fun k_ hk_ => ⟨hk_.1.1, hk_.1.2.1, hk_.1.2.2.1, hk_.1.2.2.2.1, hk_.1.2.2.2.2⟩)); replace HO_135000 := Aside0.mk (Kd.R_mono (ok' := fun k_ => some k_ ≠ (.slice Ao22 t119.length co22 : Value).ownBlock ∧ some k_ ≠ (.slice Ao25 t122.length co25 : Value).ownBlock ∧ some k_ ≠ (.slice Ao33 t154.length co33 : Value).ownBlock ∧ some k_ ≠ (.slice Ao36 t135.length co36 : Value).ownBlock ∧ some k_ ≠ (.slice Ao41 t138.length co41 : Value).ownBlock) (Kd.R_keptB (HO_135000.out) hkp (fun k_ hk_ hs_ => Or.elim hs_ (fun e_ => (hk_.2.2.2.1) e_) (fun e_ => (hk_.2.2.2.2) e_))) (fun k_ hk_ => ⟨hk_.1.1, hk_.1.2.1, hk_.1.2.2.1, hk_.1.2.2.2.1, hk_.1.2.2.2.2⟩)); replace HO_135001 := Aside0.mk (Kd.R_mono (ok' := fun k_ => some k_ ≠ (.slice Ao22 t119.length co22 : Value).ownBlock ∧ some k_ ≠ (.slice Ao25 t122.length co25 : Value).ownBlock ∧ some k_ ≠ (.slice Ao29 t153.length co29 : Value).ownBlock ∧ some k_ ≠ (.slice Ao36 t135.length co36 : Value).ownBlock ∧ some k_ ≠ (.slice Ao41 t138.length co41 : Value).ownBlock) (Kd.R_keptB (HO_135001.out) hkp (fun k_ hk_ hs_ => Or.elim hs_ (fun e_ => (hk_.2.2.2.1) e_) (fun e_ => (hk_.2.2.2.2) e_))) (fun k_ hk_ => ⟨hk_.1.1, hk_.1.2.1, hk_.1.2.2.1, hk_.1.2.2.2.1, hk_.1.2.2.2.2⟩)); replace BK111 := Aside0.mk (blk_kept (bk BK111) hkp (fun hs_ => Or.elim hs_ (fun e_ => (fun e_ => (Kd.R_ne HO_144000.out BK111.out (by decide)) e_) e_) (fun e_ => (fun e_ => (Kd.R_ne HO_144001.out BK111.out (by decide)) e_) e_))); replace BK127 := Aside0.mk (blk_kept (bk BK127) hkp (fun hs_ => Or.elim hs_ (fun e_ => (fun e_ => (Kd.R_ne HO_144000.out BK127.out (by decide)) e_) e_) (fun e_ => (fun e_ => (Kd.R_ne HO_144001.out BK127.out (by decide)) e_) e_))); replace BK134 := Aside0.mk (blk_kept (bk BK134) hkp (fun hs_ => Or.elim hs_ (fun e_ => (fun e_ => (Kd.R_ne HO_144000.out BK134.out (by decide)) e_) e_) (fun e_ => (fun e_ => (Kd.R_ne HO_144001.out BK134.out (by decide)) e_) e_))); replace BK143 := Aside0.mk (blk_kept (bk BK143) hkp (fun hs_ => Or.elim hs_ (fun e_ => (fun e_ => (Kd.R_ne HO_144000.out BK143.out (by decide)) e_) e_) (fun e_ => (fun e_ => (Kd.R_ne HO_144001.out BK143.out (by decide)) e_) e_))); replace HO_144000 := Aside0.mk (Kd.R_reok rfl hy0 (fun k_ e_ => HO_144000.out.1 k_ e_)); replace HO_144001 := Aside0.mk (Kd.R_reok rfl hy1 (fun k_ e_ => HO_144001.out.1 k_ e_)); replace HB := Aside0.mk (hb); (try clear hb); (try clear hkp); (try clear hy0); (try clear hy1); have hcz94_0 := bc0 BK143; have hcz94_1 := bc1 BK143; have hfz94_0 := blk_frozen BK143.out 0; have hfz94_1 := blk_frozen BK143.out 1) | ((with_reducible refine gate_callee (f := 44) rfl ?_); refine goesL_ (some 86) rfl rfl Try.func44 (by kernel_rfl) rfl #[.agg #[.slice Ao36 t157.length co36, .slice Ao41 t158.length co41], .int .i64 1] rfl (by (try simp only [List.map_toArray, List.map_cons, List.map_nil]); first | done | (rw [show t157.length = t135.length from (Kd.R_reads' HO_144000.out).1.symm, show t158.length = t138.length from (Kd.R_reads' HO_144001.out).1.symm] <;> rfl) | rfl | (simp only [List.length_drop, List.length_take]; rfl)) ?_; (with_reducible refine (laws_heldVessels.calls kj57 _ _ t157 _ _ t158 1 t159 _ ?side1 ?side2 ?side3 ?side4 A83.out).mono ?_); (case side1 => exact cr HO_144000); (case side2 => rw [show t157.length = t135.length from (Kd.R_reads' HO_144000.out).1.symm]; exact (Kd.R_reads' HO_144000.out).2.1); (case side3 => exact cr HO_144001); (case side4 => rw [show t158.length = t138.length from (Kd.R_reads' HO_144001.out).1.symm]; exact (Kd.R_reads' HO_144001.out).2.1); rintro e w95 ⟨rfl, hb⟩; refine ⟨_, rfl, ?_⟩; replace HO_128000 := rb HO_128000 hb; replace HO_128001 := rb HO_128001 hb; replace HO_135000 := rb HO_135000 hb; replace HO_135001 := rb HO_135001 hb; replace HO_144000 := rb HO_144000 hb; replace HO_144001 := rb HO_144001 hb; replace BK111 := bb BK111 hb; replace BK127 := bb BK127 hb; replace BK134 := bb BK134 hb; replace BK143 := bb BK143 hb; replace HB := bs HB hb; (try clear hb); have hnb96 := NB111_127.out; have hnc96 := NB127_111.out; have hnb97 := NB111_134.out; have hnc97 := NB134_111.out; have hcz98_0 := bc0 BK111; have hcz98_1 := bc1 BK111; have hfz98_0 := blk_frozen BK111.out 0; have hfz98_1 := blk_frozen BK111.out 1) | ((with_reducible refine gate_callee (f := 19) rfl ?_); refine gl 94 Try.func19 #[.agg #[.slice A0_0 l0_0.length c0_0, .slice A0_1 l0_1.length c0_1]] ?_; (with_reducible refine (laws_toVessels.calls kj57 _ _ l0_0 _ _ l0_1 t160 t163 _ ?side1 ?side2 ?side3 ?side4 A86.out).mono ?_); (case side1 => exact ck HR0_0 HB); (case side2 => exact HC0_0.out); (case side3 => exact ck HR0_1 HB); (case side4 => exact HC0_1.out); rintro e w99 ⟨v161, v164, rfl, ho0, ho1, hb⟩; refine ⟨_, rfl, ?_⟩; have HO162 := Aside0.mk (Kd.R_lower (Kd.R_new' (Kd.R_new' (Kd.R_new' (Kd.R_new' (Kd.R_new' (Kd.R_new' ho0 (Kd.R_lt (rk HO_128000))) (Kd.R_lt (rk HO_128001))) (Kd.R_lt (rk HO_135000))) (Kd.R_lt (rk HO_135001))) (Kd.R_lt (rk HO_144000))) (Kd.R_lt (rk HO_144001))) (below_size (bw HB))); have HO165 := Aside0.mk (Kd.R_lower (Kd.R_new' (Kd.R_new' (Kd.R_new' (Kd.R_new' (Kd.R_new' (Kd.R_new' ho1 (Kd.R_lt (rk HO_128000))) (Kd.R_lt (rk HO_128001))) (Kd.R_lt (rk HO_135000))) (Kd.R_lt (rk HO_135001))) (Kd.R_lt (rk HO_144000))) (Kd.R_lt (rk HO_144001))) (below_size (bw HB))); replace HO_128000 := Aside0.mk (Kd.R_mono (Kd.R_told (Kd.R_told (Kd.R_old (rk HO_128000) hb) (Kd.R_base ho0)) (Kd.R_base ho1)) (fun _ h_ => h_.1)); replace HO_128001 := Aside0.mk (Kd.R_mono (Kd.R_told (Kd.R_told (Kd.R_old (rk HO_128001) hb) (Kd.R_base ho0)) (Kd.R_base ho1)) (fun _ h_ => h_.1)); replace HO_135000 := Aside0.mk (Kd.R_mono (Kd.R_told (Kd.R_told (Kd.R_old (rk HO_135000) hb) (Kd.R_base ho0)) (Kd.R_base ho1)) (fun _ h_ => h_.1)); replace HO_135001 := Aside0.mk (Kd.R_mono (Kd.R_told (Kd.R_told (Kd.R_old (rk HO_135001) hb) (Kd.R_base ho0)) (Kd.R_base ho1)) (fun _ h_ => h_.1)); replace HO_144000 := Aside0.mk (Kd.R_mono (Kd.R_told (Kd.R_told (Kd.R_old (rk HO_144000) hb) (Kd.R_base ho0)) (Kd.R_base ho1)) (fun _ h_ => h_.1)); replace HO_144001 := Aside0.mk (Kd.R_mono (Kd.R_told (Kd.R_told (Kd.R_old (rk HO_144001) hb) (Kd.R_base ho0)) (Kd.R_base ho1)) (fun _ h_ => h_.1)); replace BK111 := bb BK111 hb; replace BK127 := bb BK127 hb; replace BK134 := bb BK134 hb; replace BK143 := bb BK143 hb; replace HB := bs HB hb; (try clear hb); (try clear ho0); (try clear ho1); obtain ⟨Ao100, co100, eo100⟩ := Kd.R_slice HO162.out; subst eo100; obtain ⟨Ao101, co101, eo101⟩ := Kd.R_slice HO165.out; subst eo101) | ((with_reducible refine gate_callee (f := 43) rfl ?_); refine gl 96 Try.func43 #[.agg #[.slice Ao100 t160.length co100, .slice Ao101 t163.length co101], .bool a1] ?_; (with_reducible refine (impl_FarthestState.calls kj57 _ _ t160 _ _ t163 a1 t166 t169 t172 t173 _ ?side1 ?side2 ?side3 ?side4 A87.out).mono ?_); (case side1 => exact cr HO162); (case side2 => exact (Kd.R_reads' HO162.out).2.1); (case side3 => exact cr HO165); (case side4 => exact (Kd.R_reads' HO165.out).2.1); rintro e w102 ⟨v167, v170, rfl, ho0, ho1, hb⟩; refine ⟨_, rfl, ?_⟩; have HO168 := Aside0.mk (Kd.R_lower (Kd.R_new' (Kd.R_new' (Kd.R_new' (Kd.R_new' (Kd.R_new' (Kd.R_new' (Kd.R_new' (Kd.R_new' ho0 (Kd.R_lt (rk HO_128000))) (Kd.R_lt (rk HO_128001))) (Kd.R_lt (rk HO_135000))) (Kd.R_lt (rk HO_135001))) (Kd.R_lt (rk HO_144000))) (Kd.R_lt (rk HO_144001))) (Kd.R_lt (rk HO162))) (Kd.R_lt (rk HO165))) (below_size (bw HB))); have HO171 := Aside0.mk (Kd.R_lower (Kd.R_new' (Kd.R_new' (Kd.R_new' (Kd.R_new' (Kd.R_new' (Kd.R_new' (Kd.R_new' (Kd.R_new' ho1 (Kd.R_lt (rk HO_128000))) (Kd.R_lt (rk HO_128001))) (Kd.R_lt (rk HO_135000))) (Kd.R_lt (rk HO_135001))) (Kd.R_lt (rk HO_144000))) (Kd.R_lt (rk HO_144001))) (Kd.R_lt (rk HO162))) (Kd.R_lt (rk HO165))) (below_size (bw HB))); replace HO_128000 := Aside0.mk (Kd.R_mono (Kd.R_told (Kd.R_told (Kd.R_old (rk HO_128000) hb) (Kd.R_base ho0)) (Kd.R_base ho1)) (fun _ h_ => h_.1)); replace HO_128001 := Aside0.mk (Kd.R_mono (Kd.R_told (Kd.R_told (Kd.R_old (rk HO_128001) hb) (Kd.R_base ho0)) (Kd.R_base ho1)) (fun _ h_ => h_.1)); replace HO_135000 := Aside0.mk (Kd.R_mono (Kd.R_told (Kd.R_told (Kd.R_old (rk HO_135000) hb) (Kd.R_base ho0)) (Kd.R_base ho1)) (fun _ h_ => h_.1)); replace HO_135001 := Aside0.mk (Kd.R_mono (Kd.R_told (Kd.R_told (Kd.R_old (rk HO_135001) hb) (Kd.R_base ho0)) (Kd.R_base ho1)) (fun _ h_ => h_.1)); replace HO_144000 := Aside0.mk (Kd.R_mono (Kd.R_told (Kd.R_told (Kd.R_old (rk HO_144000) hb) (Kd.R_base ho0)) (Kd.R_base ho1)) (fun _ h_ => h_.1)); replace HO_144001 := Aside0.mk (Kd.R_mono (Kd.R_told (Kd.R_told (Kd.R_old (rk HO_144001) hb) (Kd.R_base ho0)) (Kd.R_base ho1)) (fun _ h_ => h_.1)); replace HO162 := Aside0.mk (Kd.R_mono (Kd.R_told (Kd.R_told (Kd.R_old (rk HO162) hb) (Kd.R_base ho0)) (Kd.R_base ho1)) (fun _ h_ => h_.1)); replace HO165 := Aside0.mk (Kd.R_mono (Kd.R_told (Kd.R_told (Kd.R_old (rk HO165) hb) (Kd.R_base ho0)) (Kd.R_base ho1)) (fun _ h_ => h_.1)); replace BK111 := bb BK111 hb; replace BK127 := bb BK127 hb; replace BK134 := bb BK134 hb; replace BK143 := bb BK143 hb; replace HB := bs HB hb; (try clear hb); (try clear ho0); (try clear ho1)) | ((with_reducible refine gate_dst (N := 16) rfl ?_); refine bx 16 #[.slice none 0 0, .slice none 0 0] 29 ?_; intro gb174 hg w103 hbox hb; replace HO_128000 := rb HO_128000 hb; replace HO_128001 := rb HO_128001 hb; replace HO_135000 := rb HO_135000 hb; replace HO_135001 := rb HO_135001 hb; replace HO_144000 := rb HO_144000 hb; replace HO_144001 := rb HO_144001 hb; replace HO162 := rb HO162 hb; replace HO165 := rb HO165 hb; replace HO168 := rb HO168 hb; replace HO171 := rb HO171 hb; have BK174 := Aside0.mk (hbox); have GW174 := ge HB hg; have GE174 := ge HB hg; replace HB := bs HB hb; have NB111_174 := nl BK111 hg; have NB174_111 := nr BK111 hg; replace BK111 := bb BK111 hb; have NB127_174 := nl BK127 hg; have NB174_127 := nr BK127 hg; replace BK127 := bb BK127 hb; have NB134_174 := nl BK134 hg; have NB174_134 := nr BK134 hg; replace BK134 := bb BK134 hb; have NB143_174 := nl BK143 hg; have NB174_143 := nr BK143 hg; replace BK143 := bb BK143 hb; clear hb hbox hg; obtain ⟨Ao104, co104, eo104⟩ := Kd.R_slice HO168.out; subst eo104; have hnb105 := NB174_111.out; have hnc105 := NB111_174.out; have hnb106 := NB174_127.out; have hnc106 := NB127_174.out; have hnb107 := NB174_134.out; have hnc107 := NB134_174.out; have hnb108 := NB174_143.out; have hnc108 := NB143_174.out; have hcz109_0 := bc0 BK174; have hcz109_1 := bc1 BK174; have hfz109_0 := blk_frozen BK174.out 0; have hfz109_1 := blk_frozen BK174.out 1; obtain ⟨Ao110, co110, eo110⟩ := Kd.R_slice HO171.out; subst eo110))
     (try simp only [Act.put, List.setIfInBounds_toArray, List.set_cons_zero, List.set_cons_succ])
     go_cut [113] (fun v113 wc => ∃ (kq : Nat) (x113_87 : Bool), v113 = .bool x113_87 ∧ Aside0 (laws_FnExactFarthestState.j2 kq t156 x113_87 t157 t158 = some r) ∧ Aside0 (kq ≤ kj57) ∧ Aside0 (Kd.R (Kd.int .i64) 3 wc w.heap.size (fun k_ => some k_ ≠ ((.slice Ao25 t122.length co25) : Value).ownBlock ∧ some k_ ≠ ((.slice Ao29 t153.length co29) : Value).ownBlock ∧ some k_ ≠ ((.slice Ao33 t154.length co33) : Value).ownBlock ∧ some k_ ≠ ((.slice Ao36 t135.length co36) : Value).ownBlock ∧ some k_ ≠ ((.slice Ao41 t138.length co41) : Value).ownBlock ∧ some k_ ≠ ((.slice Ao104 t166.length co104) : Value).ownBlock ∧ some k_ ≠ ((.slice Ao110 t169.length co110) : Value).ownBlock) (.slice Ao22 t119.length co22) t119) ∧ Aside0 (Kd.R (Kd.int .i64) 3 wc w.heap.size (fun k_ => some k_ ≠ ((.slice Ao22 t119.length co22) : Value).ownBlock ∧ some k_ ≠ ((.slice Ao29 t153.length co29) : Value).ownBlock ∧ some k_ ≠ ((.slice Ao33 t154.length co33) : Value).ownBlock ∧ some k_ ≠ ((.slice Ao36 t135.length co36) : Value).ownBlock ∧ some k_ ≠ ((.slice Ao41 t138.length co41) : Value).ownBlock ∧ some k_ ≠ ((.slice Ao104 t166.length co104) : Value).ownBlock ∧ some k_ ≠ ((.slice Ao110 t169.length co110) : Value).ownBlock) (.slice Ao25 t122.length co25) t122) ∧ Aside0 (Kd.R (Kd.int .i64) 3 wc w.heap.size (fun k_ => some k_ ≠ ((.slice Ao22 t119.length co22) : Value).ownBlock ∧ some k_ ≠ ((.slice Ao25 t122.length co25) : Value).ownBlock ∧ some k_ ≠ ((.slice Ao33 t154.length co33) : Value).ownBlock ∧ some k_ ≠ ((.slice Ao36 t135.length co36) : Value).ownBlock ∧ some k_ ≠ ((.slice Ao41 t138.length co41) : Value).ownBlock ∧ some k_ ≠ ((.slice Ao104 t166.length co104) : Value).ownBlock ∧ some k_ ≠ ((.slice Ao110 t169.length co110) : Value).ownBlock) (.slice Ao29 t153.length co29) t153) ∧ Aside0 (Kd.R (Kd.int .i64) 3 wc w.heap.size (fun k_ => some k_ ≠ ((.slice Ao22 t119.length co22) : Value).ownBlock ∧ some k_ ≠ ((.slice Ao25 t122.length co25) : Value).ownBlock ∧ some k_ ≠ ((.slice Ao29 t153.length co29) : Value).ownBlock ∧ some k_ ≠ ((.slice Ao36 t135.length co36) : Value).ownBlock ∧ some k_ ≠ ((.slice Ao41 t138.length co41) : Value).ownBlock ∧ some k_ ≠ ((.slice Ao104 t166.length co104) : Value).ownBlock ∧ some k_ ≠ ((.slice Ao110 t169.length co110) : Value).ownBlock) (.slice Ao33 t154.length co33) t154) ∧ Aside0 (Kd.R (Kd.int .i64) 3 wc w.heap.size (fun k_ => some k_ ≠ ((.slice Ao22 t119.length co22) : Value).ownBlock ∧ some k_ ≠ ((.slice Ao25 t122.length co25) : Value).ownBlock ∧ some k_ ≠ ((.slice Ao29 t153.length co29) : Value).ownBlock ∧ some k_ ≠ ((.slice Ao33 t154.length co33) : Value).ownBlock ∧ some k_ ≠ ((.slice Ao41 t138.length co41) : Value).ownBlock ∧ some k_ ≠ ((.slice Ao104 t166.length co104) : Value).ownBlock ∧ some k_ ≠ ((.slice Ao110 t169.length co110) : Value).ownBlock) (.slice Ao36 t135.length co36) t157) ∧ Aside0 (Kd.R (Kd.int .i64) 3 wc w.heap.size (fun k_ => some k_ ≠ ((.slice Ao22 t119.length co22) : Value).ownBlock ∧ some k_ ≠ ((.slice Ao25 t122.length co25) : Value).ownBlock ∧ some k_ ≠ ((.slice Ao29 t153.length co29) : Value).ownBlock ∧ some k_ ≠ ((.slice Ao33 t154.length co33) : Value).ownBlock ∧ some k_ ≠ ((.slice Ao36 t135.length co36) : Value).ownBlock ∧ some k_ ≠ ((.slice Ao104 t166.length co104) : Value).ownBlock ∧ some k_ ≠ ((.slice Ao110 t169.length co110) : Value).ownBlock) (.slice Ao41 t138.length co41) t158) ∧ Aside0 (Kd.R (Kd.int .i64) 3 wc w.heap.size (fun k_ => some k_ ≠ ((.slice Ao22 t119.length co22) : Value).ownBlock ∧ some k_ ≠ ((.slice Ao25 t122.length co25) : Value).ownBlock ∧ some k_ ≠ ((.slice Ao29 t153.length co29) : Value).ownBlock ∧ some k_ ≠ ((.slice Ao33 t154.length co33) : Value).ownBlock ∧ some k_ ≠ ((.slice Ao36 t135.length co36) : Value).ownBlock ∧ some k_ ≠ ((.slice Ao41 t138.length co41) : Value).ownBlock ∧ some k_ ≠ ((.slice Ao110 t169.length co110) : Value).ownBlock) (.slice Ao104 t166.length co104) t166) ∧ Aside0 (Kd.R (Kd.int .i64) 3 wc w.heap.size (fun k_ => some k_ ≠ ((.slice Ao22 t119.length co22) : Value).ownBlock ∧ some k_ ≠ ((.slice Ao25 t122.length co25) : Value).ownBlock ∧ some k_ ≠ ((.slice Ao29 t153.length co29) : Value).ownBlock ∧ some k_ ≠ ((.slice Ao33 t154.length co33) : Value).ownBlock ∧ some k_ ≠ ((.slice Ao36 t135.length co36) : Value).ownBlock ∧ some k_ ≠ ((.slice Ao41 t138.length co41) : Value).ownBlock ∧ some k_ ≠ ((.slice Ao104 t166.length co104) : Value).ownBlock) (.slice Ao110 t169.length co110) t169) ∧ Aside0 (wc.heap[gb111]? = some (.cells #[(.slice A0_0 l0_0.length c0_0), (.slice A0_1 l0_1.length c0_1)] 24 (0, 0))) ∧ Aside0 (wc.heap[gb127]? = some (.cells #[(.slice Ao22 t119.length co22), (.slice Ao25 t122.length co25)] 29 (0, 0))) ∧ Aside0 (wc.heap[gb134]? = some (.cells #[(.slice Ao29 t153.length co29), (.slice Ao33 t154.length co33)] 29 (0, 0))) ∧ Aside0 (wc.heap[gb143]? = some (.cells #[(.slice Ao36 t135.length co36), (.slice Ao41 t138.length co41)] 29 (0, 0))) ∧ Aside0 (wc.heap[gb174]? = some (.cells #[(.slice Ao104 t166.length co104), (.slice Ao110 t169.length co110)] 29 (0, 0))) ∧ Aside0 (Below w.heap.size w wc))
     case first =>
      have H := HC88.out
      clear HC88
      replace H := Option.bind_eq_some_iff.mp H
      obtain ⟨t175, A1110, H⟩ := H
      replace H : (if t175 = true then (if t172 = t125 then (laws_FnExactFarthestState.j2 kj57 t156 (t173 != t126) t157 t158) else (laws_FnExactFarthestState.j2 kj57 t156 true t157 t158)) else (laws_FnExactFarthestState.j2 kj57 t156 true t157 t158)) = some r := H
      have A111 := Aside0.mk A1110
      clear A1110
      by_cases c112 : t175 = true
      rotate_left
      ·replace c112 := Bool.eq_false_iff.mpr c112
       subst c112
       have H1 : (laws_FnExactFarthestState.j2 kj57 t156 true t157 t158) = some r := by rw [if_neg (show ¬ (false = true) by decide)] at H; exact H
       clear H
       have H := H1
       clear H1
       exact absurd H (by rw [hrt.out]; cases kj57 <;> simp [laws_FnExactFarthestState.j2])
      subst c112
      have H1 : (if t172 = t125 then (laws_FnExactFarthestState.j2 kj57 t156 (t173 != t126) t157 t158) else (laws_FnExactFarthestState.j2 kj57 t156 true t157 t158)) = some r := by rw [if_pos rfl] at H; exact H
      clear H
      have H := H1
      clear H1
      by_cases c113 : t172 = t125
      rotate_left
      ·rw [if_neg c113] at H
       have c113b0 : (t172 == t125) = false := beq_eq_false_iff_ne.mpr c113
       have c113b1 : (t172 != t125) = true := bne_iff_ne.mpr c113
       (first | rw [c113b0] | (simp only [i64_w, i32_w]; rw [c113b0]) | skip)
       exact absurd H (by rw [hrt.out]; cases kj57 <;> simp [laws_FnExactFarthestState.j2])
      rw [if_pos c113] at H
      have c113b0 : (t172 == t125) = true := beq_iff_eq.mpr c113
      have c113b1 : (t172 != t125) = false := bne_eq_false_iff_eq.mpr c113
      clear c113
      (first | rw [c113b0] | (simp only [i64_w, i32_w]; rw [c113b0]) | skip)
      have H' := Aside0.mk H
      clear H
      have hnb114 := NB174_111.out
      have hnc114 := NB111_174.out
      have hnb115 := NB174_127.out
      have hnc115 := NB127_174.out
      have hnb116 := NB174_134.out
      have hnc116 := NB134_174.out
      have hnb117 := NB174_143.out
      have hnc117 := NB143_174.out
      have hcz118_0 := bc0 BK174
      have hcz118_1 := bc1 BK174
      have hfz118_0 := blk_frozen BK174.out 0
      have hfz118_1 := blk_frozen BK174.out 1
      have hnb119 := NB127_111.out
      have hnc119 := NB111_127.out
      have hnb120 := NB127_134.out
      have hnc120 := NB134_127.out
      have hnb121 := NB127_143.out
      have hnc121 := NB143_127.out
      have hcz122_0 := bc0 BK127
      have hcz122_1 := bc1 BK127
      have hfz122_0 := blk_frozen BK127.out 0
      have hfz122_1 := blk_frozen BK127.out 1
      go_wp2_with (first | ((with_reducible refine gate_callee (f := 22) rfl ?_); refine gl 102 Try.func22 #[.agg #[.slice Ao104 t166.length co104, .slice Ao110 t169.length co110], .agg #[.slice Ao22 t119.length co22, .slice Ao25 t122.length co25]] ?_; (with_reducible refine (laws_eqVessels.calls kj57 _ _ t166 _ _ t169 _ _ t119 _ _ t122 true _ ?side1 ?side2 ?side3 ?side4 ?side5 ?side6 ?side7 ?side8 A111.out).mono ?_); (case side1 => refine (Kd.R_reads' (e := 3) (base := w.heap.size) (ok := fun k_ => ((((((((some k_ ≠ (.slice Ao110 t169.length co110 : Value).ownBlock ∧ some k_ ≠ (.slice Ao22 t119.length co22 : Value).ownBlock) ∧ some k_ ≠ (.slice Ao25 t122.length co25 : Value).ownBlock) ∧ some k_ ≠ (.slice Ao29 t153.length co29 : Value).ownBlock) ∧ some k_ ≠ (.slice Ao33 t154.length co33 : Value).ownBlock) ∧ some k_ ≠ (.slice Ao36 t135.length co36 : Value).ownBlock) ∧ some k_ ≠ (.slice Ao41 t138.length co41 : Value).ownBlock) ∧ some k_ ≠ (.slice Ao100 t160.length co100 : Value).ownBlock) ∧ some k_ ≠ (.slice Ao101 t163.length co101 : Value).ownBlock)) (n := t166.length) (c := co104) ?_).2.2; exact (by (with_reducible repeat (first | apply Kd.R_alloc | apply Kd.R_drewN | apply Kd.R_drew)); exact (Kd.R_mono (Kd.R_far (p := ⟨gb174, 1, none⟩) (Kd.R_far (p := ⟨gb174, 0, none⟩) (Kd.R_types HO168.out BK174.out (by decide)) (fun _ hk => hk.2) (.slice Ao104 t166.length co104)) (fun _ hk => hk.2) (.slice Ao110 t169.length co110)) (fun _ h_ => h_.1)))); (case side2 => exact (Kd.R_reads' HO168.out).2.1); (case side3 => refine (Kd.R_reads' (e := 3) (base := w.heap.size) (ok := fun k_ => ((((((((some k_ ≠ (.slice Ao104 t166.length co104 : Value).ownBlock ∧ some k_ ≠ (.slice Ao22 t119.length co22 : Value).ownBlock) ∧ some k_ ≠ (.slice Ao25 t122.length co25 : Value).ownBlock) ∧ some k_ ≠ (.slice Ao29 t153.length co29 : Value).ownBlock) ∧ some k_ ≠ (.slice Ao33 t154.length co33 : Value).ownBlock) ∧ some k_ ≠ (.slice Ao36 t135.length co36 : Value).ownBlock) ∧ some k_ ≠ (.slice Ao41 t138.length co41 : Value).ownBlock) ∧ some k_ ≠ (.slice Ao100 t160.length co100 : Value).ownBlock) ∧ some k_ ≠ (.slice Ao101 t163.length co101 : Value).ownBlock)) (n := t169.length) (c := co110) ?_).2.2; exact (by (with_reducible repeat (first | apply Kd.R_alloc | apply Kd.R_drewN | apply Kd.R_drew)); exact (Kd.R_mono (Kd.R_far (p := ⟨gb174, 1, none⟩) (Kd.R_far (p := ⟨gb174, 0, none⟩) (Kd.R_types HO171.out BK174.out (by decide)) (fun _ hk => hk.2) (.slice Ao104 t166.length co104)) (fun _ hk => hk.2) (.slice Ao110 t169.length co110)) (fun _ h_ => h_.1)))); (case side4 => exact (Kd.R_reads' HO171.out).2.1); (case side5 => refine (Kd.R_reads' (e := 3) (base := w.heap.size) (ok := fun k_ => (((((some k_ ≠ (.slice Ao25 t122.length co25 : Value).ownBlock ∧ (some k_ ≠ (.slice Ao29 t153.length co29 : Value).ownBlock ∧ (some k_ ≠ (.slice Ao33 t154.length co33 : Value).ownBlock ∧ (some k_ ≠ (.slice Ao36 t135.length co36 : Value).ownBlock ∧ some k_ ≠ (.slice Ao41 t138.length co41 : Value).ownBlock)))) ∧ some k_ ≠ (.slice Ao100 t160.length co100 : Value).ownBlock) ∧ some k_ ≠ (.slice Ao101 t163.length co101 : Value).ownBlock) ∧ some k_ ≠ (.slice Ao104 t166.length co104 : Value).ownBlock) ∧ some k_ ≠ (.slice Ao110 t169.length co110 : Value).ownBlock)) (n := t119.length) (c := co22) ?_).2.2; exact (by (with_reducible repeat (first | apply Kd.R_alloc | apply Kd.R_drewN | apply Kd.R_drew)); exact (Kd.R_mono (Kd.R_far (p := ⟨gb174, 1, none⟩) (Kd.R_far (p := ⟨gb174, 0, none⟩) (Kd.R_types HO_128000.out BK174.out (by decide)) (fun _ hk => hk.2) (.slice Ao104 t166.length co104)) (fun _ hk => hk.2) (.slice Ao110 t169.length co110)) (fun _ h_ => h_.1)))); (case side6 => exact (Kd.R_reads' HO_128000.out).2.1); (case side7 => refine (Kd.R_reads' (e := 3) (base := w.heap.size) (ok := fun k_ => (((((some k_ ≠ (.slice Ao22 t119.length co22 : Value).ownBlock ∧ (some k_ ≠ (.slice Ao29 t153.length co29 : Value).ownBlock ∧ (some k_ ≠ (.slice Ao33 t154.length co33 : Value).ownBlock ∧ (some k_ ≠ (.slice Ao36 t135.length co36 : Value).ownBlock ∧ some k_ ≠ (.slice Ao41 t138.length co41 : Value).ownBlock)))) ∧ some k_ ≠ (.slice Ao100 t160.length co100 : Value).ownBlock) ∧ some k_ ≠ (.slice Ao101 t163.length co101 : Value).ownBlock) ∧ some k_ ≠ (.slice Ao104 t166.length co104 : Value).ownBlock) ∧ some k_ ≠ (.slice Ao110 t169.length co110 : Value).ownBlock)) (n := t122.length) (c := co25) ?_).2.2; exact (by (with_reducible repeat (first | apply Kd.R_alloc | apply Kd.R_drewN | apply Kd.R_drew)); exact (Kd.R_mono (Kd.R_far (p := ⟨gb174, 1, none⟩) (Kd.R_far (p := ⟨gb174, 0, none⟩) (Kd.R_types HO_128001.out BK174.out (by decide)) (fun _ hk => hk.2) (.slice Ao104 t166.length co104)) (fun _ hk => hk.2) (.slice Ao110 t169.length co110)) (fun _ h_ => h_.1)))); (case side8 => exact (Kd.R_reads' HO_128001.out).2.1); rintro e w123 ⟨rfl, hb⟩; refine ⟨_, rfl, ?_⟩; replace HO_128000 := Aside0.mk (Kd.R_below (by (with_reducible repeat (first | apply Kd.R_alloc | apply Kd.R_drewN | apply Kd.R_drew)); exact (Kd.R_mono (Kd.R_far (p := ⟨gb174, 1, none⟩) (Kd.R_far (p := ⟨gb174, 0, none⟩) (Kd.R_types HO_128000.out BK174.out (by decide)) (fun _ hk => hk.2) (.slice Ao104 t166.length co104)) (fun _ hk => hk.2) (.slice Ao110 t169.length co110)) (fun _ h_ => h_.1))) hb); replace HO_128001 := Aside0.mk (Kd.R_below (by (with_reducible repeat (first | apply Kd.R_alloc | apply Kd.R_drewN | apply Kd.R_drew)); exact (Kd.R_mono (Kd.R_far (p := ⟨gb174, 1, none⟩) (Kd.R_far (p := ⟨gb174, 0, none⟩) (Kd.R_types HO_128001.out BK174.out (by decide)) (fun _ hk => hk.2) (.slice Ao104 t166.length co104)) (fun _ hk => hk.2) (.slice Ao110 t169.length co110)) (fun _ h_ => h_.1))) hb); replace HO_135000 := Aside0.mk (Kd.R_below (by (with_reducible repeat (first | apply Kd.R_alloc | apply Kd.R_drewN | apply Kd.R_drew)); exact (Kd.R_mono (Kd.R_far (p := ⟨gb174, 1, none⟩) (Kd.R_far (p := ⟨gb174, 0, none⟩) (Kd.R_types HO_135000.out BK174.out (by decide)) (fun _ hk => hk.2) (.slice Ao104 t166.length co104)) (fun _ hk => hk.2) (.slice Ao110 t169.length co110)) (fun _ h_ => h_.1))) hb); replace HO_135001 := Aside0.mk (Kd.R_below (by (with_reducible repeat (first | apply Kd.R_alloc | apply Kd.R_drewN | apply Kd.R_drew)); exact (Kd.R_mono (Kd.R_far (p := ⟨gb174, 1, none⟩) (Kd.R_far (p := ⟨gb174, 0, none⟩) (Kd.R_types HO_135001.out BK174.out (by decide)) (fun _ hk => hk.2) (.slice Ao104 t166.length co104)) (fun _ hk => hk.2) (.slice Ao110 t169.length co110)) (fun _ h_ => h_.1))) hb); replace HO_144000 := Aside0.mk (Kd.R_below (by (with_reducible repeat (first | apply Kd.R_alloc | apply Kd.R_drewN | apply Kd.R_drew)); exact (Kd.R_mono (Kd.R_far (p := ⟨gb174, 1, none⟩) (Kd.R_far (p := ⟨gb174, 0, none⟩) (Kd.R_types HO_144000.out BK174.out (by decide)) (fun _ hk => hk.2) (.slice Ao104 t166.length co104)) (fun _ hk => hk.2) (.slice Ao110 t169.length co110)) (fun _ h_ => h_.1))) hb); replace HO_144001 := Aside0.mk (Kd.R_below (by (with_reducible repeat (first | apply Kd.R_alloc | apply Kd.R_drewN | apply Kd.R_drew)); exact (Kd.R_mono (Kd.R_far (p := ⟨gb174, 1, none⟩) (Kd.R_far (p := ⟨gb174, 0, none⟩) (Kd.R_types HO_144001.out BK174.out (by decide)) (fun _ hk => hk.2) (.slice Ao104 t166.length co104)) (fun _ hk => hk.2) (.slice Ao110 t169.length co110)) (fun _ h_ => h_.1))) hb); replace HO162 := Aside0.mk (Kd.R_below (by (with_reducible repeat (first | apply Kd.R_alloc | apply Kd.R_drewN | apply Kd.R_drew)); exact (Kd.R_mono (Kd.R_far (p := ⟨gb174, 1, none⟩) (Kd.R_far (p := ⟨gb174, 0, none⟩) (Kd.R_types HO162.out BK174.out (by decide)) (fun _ hk => hk.2) (.slice Ao104 t166.length co104)) (fun _ hk => hk.2) (.slice Ao110 t169.length co110)) (fun _ h_ => h_.1))) hb); replace HO165 := Aside0.mk (Kd.R_below (by (with_reducible repeat (first | apply Kd.R_alloc | apply Kd.R_drewN | apply Kd.R_drew)); exact (Kd.R_mono (Kd.R_far (p := ⟨gb174, 1, none⟩) (Kd.R_far (p := ⟨gb174, 0, none⟩) (Kd.R_types HO165.out BK174.out (by decide)) (fun _ hk => hk.2) (.slice Ao104 t166.length co104)) (fun _ hk => hk.2) (.slice Ao110 t169.length co110)) (fun _ h_ => h_.1))) hb); replace HO168 := Aside0.mk (Kd.R_below (by (with_reducible repeat (first | apply Kd.R_alloc | apply Kd.R_drewN | apply Kd.R_drew)); exact (Kd.R_mono (Kd.R_far (p := ⟨gb174, 1, none⟩) (Kd.R_far (p := ⟨gb174, 0, none⟩) (Kd.R_types HO168.out BK174.out (by decide)) (fun _ hk => hk.2) (.slice Ao104 t166.length co104)) (fun _ hk => hk.2) (.slice Ao110 t169.length co110)) (fun _ h_ => h_.1))) hb); replace HO171 := Aside0.mk (Kd.R_below (by (with_reducible repeat (first | apply Kd.R_alloc | apply Kd.R_drewN | apply Kd.R_drew)); exact (Kd.R_mono (Kd.R_far (p := ⟨gb174, 1, none⟩) (Kd.R_far (p := ⟨gb174, 0, none⟩) (Kd.R_types HO171.out BK174.out (by decide)) (fun _ hk => hk.2) (.slice Ao104 t166.length co104)) (fun _ hk => hk.2) (.slice Ao110 t169.length co110)) (fun _ h_ => h_.1))) hb); replace BK111 := bb BK111 hb; replace BK127 := bb BK127 hb; replace BK134 := bb BK134 hb; replace BK143 := bb BK143 hb; replace BK174 := Aside0.mk (blk_below (g := gb174) (o := .cells #[.slice Ao104 t166.length co104, .slice Ao110 t169.length co110] 29 (0, 0)) (by (with_reducible repeat (first | refine blk_drewN ?_ _ | refine blk_drew ?_ | refine blk_alloc ?_ _)); refine blk_put (cs := #[.slice Ao104 t166.length co104, .slice none 0 0]) ?_ 1 _ rfl; (with_reducible repeat (first | refine blk_drewN ?_ _ | refine blk_drew ?_ | refine blk_alloc ?_ _)); refine blk_put (cs := #[.slice none 0 0, .slice none 0 0]) ?_ 0 _ rfl; exact bk BK174) hb); replace HB := bs HB hb; (try clear hb)))
      go_meet
      case rel => exact ⟨_, ((t173 != t126)), (by first | rfl | (simp; done) | (simp [*]; done)), H', ⟨by have := HJ11.out; have := HJ57.out; first | omega | exact Nat.le_refl _⟩, ⟨by (try simp only [hl135000_57]); (try simp only [hl135001_57]); (with_reducible repeat (first | apply Kd.R_alloc | apply Kd.R_drewN | apply Kd.R_drew)); exact Kd.R_mono HO_128000.out (fun _ hk => ⟨hk.1.1.1.1.1, ⟨hk.1.1.1.1.2.1, ⟨hk.1.1.1.1.2.2.1, ⟨hk.1.1.1.1.2.2.2.1, ⟨hk.1.1.1.1.2.2.2.2, ⟨hk.1.2, hk.2⟩⟩⟩⟩⟩⟩)⟩, ⟨by (try simp only [hl135000_57]); (try simp only [hl135001_57]); (with_reducible repeat (first | apply Kd.R_alloc | apply Kd.R_drewN | apply Kd.R_drew)); exact Kd.R_mono HO_128001.out (fun _ hk => ⟨hk.1.1.1.1.1, ⟨hk.1.1.1.1.2.1, ⟨hk.1.1.1.1.2.2.1, ⟨hk.1.1.1.1.2.2.2.1, ⟨hk.1.1.1.1.2.2.2.2, ⟨hk.1.2, hk.2⟩⟩⟩⟩⟩⟩)⟩, ⟨by (try simp only [hl135000_57]); (try simp only [hl135001_57]); (with_reducible repeat (first | apply Kd.R_alloc | apply Kd.R_drewN | apply Kd.R_drew)); exact Kd.R_mono HO_135000.out (fun _ hk => ⟨hk.1.1.1.1.1, ⟨hk.1.1.1.1.2.1, ⟨hk.1.1.1.1.2.2.1, ⟨hk.1.1.1.1.2.2.2.1, ⟨hk.1.1.1.1.2.2.2.2, ⟨hk.1.2, hk.2⟩⟩⟩⟩⟩⟩)⟩, ⟨by (try simp only [hl135000_57]); (try simp only [hl135001_57]); (with_reducible repeat (first | apply Kd.R_alloc | apply Kd.R_drewN | apply Kd.R_drew)); exact Kd.R_mono HO_135001.out (fun _ hk => ⟨hk.1.1.1.1.1, ⟨hk.1.1.1.1.2.1, ⟨hk.1.1.1.1.2.2.1, ⟨hk.1.1.1.1.2.2.2.1, ⟨hk.1.1.1.1.2.2.2.2, ⟨hk.1.2, hk.2⟩⟩⟩⟩⟩⟩)⟩, ⟨by (try simp only [hl135000_57]); (try simp only [hl135001_57]); (with_reducible repeat (first | apply Kd.R_alloc | apply Kd.R_drewN | apply Kd.R_drew)); exact Kd.R_mono HO_144000.out (fun _ hk => ⟨hk.1.1.1.1.1, ⟨hk.1.1.1.1.2.1, ⟨hk.1.1.1.1.2.2.1, ⟨hk.1.1.1.1.2.2.2.1, ⟨hk.1.1.1.1.2.2.2.2, ⟨hk.1.2, hk.2⟩⟩⟩⟩⟩⟩)⟩, ⟨by (try simp only [hl135000_57]); (try simp only [hl135001_57]); (with_reducible repeat (first | apply Kd.R_alloc | apply Kd.R_drewN | apply Kd.R_drew)); exact Kd.R_mono HO_144001.out (fun _ hk => ⟨hk.1.1.1.1.1, ⟨hk.1.1.1.1.2.1, ⟨hk.1.1.1.1.2.2.1, ⟨hk.1.1.1.1.2.2.2.1, ⟨hk.1.1.1.1.2.2.2.2, ⟨hk.1.2, hk.2⟩⟩⟩⟩⟩⟩)⟩, ⟨by (try simp only [hl135000_57]); (try simp only [hl135001_57]); (with_reducible repeat (first | apply Kd.R_alloc | apply Kd.R_drewN | apply Kd.R_drew)); exact Kd.R_mono HO168.out (fun _ hk => ⟨hk.1.1.1.1.1.1.1.2, ⟨hk.1.1.1.1.1.1.2, ⟨hk.1.1.1.1.1.2, ⟨hk.1.1.1.1.2, ⟨hk.1.1.1.2, ⟨hk.1.1.2, hk.1.1.1.1.1.1.1.1⟩⟩⟩⟩⟩⟩)⟩, ⟨by (try simp only [hl135000_57]); (try simp only [hl135001_57]); (with_reducible repeat (first | apply Kd.R_alloc | apply Kd.R_drewN | apply Kd.R_drew)); exact Kd.R_mono HO171.out (fun _ hk => ⟨hk.1.1.1.1.1.1.1.2, ⟨hk.1.1.1.1.1.1.2, ⟨hk.1.1.1.1.1.2, ⟨hk.1.1.1.1.2, ⟨hk.1.1.1.2, ⟨hk.1.1.2, hk.1.1.1.1.1.1.1.1⟩⟩⟩⟩⟩⟩)⟩, ⟨by (try simp only [hl135000_57]); (try simp only [hl135001_57]); exact bk BK111⟩, ⟨by (try simp only [hl135000_57]); (try simp only [hl135001_57]); exact bk BK127⟩, ⟨by (try simp only [hl135000_57]); (try simp only [hl135001_57]); exact bk BK134⟩, ⟨by (try simp only [hl135000_57]); (try simp only [hl135001_57]); exact bk BK143⟩, ⟨by (try simp only [hl135000_57]); (try simp only [hl135001_57]); exact bk BK174⟩, ⟨bw HB⟩⟩
     case rest =>
      clear HC88
      try clear c1
      try clear c2
      try clear p2
      try clear c3
      try clear c4
      try clear c4b0
      try clear c5
      try clear c6
      try clear c7
      try clear c8
      try clear c9
      try clear c10
      try clear c11
      try clear c12
      try clear c17
      try clear c19
      try clear c22
      try clear c23
      try clear c30
      try clear c31
      try clear c37
      try clear c38
      try clear c39
      try clear c42
      try clear c43
      try clear c44
      try clear c44b0
      try clear c44b1
      try clear c45
      try clear c46
      try clear c47
      try clear c49
      try clear c50
      try clear c53
      try clear c56
      try clear c64
      try clear c65
      try clear c66
      try clear c69
      try clear c69b0
      try clear c71
      try clear c72
      try clear c72b0
      try clear c72b1
      try clear c73
      try clear c74
      try clear c75
      try clear c77
      try clear c78
      try clear c81
      try clear c84
      try clear c84b0
      try clear c85
      try clear c85b0
      try clear c85b1
      try clear c89
      try clear c90
      try clear c91
      try clear c96
      try clear c97
      try clear c105
      try clear c106
      try clear c107
      try clear c108
      try clear c112
      try clear c113
      try clear c113b0
      try clear c113b1
      try clear c114
      try clear c115
      try clear c116
      try clear c117
      try clear c119
      try clear c120
      try clear c121
      try clear hcz109_0
      try clear hcz109_1
      try clear hcz118_0
      try clear hcz118_1
      try clear hcz122_0
      try clear hcz122_1
      try clear hcz14_0
      try clear hcz14_1
      try clear hcz16_0
      try clear hcz16_1
      try clear hcz24_0
      try clear hcz24_1
      try clear hcz26_0
      try clear hcz26_1
      try clear hcz32_0
      try clear hcz32_1
      try clear hcz40_0
      try clear hcz40_1
      try clear hcz48_0
      try clear hcz48_1
      try clear hcz51_0
      try clear hcz51_1
      try clear hcz67_0
      try clear hcz67_1
      try clear hcz6_0
      try clear hcz6_1
      try clear hcz76_0
      try clear hcz76_1
      try clear hcz79_0
      try clear hcz79_1
      try clear hcz92_0
      try clear hcz92_1
      try clear hcz94_0
      try clear hcz94_1
      try clear hcz98_0
      try clear hcz98_1
      try clear hfz109_0
      try clear hfz109_1
      try clear hfz118_0
      try clear hfz118_1
      try clear hfz122_0
      try clear hfz122_1
      try clear hfz14_0
      try clear hfz14_1
      try clear hfz16_0
      try clear hfz16_1
      try clear hfz24_0
      try clear hfz24_1
      try clear hfz26_0
      try clear hfz26_1
      try clear hfz32_0
      try clear hfz32_1
      try clear hfz40_0
      try clear hfz40_1
      try clear hfz48_0
      try clear hfz48_1
      try clear hfz51_0
      try clear hfz51_1
      try clear hfz67_0
      try clear hfz67_1
      try clear hfz6_0
      try clear hfz6_1
      try clear hfz76_0
      try clear hfz76_1
      try clear hfz79_0
      try clear hfz79_1
      try clear hfz92_0
      try clear hfz92_1
      try clear hfz94_0
      try clear hfz94_1
      try clear hfz98_0
      try clear hfz98_1
      try clear p2
      obtain ⟨kq, x113_87, rfl, HA, HJ87, HO_128000, HO_128001, HO_135000, HO_135001, HO_144000, HO_144001, HO_175000, HO_175001, BK111, BK127, BK134, BK143, BK174, HB⟩ := hcut
      have hl144000_87 := (Kd.R_reads' HO_144000.out).1
      rw [hl144000_87] at HO_144000
      (try simp only [hl144000_87])
      (try simp only [hl144000_87] at BK111)
      (try simp only [hl144000_87] at BK127)
      (try simp only [hl144000_87] at BK134)
      (try simp only [hl144000_87] at BK143)
      (try simp only [hl144000_87] at BK174)
      (try simp only [hl144000_87] at HO_128000)
      (try simp only [hl144000_87] at HO_128001)
      (try simp only [hl144000_87] at HO_135000)
      (try simp only [hl144000_87] at HO_135001)
      (try simp only [hl144000_87] at HO_144001)
      (try simp only [hl144000_87] at HO_175000)
      (try simp only [hl144000_87] at HO_175001)
      have hl144001_87 := (Kd.R_reads' HO_144001.out).1
      rw [hl144001_87] at HO_144001
      (try simp only [hl144001_87])
      (try simp only [hl144001_87] at BK111)
      (try simp only [hl144001_87] at BK127)
      (try simp only [hl144001_87] at BK134)
      (try simp only [hl144001_87] at BK143)
      (try simp only [hl144001_87] at BK174)
      (try simp only [hl144001_87] at HO_128000)
      (try simp only [hl144001_87] at HO_128001)
      (try simp only [hl144001_87] at HO_135000)
      (try simp only [hl144001_87] at HO_135001)
      (try simp only [hl144001_87] at HO_144000)
      (try simp only [hl144001_87] at HO_175000)
      (try simp only [hl144001_87] at HO_175001)
      cases kq with
      | zero => exact absurd HA.out (by simp [laws_FnExactFarthestState.j2])
      | succ kj87 =>
       have H := HA.out
       clear HA
       simp only [laws_FnExactFarthestState.j2] at H
       by_cases c124 : x113_87 = true
       ·subst c124
        have H1 : (some false) = some r := by rw [if_pos rfl] at H; exact H
        clear H
        have H := H1
        clear H1
        exact absurd ((Option.some.inj H).trans hrt.out) (by decide)
       replace c124 := Bool.eq_false_iff.mpr c124
       subst c124
       have H1 : ((laws_heldVessels.f kj87 t157 t158 1).bind fun t176 => (if t176 < 0 then (some false) else (if t176 = t156 then (some true) else (some false)))) = some r := by rw [if_neg (show ¬ (false = true) by decide)] at H; exact H
       clear H
       have H := H1
       clear H1
       replace H := Option.bind_eq_some_iff.mp H
       obtain ⟨t176, A1250, H⟩ := H
       replace H : (if t176 < 0 then (some false) else (if t176 = t156 then (some true) else (some false))) = some r := H
       have A125 := Aside0.mk A1250
       clear A1250
       by_cases c126 : t176 < 0
       ·rw [if_pos c126] at H
        have c126b0 : decide (t176 < 0) = true := decide_eq_true c126
        clear c126
        exact absurd ((Option.some.inj H).trans hrt.out) (by decide)
       rw [if_neg c126] at H
       have c126b0 : decide (t176 < 0) = false := decide_eq_false c126
       clear c126
       by_cases c127 : t176 = t156
       rotate_left
       ·rw [if_neg c127] at H
        have c127b0 : (t176 == t156) = false := beq_eq_false_iff_ne.mpr c127
        have c127b1 : (t176 != t156) = true := bne_iff_ne.mpr c127
        exact absurd ((Option.some.inj H).trans hrt.out) (by decide)
       rw [if_pos c127] at H
       have c127b0 : (t176 == t156) = true := beq_iff_eq.mpr c127
       have c127b1 : (t176 != t156) = false := bne_eq_false_iff_eq.mpr c127
       clear c127
       obtain rfl := Option.some.inj H
       have hnb128 := NB143_111.out
       have hnc128 := NB111_143.out
       have hnb129 := NB143_127.out
       have hnc129 := NB127_143.out
       have hnb130 := NB143_134.out
       have hnc130 := NB134_143.out
       have hnb131 := NB143_174.out
       have hnc131 := NB174_143.out
       have hcz132_0 := bc0 BK143
       have hcz132_1 := bc1 BK143
       have hfz132_0 := blk_frozen BK143.out 0
       have hfz132_1 := blk_frozen BK143.out 1
       go_wp2_with (first | ((with_reducible refine gate_callee (f := 44) rfl ?_); refine gl 116 Try.func44 #[.agg #[.slice Ao36 t157.length co36, .slice Ao41 t158.length co41], .int .i64 1] ?_; (with_reducible refine (laws_heldVessels.calls kj87 _ _ t157 _ _ t158 1 t176 _ ?side1 ?side2 ?side3 ?side4 A125.out).mono ?_); (case side1 => exact cr HO_144000); (case side2 => exact (Kd.R_reads' HO_144000.out).2.1); (case side3 => exact cr HO_144001); (case side4 => exact (Kd.R_reads' HO_144001.out).2.1); rintro e w133 ⟨rfl, hb⟩; refine ⟨_, rfl, ?_⟩; replace HO_128000 := rb HO_128000 hb; replace HO_128001 := rb HO_128001 hb; replace HO_135000 := rb HO_135000 hb; replace HO_135001 := rb HO_135001 hb; replace HO_144000 := rb HO_144000 hb; replace HO_144001 := rb HO_144001 hb; replace HO_175000 := rb HO_175000 hb; replace HO_175001 := rb HO_175001 hb; replace BK111 := bb BK111 hb; replace BK127 := bb BK127 hb; replace BK134 := bb BK134 hb; replace BK143 := bb BK143 hb; replace BK174 := bb BK174 hb; replace HB := bs HB hb; (try clear hb)))
       go_ret
       exact ⟨by first | rfl | (simp [errW_none, errW_some] <;> rfl) | (simp [*, errW_none, errW_some] <;> rfl), bw HB⟩
end Go.Proofs.Ytigpkicbigpilaa.V
