/- Functions of the program over all that is reached: as plain functions, and that the calls come to them. -/
import Derived.Test.YtieioddimkafbaaTaViW
import Derived.Test.YtieioddimkafbaaTaVxH
namespace Go.Proofs.Ytieioddimkafbaa.V
open Go.RowKit Go.Proofs.YtieioddimkafbaaW.PrintWords Go.Proofs.YtieioddimkafbaaW.PrintLast Go.Proofs.YtieioddimkafbaaW.PrintMore Go.Proofs.Ytieioddimkafbaa.Sq Go.Proofs.Ytieioddimkafbaa.Sep
attribute [local go_sem] max2_int min2_int max_two min_two max_three min_three max_four min_four
set_option linter.unusedVariables false
set_option linter.unusedSimpArgs false
def impl_PlanToAmount.j0 : Nat → Bool → Int → List (S35) → List (Gv.K5 × Int) → List Int → List Int → List (S55) → Option ((List (S55)) × Bool)
 | 0, _, _, _, _, _, _, _ => none
 | k + 1, x23, x275000, x290000, x290001, x290002, x290003, x290004 => if x23 = true then (some (([] : List (S55)), false)) else ((impl_idxHeld.f k x290000 x275000).bind fun t291 => (if t291 < 0 then (some (([] : List (S55)), false)) else ((impl_reach_planTo.f k x290000 x290001 x290002 x290003 x290004 t291).bind fun t292 => (some (t292, true)))))
def impl_PlanToAmount.f (k : Nat) (l0_0 : List Int) (l0_1 : List Int) (a1_0 : Int) (a2 : Bool) : Option ((List (S55)) × Bool) := (impl_reachOf.f k l0_0 l0_1 a2 3000).bind fun bt275 => (if bt275.2.2.2.2.2 = true then ((impl_within.f a1_0 0 60).bind fun t290 => (impl_PlanToAmount.j0 k (!t290) a1_0 bt275.1 bt275.2.1 bt275.2.2.1 bt275.2.2.2.1 bt275.2.2.2.2.1)) else (impl_PlanToAmount.j0 k true a1_0 bt275.1 bt275.2.1 bt275.2.2.1 bt275.2.2.2.1 bt275.2.2.2.2.1))
set_option maxHeartbeats 8000000 in
set_option maxRecDepth 100000 in
theorem impl_PlanToAmount.calls (k : Nat) (A0_0 : Option Addr) (c0_0 : Nat) (l0_0 : List Int) (A0_1 : Option Addr) (c0_1 : Nat) (l0_1 : List Int) (a1_0 : Int) (a2 : Bool) (r1 : List (S55)) (r2 : Bool) (w : World) (hr0_0 : Kd.C (Kd.int .i64) w A0_0 l0_0.length l0_0) (hc0_0 : l0_0.length ≤ c0_0) (hr0_1 : Kd.C (Kd.int .i64) w A0_1 l0_1.length l0_1) (hc0_1 : l0_1.length ≤ c0_1) (h : impl_PlanToAmount.f k l0_0 l0_1 a1_0 a2 = some (r1, r2)) :
  Calls Try.prog 21 #[.agg #[.slice A0_0 l0_0.length c0_0, .slice A0_1 l0_1.length c0_1], .int .i64 a1_0, .bool a2] w fun e w' => ∃ v0_ : Value, e = .returned (.tuple #[v0_, .bool r2]) ∧ Kd.R k55 55 w' w.heap.size (fun _ => True) v0_ r1 ∧ Below w.heap.size w w' := by
 have hu35 := Try.underlying35
 have hu55 := Try.underlying55
 have hu68 := Try.underlying68
 have HR0_0 := Aside0.mk hr0_0
 have HC0_0 := Aside0.mk hc0_0
 clear hr0_0 hc0_0
 have HR0_1 := Aside0.mk hr0_1
 have HC0_1 := Aside0.mk hc0_1
 clear hr0_1 hc0_1
 have HB := Aside0.mk (Below.refl w.heap.size w)
 have H : ((impl_reachOf.f k l0_0 l0_1 a2 3000).bind fun bt275 => (if bt275.2.2.2.2.2 = true then ((impl_within.f a1_0 0 60).bind fun t290 => (impl_PlanToAmount.j0 k (!t290) a1_0 bt275.1 bt275.2.1 bt275.2.2.1 bt275.2.2.2.1 bt275.2.2.2.2.1)) else (impl_PlanToAmount.j0 k true a1_0 bt275.1 bt275.2.1 bt275.2.2.1 bt275.2.2.2.1 bt275.2.2.2.2.1))) = some (r1, r2) := h
 clear h
 replace H := Option.bind_eq_some_iff.mp H
 obtain ⟨⟨t275, t278, t279, t282, t285, t288⟩, A40, H⟩ := H
 (try dsimp only at H)
 have A4 := Aside0.mk A40
 clear A40
 have HC5 := Aside0.mk H
 clear H
 go_enter Try.func21, Try.ntmps21
 go_upto_region 2 with (first | ((with_reducible refine gate_dst (N := 3) rfl ?_); refine bx 3 #[.slice A0_0 l0_0.length c0_0, .slice A0_1 l0_1.length c0_1] 35 ?_; intro gb273 hg w6 hbox hb; have BK273 := Aside0.mk (hbox); have GW273 := ge HB hg; have GE273 := ge HB hg; replace HB := bs HB hb; clear hb hbox hg) | ((with_reducible refine gate_dst (N := 4) rfl ?_); refine bx 4 #[.int .i64 a1_0] 3 ?_; intro gb274 hg w7 hbox hb; have BK274 := Aside0.mk (hbox); have GW274 := ge HB hg; have GE274 := ge HB hg; replace HB := bs HB hb; have NB273_274 := nl BK273 hg; have NB274_273 := nr BK273 hg; replace BK273 := bb BK273 hb; clear hb hbox hg; have hnb8 := NB273_274.out; have hnc8 := NB274_273.out; have hcz9_0 := bc0 BK273; have hcz9_1 := bc1 BK273; have hfz9_0 := blk_frozen BK273.out 0; have hfz9_1 := blk_frozen BK273.out 1) | ((with_reducible refine gate_callee (f := 45) rfl ?_); refine gl 14 Try.func45 #[.agg #[.slice A0_0 l0_0.length c0_0, .slice A0_1 l0_1.length c0_1], .bool a2, .int .i64 3000] ?_; (with_reducible refine (impl_reachOf.callsP k (fun k_ => k_ < w.heap.size) _ _ l0_0 _ _ l0_1 a2 3000 t275 t278 t279 t282 t285 t288 _ ?side1 ?side2 ?side3 A4.out).mono ?_); (case side1 => exact foot_and (Kd.F_below (Kd.C_F (Kd.heap_int .i64) HR0_0.out) (bw HB)) (Kd.F_below (Kd.C_F (Kd.heap_int .i64) HR0_1.out) (bw HB))); (case side2 => exact HC0_0.out); (case side3 => exact HC0_1.out); rintro e w10 ⟨mb_, O_, v276, mv_, v280, v283, v286, rfl, hmp_, ho0, ho1, ho2, ho3, hb⟩; clear hmp_; refine ⟨_, rfl, ?_⟩; have HO277 := Aside0.mk (Kd.N_lower (Kd.N_mono (ok' := fun k_ => some k_ ≠ (v280 : Value).ownBlock ∧ some k_ ≠ (v283 : Value).ownBlock ∧ some k_ ≠ (v286 : Value).ownBlock ∧ k_ ≠ gb273 ∧ k_ ≠ gb274) ho0 (fun k_ hk_ => ⟨hk_.2.1, hk_.2.2.1, hk_.2.2.2.1, Or.elim hk_.1 (fun hs_ => fun e_ => Nat.not_le.2 hs_ (by rw [e_]; exact GW273.out)) (fun hn_ => (Kd.freshB (g := gb273) (o := .cells #[.slice A0_0 l0_0.length c0_0, .slice A0_1 l0_1.length c0_1] 35 (0, 0)) (bk BK273) k_ hn_)), Or.elim hk_.1 (fun hs_ => fun e_ => Nat.not_le.2 hs_ (by rw [e_]; exact GW274.out)) (fun hn_ => (Kd.freshB (g := gb274) (o := .cells #[.int .i64 a1_0] 3 (0, 0)) (bk BK274) k_ hn_))⟩)) (below_size (bw HB))); have HO281 := Aside0.mk (Kd.R_lower (Kd.R_mono (ok' := fun k_ => some k_ ≠ (v283 : Value).ownBlock) ho1 (fun _ hk_ => hk_.2)) (below_size (bw HB))); have HO284 := Aside0.mk (Kd.R_lower (Kd.R_mono (ok' := fun k_ => some k_ ≠ (v280 : Value).ownBlock) ho2 (fun _ hk_ => hk_.2)) (below_size (bw HB))); have HO287 := Aside0.mk (Kd.R_lower (Kd.R_newB (Kd.R_mono (ok' := fun k_ => True) ho3 (fun _ hk_ => trivial)) (g := gb274) (o := .cells #[.int .i64 a1_0] 3 (0, 0)) (bk BK274)) (below_size (bw HB))); replace BK273 := bb BK273 hb; replace BK274 := bb BK274 hb; replace HB := bs HB hb; (try clear hb); (try clear ho0); (try clear ho1); (try clear ho2); (try clear ho3)) | ((with_reducible refine gate_dst (N := 8) rfl ?_); refine bx 8 #[.slice none 0 0, .map none, .slice none 0 0, .slice none 0 0, .slice none 0 0] 68 ?_; intro gb289 hg w11 hbox hb; replace HO277 := Aside0.mk (Kd.N_below (Kd.N_elderB HO277.out gb289 (Nat.le_of_eq hg.symm)) hb); replace HO281 := rb HO281 hb; replace HO284 := rb HO284 hb; replace HO287 := rb HO287 hb; have BK289 := Aside0.mk (hbox); have GW289 := ge HB hg; have GE289 := ge HB hg; replace HB := bs HB hb; have NB273_289 := nl BK273 hg; have NB289_273 := nr BK273 hg; replace BK273 := bb BK273 hb; have NB274_289 := nl BK274 hg; have NB289_274 := nr BK274 hg; replace BK274 := bb BK274 hb; clear hb hbox hg; obtain ⟨Ao12, co12, eo12⟩ := Kd.N_slice HO277.out; subst eo12; have hnb13 := NB289_273.out; have hnc13 := NB273_289.out; have hnb14 := NB289_274.out; have hnc14 := NB274_289.out; have hcz15_0 := bc0 BK289; have hcz15_1 := bc1 BK289; have hcz15_2 := bc2 BK289; have hcz15_3 := bc3 BK289; have hcz15_4 := bc4 BK289; have hfz15_0 := blk_frozen BK289.out 0; have hfz15_1 := blk_frozen BK289.out 1; have hfz15_2 := blk_frozen BK289.out 2; have hfz15_3 := blk_frozen BK289.out 3; have hfz15_4 := blk_frozen BK289.out 4; obtain ⟨Ao16, co16, eo16⟩ := Kd.R_slice HO281.out; subst eo16; obtain ⟨Ao17, co17, eo17⟩ := Kd.R_slice HO284.out; subst eo17; obtain ⟨Ao18, co18, eo18⟩ := Kd.R_slice HO287.out; subst eo18))
 (try simp only [Act.put, List.setIfInBounds_toArray, List.set_cons_zero, List.set_cons_succ])
 go_cut [23] (fun v23 wc => ∃ (kq : Nat) (x23_4 : Bool), v23 = .bool x23_4 ∧ Aside0 (impl_PlanToAmount.j0 kq x23_4 a1_0 t275 t278 t279 t282 t285 = some (r1, r2)) ∧ Aside0 (kq ≤ k) ∧ Aside0 (Kd.N k35 35 wc w.heap.size (fun k_ => some k_ ≠ ((.slice Ao16 t279.length co16) : Value).ownBlock ∧ some k_ ≠ ((.slice Ao17 t282.length co17) : Value).ownBlock ∧ some k_ ≠ ((.slice Ao18 t285.length co18) : Value).ownBlock ∧ k_ ≠ gb273 ∧ k_ ≠ gb274 ∧ k_ ≠ gb289) (.slice Ao12 t275.length co12) t275) ∧ Aside0 (Kd.R (Kd.int .i64) 3 wc w.heap.size (fun k_ => some k_ ≠ ((.slice Ao17 t282.length co17) : Value).ownBlock) (.slice Ao16 t279.length co16) t279) ∧ Aside0 (Kd.R (Kd.int .i64) 3 wc w.heap.size (fun k_ => some k_ ≠ ((.slice Ao16 t279.length co16) : Value).ownBlock) (.slice Ao17 t282.length co17) t282) ∧ Aside0 (Kd.R k55 55 wc w.heap.size (fun k_ => k_ ≠ gb274) (.slice Ao18 t285.length co18) t285) ∧ Aside0 (wc.heap[gb273]? = some (.cells #[(.slice A0_0 l0_0.length c0_0), (.slice A0_1 l0_1.length c0_1)] 35 (0, 0))) ∧ Aside0 (wc.heap[gb274]? = some (.cells #[.int .i64 a1_0] 3 (0, 0))) ∧ Aside0 (wc.heap[gb289]? = some (.cells #[(.slice Ao12 t275.length co12), .map mv_, (.slice Ao16 t279.length co16), (.slice Ao17 t282.length co17), (.slice Ao18 t285.length co18)] 68 (0, 0))) ∧ Aside0 (Below w.heap.size w wc))
 case first =>
  have H := HC5.out
  clear HC5
  by_cases c19 : t288 = true
  rotate_left
  ·replace c19 := Bool.eq_false_iff.mpr c19
   subst c19
   have H1 : (impl_PlanToAmount.j0 k true a1_0 t275 t278 t279 t282 t285) = some (r1, r2) := by rw [if_neg (show ¬ (false = true) by decide)] at H; exact H
   clear H
   have H := H1
   clear H1
   have H' := Aside0.mk H
   clear H
   go_wp2
   go_meet
   case rel => exact ⟨_, (true), (by first | rfl | (simp; done) | (simp [*]; done)), H', ⟨by first | omega | exact Nat.le_refl _⟩, ⟨by exact Kd.N_mono (Kd.N_far (p := ⟨gb289, 4, none⟩) (Kd.N_far (p := ⟨gb289, 3, none⟩) (Kd.N_far (p := ⟨gb289, 2, none⟩) (Kd.N_far (p := ⟨gb289, 1, none⟩) (Kd.N_far (p := ⟨gb289, 0, none⟩) (Kd.N_mono HO277.out (fun k_ hk => (⟨hk, hk.2⟩ : _ ∧ k_ ≠ gb289))) (fun _ hk => hk.2) (.slice Ao12 t275.length co12)) (fun _ hk => hk.2) (.map mv_)) (fun _ hk => hk.2) (.slice Ao16 t279.length co16)) (fun _ hk => hk.2) (.slice Ao17 t282.length co17)) (fun _ hk => hk.2) (.slice Ao18 t285.length co18)) (fun _ hk => ⟨hk.1.1.1, ⟨hk.1.1.2.1, ⟨hk.1.1.2.2.1, ⟨hk.1.1.2.2.2.1, ⟨hk.1.1.2.2.2.2, hk.1.2⟩⟩⟩⟩⟩)⟩, ⟨by exact Kd.R_mono (Kd.R_far (p := ⟨gb289, 4, none⟩) (Kd.R_far (p := ⟨gb289, 3, none⟩) (Kd.R_far (p := ⟨gb289, 2, none⟩) (Kd.R_far (p := ⟨gb289, 1, none⟩) (Kd.R_far (p := ⟨gb289, 0, none⟩) (Kd.R_types HO281.out BK289.out (by decide)) (fun _ hk => hk.2) (.slice Ao12 t275.length co12)) (fun _ hk => hk.2) (.map mv_)) (fun _ hk => hk.2) (.slice Ao16 t279.length co16)) (fun _ hk => hk.2) (.slice Ao17 t282.length co17)) (fun _ hk => hk.2) (.slice Ao18 t285.length co18)) (fun _ hk => hk.1)⟩, ⟨by exact Kd.R_mono (Kd.R_far (p := ⟨gb289, 4, none⟩) (Kd.R_far (p := ⟨gb289, 3, none⟩) (Kd.R_far (p := ⟨gb289, 2, none⟩) (Kd.R_far (p := ⟨gb289, 1, none⟩) (Kd.R_far (p := ⟨gb289, 0, none⟩) (Kd.R_types HO284.out BK289.out (by decide)) (fun _ hk => hk.2) (.slice Ao12 t275.length co12)) (fun _ hk => hk.2) (.map mv_)) (fun _ hk => hk.2) (.slice Ao16 t279.length co16)) (fun _ hk => hk.2) (.slice Ao17 t282.length co17)) (fun _ hk => hk.2) (.slice Ao18 t285.length co18)) (fun _ hk => hk.1)⟩, ⟨by exact Kd.R_mono (Kd.R_far (p := ⟨gb289, 4, none⟩) (Kd.R_far (p := ⟨gb289, 3, none⟩) (Kd.R_far (p := ⟨gb289, 2, none⟩) (Kd.R_far (p := ⟨gb289, 1, none⟩) (Kd.R_far (p := ⟨gb289, 0, none⟩) (Kd.R_types HO287.out BK289.out (by decide)) (fun _ hk => hk.2) (.slice Ao12 t275.length co12)) (fun _ hk => hk.2) (.map mv_)) (fun _ hk => hk.2) (.slice Ao16 t279.length co16)) (fun _ hk => hk.2) (.slice Ao17 t282.length co17)) (fun _ hk => hk.2) (.slice Ao18 t285.length co18)) (fun _ hk => hk.1.2)⟩, ⟨bk BK273⟩, ⟨bk BK274⟩, ⟨by refine blk_put (cs := #[.slice Ao12 t275.length co12, .map mv_, .slice Ao16 t279.length co16, .slice Ao17 t282.length co17, .slice none 0 0]) ?_ 4 _ rfl; refine blk_put (cs := #[.slice Ao12 t275.length co12, .map mv_, .slice Ao16 t279.length co16, .slice none 0 0, .slice none 0 0]) ?_ 3 _ rfl; refine blk_put (cs := #[.slice Ao12 t275.length co12, .map mv_, .slice none 0 0, .slice none 0 0, .slice none 0 0]) ?_ 2 _ rfl; refine blk_put (cs := #[.slice Ao12 t275.length co12, .map none, .slice none 0 0, .slice none 0 0, .slice none 0 0]) ?_ 1 _ rfl; refine blk_put (cs := #[.slice none 0 0, .map none, .slice none 0 0, .slice none 0 0, .slice none 0 0]) ?_ 0 _ rfl; exact bk BK289⟩, ⟨bw HB⟩⟩
  subst c19
  have H1 : ((impl_within.f a1_0 0 60).bind fun t290 => (impl_PlanToAmount.j0 k (!t290) a1_0 t275 t278 t279 t282 t285)) = some (r1, r2) := by rw [if_pos rfl] at H; exact H
  clear H
  have H := H1
  clear H1
  replace H := Option.bind_eq_some_iff.mp H
  obtain ⟨t290, A200, H⟩ := H
  (try dsimp only at H)
  have A20 := Aside0.mk A200
  clear A200
  have H' := Aside0.mk H
  clear H
  have hnb21 := NB274_273.out
  have hnc21 := NB273_274.out
  have hnb22 := NB274_289.out
  have hnc22 := NB289_274.out
  have hcz23_0 := bc0 BK274
  have hfz23_0 := blk_frozen BK274.out 0
  go_wp2_with (first | (go_at_call 46; (with_reducible refine (impl_within.calls a1_0 0 60 t290 _ A20.out).mono ?_); rintro e w' ⟨rfl, ⟨nd, rfl⟩⟩))
  go_meet
  case rel => exact ⟨_, (!t290), (by first | rfl | (simp; done) | (simp [*]; done)), H', ⟨by first | omega | exact Nat.le_refl _⟩, ⟨by exact Kd.N_mono (Kd.N_far (p := ⟨gb289, 4, none⟩) (Kd.N_far (p := ⟨gb289, 3, none⟩) (Kd.N_far (p := ⟨gb289, 2, none⟩) (Kd.N_far (p := ⟨gb289, 1, none⟩) (Kd.N_far (p := ⟨gb289, 0, none⟩) (Kd.N_mono HO277.out (fun k_ hk => (⟨hk, hk.2⟩ : _ ∧ k_ ≠ gb289))) (fun _ hk => hk.2) (.slice Ao12 t275.length co12)) (fun _ hk => hk.2) (.map mv_)) (fun _ hk => hk.2) (.slice Ao16 t279.length co16)) (fun _ hk => hk.2) (.slice Ao17 t282.length co17)) (fun _ hk => hk.2) (.slice Ao18 t285.length co18)) (fun _ hk => ⟨hk.1.1.1, ⟨hk.1.1.2.1, ⟨hk.1.1.2.2.1, ⟨hk.1.1.2.2.2.1, ⟨hk.1.1.2.2.2.2, hk.1.2⟩⟩⟩⟩⟩)⟩, ⟨by exact Kd.R_mono (Kd.R_far (p := ⟨gb289, 4, none⟩) (Kd.R_far (p := ⟨gb289, 3, none⟩) (Kd.R_far (p := ⟨gb289, 2, none⟩) (Kd.R_far (p := ⟨gb289, 1, none⟩) (Kd.R_far (p := ⟨gb289, 0, none⟩) (Kd.R_types HO281.out BK289.out (by decide)) (fun _ hk => hk.2) (.slice Ao12 t275.length co12)) (fun _ hk => hk.2) (.map mv_)) (fun _ hk => hk.2) (.slice Ao16 t279.length co16)) (fun _ hk => hk.2) (.slice Ao17 t282.length co17)) (fun _ hk => hk.2) (.slice Ao18 t285.length co18)) (fun _ hk => hk.1)⟩, ⟨by exact Kd.R_mono (Kd.R_far (p := ⟨gb289, 4, none⟩) (Kd.R_far (p := ⟨gb289, 3, none⟩) (Kd.R_far (p := ⟨gb289, 2, none⟩) (Kd.R_far (p := ⟨gb289, 1, none⟩) (Kd.R_far (p := ⟨gb289, 0, none⟩) (Kd.R_types HO284.out BK289.out (by decide)) (fun _ hk => hk.2) (.slice Ao12 t275.length co12)) (fun _ hk => hk.2) (.map mv_)) (fun _ hk => hk.2) (.slice Ao16 t279.length co16)) (fun _ hk => hk.2) (.slice Ao17 t282.length co17)) (fun _ hk => hk.2) (.slice Ao18 t285.length co18)) (fun _ hk => hk.1)⟩, ⟨by exact Kd.R_mono (Kd.R_far (p := ⟨gb289, 4, none⟩) (Kd.R_far (p := ⟨gb289, 3, none⟩) (Kd.R_far (p := ⟨gb289, 2, none⟩) (Kd.R_far (p := ⟨gb289, 1, none⟩) (Kd.R_far (p := ⟨gb289, 0, none⟩) (Kd.R_types HO287.out BK289.out (by decide)) (fun _ hk => hk.2) (.slice Ao12 t275.length co12)) (fun _ hk => hk.2) (.map mv_)) (fun _ hk => hk.2) (.slice Ao16 t279.length co16)) (fun _ hk => hk.2) (.slice Ao17 t282.length co17)) (fun _ hk => hk.2) (.slice Ao18 t285.length co18)) (fun _ hk => hk.1.2)⟩, ⟨bk BK273⟩, ⟨bk BK274⟩, ⟨by refine blk_put (cs := #[.slice Ao12 t275.length co12, .map mv_, .slice Ao16 t279.length co16, .slice Ao17 t282.length co17, .slice none 0 0]) ?_ 4 _ rfl; refine blk_put (cs := #[.slice Ao12 t275.length co12, .map mv_, .slice Ao16 t279.length co16, .slice none 0 0, .slice none 0 0]) ?_ 3 _ rfl; refine blk_put (cs := #[.slice Ao12 t275.length co12, .map mv_, .slice none 0 0, .slice none 0 0, .slice none 0 0]) ?_ 2 _ rfl; refine blk_put (cs := #[.slice Ao12 t275.length co12, .map none, .slice none 0 0, .slice none 0 0, .slice none 0 0]) ?_ 1 _ rfl; refine blk_put (cs := #[.slice none 0 0, .map none, .slice none 0 0, .slice none 0 0, .slice none 0 0]) ?_ 0 _ rfl; exact bk BK289⟩, ⟨bw HB⟩⟩
 case rest =>
  clear HC5
  try clear c1
  try clear c2
  try clear p2
  try clear c4
  try clear c8
  try clear c13
  try clear c14
  try clear c19
  try clear c21
  try clear c22
  try clear hcz15_0
  try clear hcz15_1
  try clear hcz15_2
  try clear hcz15_3
  try clear hcz15_4
  try clear hcz23_0
  try clear hcz23_1
  try clear hcz9_0
  try clear hcz9_1
  try clear hfz15_0
  try clear hfz15_1
  try clear hfz15_2
  try clear hfz15_3
  try clear hfz15_4
  try clear hfz23_0
  try clear hfz23_1
  try clear hfz9_0
  try clear hfz9_1
  obtain ⟨kq, x23_4, rfl, HA, HJ4, HO_290000, HO_290002, HO_290003, HO_290004, BK273, BK274, BK289, HB⟩ := hcut
  cases kq with
  | zero => exact absurd HA.out (by simp [impl_PlanToAmount.j0])
  | succ kj4 =>
   have H := HA.out
   clear HA
   simp only [impl_PlanToAmount.j0] at H
   by_cases c24 : x23_4 = true
   ·subst c24
    have H1 : (some (([] : List (S55)), false)) = some (r1, r2) := by rw [if_pos rfl] at H; exact H
    clear H
    have H := H1
    clear H1
    simp only [Option.some.injEq, Prod.mk.injEq] at H
    obtain ⟨rfl, rfl⟩ := H
    go_wp2
    go_ret2
    exact ⟨_, by first | rfl | (simp [errW_none, errW_some] <;> rfl) | (simp [*, errW_none, errW_some] <;> rfl), by first | exact Kd.R_nil _ _ _ _ _ | exact Kd.N_nil _ _ _ _ _ | exact Kd.V_nil _ _ _ _ _ | exact Kd.Q_nil _ _ _ _ _ | exact Kd.S_nil _ _ _ _ _, bw HB⟩
   replace c24 := Bool.eq_false_iff.mpr c24
   subst c24
   have H1 : ((impl_idxHeld.f kj4 t275 a1_0).bind fun t291 => (if t291 < 0 then (some (([] : List (S55)), false)) else ((impl_reach_planTo.f kj4 t275 t278 t279 t282 t285 t291).bind fun t292 => (some (t292, true))))) = some (r1, r2) := by rw [if_neg (show ¬ (false = true) by decide)] at H; exact H
   clear H
   have H := H1
   clear H1
   replace H := Option.bind_eq_some_iff.mp H
   obtain ⟨t291, A250, H⟩ := H
   (try dsimp only at H)
   have A25 := Aside0.mk A250
   clear A250
   by_cases c26 : t291 < 0
   ·rw [if_pos c26] at H
    have c26b0 : decide (t291 < 0) = true := decide_eq_true c26
    clear c26
    simp only [Option.some.injEq, Prod.mk.injEq] at H
    obtain ⟨rfl, rfl⟩ := H
    have hnb27 := NB289_273.out
    have hnc27 := NB273_289.out
    have hnb28 := NB289_274.out
    have hnc28 := NB274_289.out
    have hcz29_0 := bc0 BK289
    have hcz29_1 := bc1 BK289
    have hcz29_2 := bc2 BK289
    have hcz29_3 := bc3 BK289
    have hcz29_4 := bc4 BK289
    have hfz29_0 := blk_frozen BK289.out 0
    have hfz29_1 := blk_frozen BK289.out 1
    have hfz29_2 := blk_frozen BK289.out 2
    have hfz29_3 := blk_frozen BK289.out 3
    have hfz29_4 := blk_frozen BK289.out 4
    have hnb30 := NB274_273.out
    have hnc30 := NB273_274.out
    have hcz31_0 := bc0 BK274
    have hfz31_0 := blk_frozen BK274.out 0
    go_wp2_with (first | ((with_reducible refine gate_callee (f := 47) rfl ?_); refine gl 27 Try.func47 #[.slice Ao12 t275.length co12, .func (.func 48) #[] #[.pointer (some ⟨gb274, 0, none⟩)]] ?_; (with_reducible refine (impl_idxHeld.calls kj4 _ _ t275 a1_0 t291 _ gb274 ?side2 ?side1 A25.out).mono ?_); (case side1 => repeat (first | exact (Kd.N_reads' HO_290000.out).2.2 | (with_reducible refine Kd.C_alloc ?_ _) | (with_reducible refine Kd.C_drewN ?_ _) | (with_reducible refine Kd.C_drew ?_))); (case side2 => exact bk BK274); rintro e w32 ⟨rfl, hb⟩; refine ⟨_, rfl, ?_⟩; replace HO_290000 := Aside0.mk (Kd.N_below HO_290000.out hb); replace HO_290002 := rb HO_290002 hb; replace HO_290003 := rb HO_290003 hb; replace HO_290004 := rb HO_290004 hb; replace BK273 := bb BK273 hb; replace BK274 := bb BK274 hb; replace BK289 := bb BK289 hb; replace HB := bs HB hb; (try clear hb)))
    go_ret2
    exact ⟨_, by first | rfl | (simp [errW_none, errW_some] <;> rfl) | (simp [*, errW_none, errW_some] <;> rfl), by first | exact Kd.R_nil _ _ _ _ _ | exact Kd.N_nil _ _ _ _ _ | exact Kd.V_nil _ _ _ _ _ | exact Kd.Q_nil _ _ _ _ _ | exact Kd.S_nil _ _ _ _ _, bw HB⟩
   rw [if_neg c26] at H
   have c26b0 : decide (t291 < 0) = false := decide_eq_false c26
   clear c26
   replace H := Option.bind_eq_some_iff.mp H
   obtain ⟨t292, A330, H⟩ := H
   (try dsimp only at H)
   have A33 := Aside0.mk A330
   clear A330
   simp only [Option.some.injEq, Prod.mk.injEq] at H
   obtain ⟨rfl, rfl⟩ := H
   have hnb34 := NB289_273.out
   have hnc34 := NB273_289.out
   have hnb35 := NB289_274.out
   have hnc35 := NB274_289.out
   have hcz36_0 := bc0 BK289
   have hcz36_1 := bc1 BK289
   have hcz36_2 := bc2 BK289
   have hcz36_3 := bc3 BK289
   have hcz36_4 := bc4 BK289
   have hfz36_0 := blk_frozen BK289.out 0
   have hfz36_1 := blk_frozen BK289.out 1
   have hfz36_2 := blk_frozen BK289.out 2
   have hfz36_3 := blk_frozen BK289.out 3
   have hfz36_4 := blk_frozen BK289.out 4
   have hnb37 := NB274_273.out
   have hnc37 := NB273_274.out
   have hcz38_0 := bc0 BK274
   have hfz38_0 := blk_frozen BK274.out 0
   go_wp2_with (first | ((with_reducible refine gate_callee (f := 47) rfl ?_); refine gl 27 Try.func47 #[.slice Ao12 t275.length co12, .func (.func 48) #[] #[.pointer (some ⟨gb274, 0, none⟩)]] ?_; (with_reducible refine (impl_idxHeld.calls kj4 _ _ t275 a1_0 t291 _ gb274 ?side2 ?side1 A25.out).mono ?_); (case side1 => repeat (first | exact (Kd.N_reads' HO_290000.out).2.2 | (with_reducible refine Kd.C_alloc ?_ _) | (with_reducible refine Kd.C_drewN ?_ _) | (with_reducible refine Kd.C_drew ?_))); (case side2 => exact bk BK274); rintro e w39 ⟨rfl, hb⟩; refine ⟨_, rfl, ?_⟩; replace HO_290000 := Aside0.mk (Kd.N_below HO_290000.out hb); replace HO_290002 := rb HO_290002 hb; replace HO_290003 := rb HO_290003 hb; replace HO_290004 := rb HO_290004 hb; replace BK273 := bb BK273 hb; replace BK274 := bb BK274 hb; replace BK289 := bb BK289 hb; replace HB := bs HB hb; (try clear hb); have hcz40_0 := bc0 BK289; have hcz40_1 := bc1 BK289; have hcz40_2 := bc2 BK289; have hcz40_3 := bc3 BK289; have hcz40_4 := bc4 BK289; have hfz40_0 := blk_frozen BK289.out 0; have hfz40_1 := blk_frozen BK289.out 1; have hfz40_2 := blk_frozen BK289.out 2; have hfz40_3 := blk_frozen BK289.out 3; have hfz40_4 := blk_frozen BK289.out 4) | ((with_reducible refine gate_callee (f := 50) rfl ?_); refine gl 32 Try.func50 #[.agg #[.slice Ao12 t275.length co12, .map mv_, .slice Ao16 t279.length co16, .slice Ao17 t282.length co17, .slice Ao18 t285.length co18], .int .i64 t291] ?_; (with_reducible refine (impl_reach_planTo.calls mv_ kj4 _ _ t275 t278 _ _ t279 _ _ t282 _ _ t285 t291 t292 _ ?side1 ?side2 ?side3 ?side4 ?side5 ?side6 ?side7 ?side8 A33.out).mono ?_); (case side1 => repeat (first | exact (Kd.N_reads' HO_290000.out).2.2 | (with_reducible refine Kd.C_alloc ?_ _) | (with_reducible refine Kd.C_drewN ?_ _) | (with_reducible refine Kd.C_drew ?_))); (case side2 => exact (Kd.N_reads' HO_290000.out).2.1); (case side3 => exact cr HO_290002); (case side4 => exact (Kd.R_reads' HO_290002.out).2.1); (case side5 => exact cr HO_290003); (case side6 => exact (Kd.R_reads' HO_290003.out).2.1); (case side7 => exact cr HO_290004); (case side8 => exact (Kd.R_reads' HO_290004.out).2.1); rintro e w41 ⟨v293, rfl, ho0, hb⟩; refine ⟨_, rfl, ?_⟩; replace HO_290000 := Aside0.mk (Kd.N_elder' HO_290000.out (Kd.R_base ho0) hb); replace HO_290002 := rb HO_290002 hb; replace HO_290003 := rb HO_290003 hb; have HO294 := Aside0.mk (Kd.R_lower (Kd.R_newB (Kd.R_new' ho0 (Kd.R_lt (rk HO_290004))) (g := gb274) (o := .cells #[.int .i64 a1_0] 3 (0, 0)) (bk BK274)) (below_size (bw HB))); replace HO_290004 := Aside0.mk (Kd.R_elder' (rk HO_290004) (Kd.R_base ho0) hb); replace BK273 := bb BK273 hb; replace BK274 := bb BK274 hb; replace BK289 := bb BK289 hb; replace HB := bs HB hb; (try clear hb); (try clear ho0)))
   go_ret2
   exact ⟨_, by first | rfl | (simp [errW_none, errW_some] <;> rfl) | (simp [*, errW_none, errW_some] <;> rfl), by exact Kd.R_mono HO294.out (fun _ hk => trivial), bw HB⟩
end Go.Proofs.Ytieioddimkafbaa.V
