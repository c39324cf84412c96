-- Functions of the program as plain functions, and that the calls come to them. Written by a program (ownprint.py); nothing here is trusted: Lean checks it.
import Derived.Test.YtieioddimkafbaaTbVx0
import Derived.Test.YtieioddimkafbaaTbVx1
import Derived.Test.YtieioddimkafbaaTbVx3
namespace Go.Proofs.Ytieioddimkafbaa.V
open Go.RowKit Go.Proofs.YtieioddimkafbaaW.PrintWords Go.Proofs.YtieioddimkafbaaW.PrintLast Go.Proofs.YtieioddimkafbaaW.PrintMore Go.Proofs.Ytieioddimkafbaa.Sq
attribute [local go_sem] max2_int min2_int max_two min_two max_three min_three max_four min_four   -- for this text's walks alone
set_option linter.unusedVariables false
set_option linter.unusedSimpArgs false
def impl_Vessels_behind.f (l0_0 : List Int) (l0_1 : List Int) (a1_0 : Int) (a1_1 : Int) : Option (List Int × List Int) := (impl_Vessels_own.f l0_0 l0_1).bind fun bt263 => ((impl_Vessels_amount.f l0_0 l0_1 a1_0 a1_1).bind fun t269 => (if a1_0 ≥ 0 then (if 0 ≤ a1_0 then (if a1_0 < (bt263.2.length : Int) then ((some (bt263.2.set (a1_0 : Int).toNat (wrap64 ((rd bt263.2 a1_0) - t269)) : List Int)).bind fun y272 => (if a1_1 ≥ 0 then (if 0 ≤ a1_1 then (if a1_1 < (bt263.2.length : Int) then (some (bt263.1, (y272.set (a1_1 : Int).toNat (wrap64 ((rd y272 a1_1) + t269))))) else (none)) else (none)) else (some (bt263.1, y272)))) else (none)) else (none)) else (if a1_1 ≥ 0 then (if 0 ≤ a1_1 then (if a1_1 < (bt263.2.length : Int) then (some (bt263.1, (bt263.2.set (a1_1 : Int).toNat (wrap64 ((rd bt263.2 a1_1) + t269))))) else (none)) else (none)) else (some (bt263.1, bt263.2)))))
def impl_Vessels_behind.T1 : Bool × List (List Nat × List Nat) := (true, [([], []), ([0], [0]), ([], []), ([], []), ([2, 3, 1], [2, 3]), ([], []), ([5, 1, 4, 0, 1, 5], [1, 5]), ([4, 6, 0, 1, 2, 3, 4, 5, 6], [4])])
def impl_Vessels_behind.B1 : List Nat := [0, 1, 0, 0, 15, 0, 63, 127]
theorem impl_Vessels_behind.tab1 : rtab .any (opsOf Try.f62 1) = impl_Vessels_behind.T1 := by kernel_rfl
theorem impl_Vessels_behind.bits1 : waitsOk impl_Vessels_behind.T1.2 impl_Vessels_behind.B1 = true := by kernel_rfl
set_option maxHeartbeats 8000000 in
set_option maxRecDepth 100000 in
theorem impl_Vessels_behind.calls (A0_0 : Option Addr) (c0_0 : Nat) (l0_0 : List Int) (A0_1 : Option Addr) (c0_1 : Nat) (l0_1 : List Int) (a1_0 : Int) (a1_1 : Int) (r1 : List Int) (r2 : List Int) (w : World) (hr0_0 : Kd.C (Kd.int .i64) w A0_0 l0_0.length l0_0) (hc0_0 : l0_0.length ≤ c0_0) (hr0_1 : Kd.C (Kd.int .i64) w A0_1 l0_1.length l0_1) (hc0_1 : l0_1.length ≤ c0_1) (h : impl_Vessels_behind.f l0_0 l0_1 a1_0 a1_1 = some (r1, r2)) :
  Calls Try.prog 62 #[.agg #[.slice A0_0 l0_0.length c0_0, .slice A0_1 l0_1.length c0_1], .agg #[.int .i64 a1_0, .int .i64 a1_1]] w fun e w' => ∃ v0_ v1_ : Value, e = .returned (.agg #[v0_, v1_]) ∧ Kd.R (Kd.int .i64) 3 w' w.heap.size (fun k_ => some k_ ≠ (v1_ : Value).ownBlock) v0_ r1 ∧ Kd.R (Kd.int .i64) 3 w' w.heap.size (fun k_ => some k_ ≠ (v0_ : Value).ownBlock) v1_ r2 ∧ Below w.heap.size w w' := by
 have hu35 := Try.underlying35
 have hu55 := Try.underlying55
 have HR0_0 := Aside0.mk hr0_0
 have HC0_0 := Aside0.mk hc0_0
 clear hr0_0 hc0_0
 have HR0_1 := Aside0.mk hr0_1
 have HC0_1 := Aside0.mk hc0_1
 clear hr0_1 hc0_1
 have HB := Aside0.mk (Below.refl w.heap.size w)
 have H : ((impl_Vessels_own.f l0_0 l0_1).bind fun bt263 => ((impl_Vessels_amount.f l0_0 l0_1 a1_0 a1_1).bind fun t269 => (if a1_0 ≥ 0 then (if 0 ≤ a1_0 then (if a1_0 < (bt263.2.length : Int) then ((some (bt263.2.set (a1_0 : Int).toNat (wrap64 ((rd bt263.2 a1_0) - t269)) : List Int)).bind fun y272 => (if a1_1 ≥ 0 then (if 0 ≤ a1_1 then (if a1_1 < (bt263.2.length : Int) then (some (bt263.1, (y272.set (a1_1 : Int).toNat (wrap64 ((rd y272 a1_1) + t269))))) else (none)) else (none)) else (some (bt263.1, y272)))) else (none)) else (none)) else (if a1_1 ≥ 0 then (if 0 ≤ a1_1 then (if a1_1 < (bt263.2.length : Int) then (some (bt263.1, (bt263.2.set (a1_1 : Int).toNat (wrap64 ((rd bt263.2 a1_1) + t269))))) else (none)) else (none)) else (some (bt263.1, bt263.2)))))) = some (r1, r2) := h
 clear h
 replace H := Option.bind_eq_some_iff.mp H
 obtain ⟨⟨t263, t266⟩, A30, H⟩ := H
 (try dsimp only at H)
 have A3 := Aside0.mk A30
 clear A30
 replace H := Option.bind_eq_some_iff.mp H
 obtain ⟨t269, A40, H⟩ := H
 (try dsimp only at H)
 have A4 := Aside0.mk A40
 clear A40
 by_cases c5 : a1_0 ≥ 0
 rotate_left
 ·rw [if_neg c5] at H
  have c5b0 : decide (0 ≤ a1_0) = false := decide_eq_false c5
  clear c5
  by_cases c68 : a1_1 ≥ 0
  rotate_left
  ·rw [if_neg c68] at H
   have c68b0 : decide (0 ≤ a1_1) = false := decide_eq_false c68
   clear c68
   simp only [Option.some.injEq, Prod.mk.injEq] at H
   obtain ⟨rfl, rfl⟩ := H
   go_enter Try.func62, Try.ntmps62
   try go_wp2_with (first | ((with_reducible refine gate_dst (N := 2) rfl ?_); refine bx 2 #[.slice A0_0 l0_0.length c0_0, .slice A0_1 l0_1.length c0_1] 35 ?_; intro gb260 hg w97 hbox hb; have BK260 := Aside0.mk (hbox); have GW260 := ge HB hg; have GE260 := ge HB hg; replace HB := bs HB hb; clear hb hbox hg) | ((with_reducible refine gate_dst (N := 3) rfl ?_); refine bx 3 #[.int .i64 a1_0, .int .i64 a1_1] 55 ?_; intro gb261 hg w98 hbox hb; have BK261 := Aside0.mk (hbox); have GW261 := ge HB hg; have GE261 := ge HB hg; replace HB := bs HB hb; have NB260_261 := nl BK260 hg; have NB261_260 := nr BK260 hg; replace BK260 := bb BK260 hb; clear hb hbox hg) | ((with_reducible refine gate_dst (N := 4) rfl ?_); refine bx 4 #[.slice none 0 0, .slice none 0 0] 35 ?_; intro gb262 hg w99 hbox hb; have BK262 := Aside0.mk (hbox); have GW262 := ge HB hg; have GE262 := ge HB hg; replace HB := bs HB hb; have NB260_262 := nl BK260 hg; have NB262_260 := nr BK260 hg; replace BK260 := bb BK260 hb; have NB261_262 := nl BK261 hg; have NB262_261 := nr BK261 hg; replace BK261 := bb BK261 hb; clear hb hbox hg))
   replace BK260 := Aside0.mk (blk_drew BK260.out)
   replace BK261 := Aside0.mk (blk_drew BK261.out)
   replace BK262 := Aside0.mk (blk_drew BK262.out)
   replace HB := Aside0.mk (below_drew1 HB.out)
   refine start_ (n := 8) (S := fun w' => w'.cell? ⟨gb260, 0, none⟩ = some (.slice A0_0 l0_0.length c0_0) ∧ w'.cell? ⟨gb260, 1, none⟩ = some (.slice A0_1 l0_1.length c0_1) ∧ w'.cell? ⟨gb261, 0, none⟩ = some (.int .i64 a1_0) ∧ w'.cell? ⟨gb261, 1, none⟩ = some (.int .i64 a1_1)) (ds := []) (bl 8 0) (by kernel_rfl) rfl rfl ⟨bc0 BK260, bc1 BK260, bc0 BK261, bc1 BK261⟩ (fun hHeld => ?_); refine with_tabW impl_Vessels_behind.tab1 impl_Vessels_behind.bits1 (fun HT_ HW_ => ?_)
   generalize w99.drew = w100 at BK260 BK261 BK262 HB hHeld ⊢
   refine tk 0 7 (bl 8 1) HT_.out HW_.out hHeld (v := ?_) (a' := ?_) ?_ ?_ ?_
   rotate_left; (rintro w' ⟨s0, s1, s2, s3⟩; go_simp; with_reducible rfl); rotate_left; (simp only [sqa, sqb, sqc, sqd, i64_w, i32_w]; rfl)
   refine tk 2 9 (bl 8 5) HT_.out HW_.out hHeld (v := ?_) (a' := ?_) ?_ ?_ ?_
   rotate_left; (rintro w' ⟨s0, s1, s2, s3⟩; go_simp; with_reducible rfl); rotate_left; (simp only [sqa, sqb, sqc, sqd, i64_w, i32_w]; rfl)
   refine tk 3 10 (bl 8 13) HT_.out HW_.out hHeld (v := ?_) (a' := ?_) ?_ ?_ ?_
   rotate_left; (rintro w' ⟨s0, s1, s2, s3⟩; go_simp; with_reducible rfl); rotate_left; (simp only [sqa, sqb, sqc, sqd, i64_w, i32_w]; rfl)
   refine join_ (σ := Value × Value × Nat) 2 (bl 8 63) (fun s_ => [(8, .agg #[s_.1, s_.2.1]), (11, .int .i64 t269), (5, .pointer (some ⟨s_.2.2, 0, none⟩))]) (fun s_ w' => (w'.cell? ⟨gb260, 0, none⟩ = some (.slice A0_0 l0_0.length c0_0) ∧ w'.cell? ⟨gb260, 1, none⟩ = some (.slice A0_1 l0_1.length c0_1) ∧ w'.cell? ⟨gb261, 0, none⟩ = some (.int .i64 a1_0) ∧ w'.cell? ⟨gb261, 1, none⟩ = some (.int .i64 a1_1)) ∧ (Kd.R (Kd.int .i64) 3 w' w.heap.size (fun k_ => some k_ ≠ (s_.2.1 : Value).ownBlock) s_.1 t263) ∧ (Kd.R (Kd.int .i64) 3 w' w.heap.size (fun k_ => some k_ ≠ (s_.1 : Value).ownBlock) s_.2.1 t266) ∧ (w'.heap[gb260]? = some (.cells #[.slice A0_0 l0_0.length c0_0, .slice A0_1 l0_1.length c0_1] 35 (0, 0))) ∧ (w'.heap[gb261]? = some (.cells #[.int .i64 a1_0, .int .i64 a1_1] 55 (0, 0))) ∧ (w'.heap[gb262]? = some (.cells #[.slice none 0 0, .slice none 0 0] 35 (0, 0))) ∧ (w'.heap[s_.2.2]? = some (.cells #[.slice none 0 0, .slice none 0 0] 35 (0, 0))) ∧ (w.heap.size ≤ s_.2.2) ∧ (w.heap.size ≤ s_.2.2) ∧ (gb260 ≠ s_.2.2) ∧ (s_.2.2 ≠ gb260) ∧ (gb261 ≠ s_.2.2) ∧ (s_.2.2 ≠ gb261) ∧ (gb262 ≠ s_.2.2) ∧ (s_.2.2 ≠ gb262) ∧ (Below w.heap.size w w')) ?_ ?_
   rotate_left
   ·intro hCont
    refine two_ (i := 1) (j := 5) (Ni := some 8) (Nj := some 5) (bl 8 15) (bl 8 45) rfl rfl rfl rfl (two_of HT_.out (by kernel_rfl)) (by decide) (by decide) (fun K hK => ?_) (fun K hK => ?_)
    ·skip
     refine gs Try.func71 #[.agg #[.slice A0_0 l0_0.length c0_0, .slice A0_1 l0_1.length c0_1]] ?_
     with_reducible refine (impl_Vessels_own.calls _ _ l0_0 _ _ l0_1 t263 t266 _ ?side1 ?side2 ?side3 ?side4 A3.out).mono ?_
     (case side1 => exact ck HR0_0 HB)
     (case side2 => exact HC0_0.out)
     (case side3 => exact ck HR0_1 HB)
     (case side4 => exact HC0_1.out)
     rintro e w101 ⟨v264, v267, rfl, ho0, ho1, hb⟩
     refine ⟨_, rfl, ?_⟩
     have HO265 := lo ho0 HB
     have HO268 := lo ho1 HB
     replace BK260 := bb BK260 hb
     replace BK261 := bb BK261 hb
     replace BK262 := bb BK262 hb
     replace HB := bs HB hb
     (try clear hb); (try clear hb2); (try clear hk); (try clear hi); (try clear ho0); (try clear ho1)
     refine hK.out _ _ ⟨bc0 BK260, bc1 BK260, bc0 BK261, bc1 BK261⟩ (fun hHeld => ?_)
     clear hK K
     refine norm_ (a' := ?_) ?_ ?_; rotate_left; (show Act.put _ (some 8) _ = _; simp only [sqa, sqb, sqc, sqd, i64_w, i32_w]; rfl)
     refine two_ (i := 4) (j := 5) (Ni := some 11) (Nj := some 5) (bl 8 31) (bl 8 47) rfl rfl rfl rfl (two_of HT_.out (by kernel_rfl)) (by decide) (by decide) (fun K hK => ?_) (fun K hK => ?_)
     ·skip
      refine gs Try.func82 #[.agg #[.slice A0_0 l0_0.length c0_0, .slice A0_1 l0_1.length c0_1], .agg #[.int .i64 a1_0, .int .i64 a1_1]] ?_
      with_reducible refine (impl_Vessels_amount.calls _ _ l0_0 _ _ l0_1 a1_0 a1_1 t269 _ ?side1 ?side2 ?side3 ?side4 A4.out).mono ?_
      (case side1 => exact ck HR0_0 HB)
      (case side2 => exact HC0_0.out)
      (case side3 => exact ck HR0_1 HB)
      (case side4 => exact HC0_1.out)
      rintro e w102 ⟨rfl, hb⟩
      refine ⟨_, rfl, ?_⟩
      replace HO265 := rb HO265 hb
      replace HO268 := rb HO268 hb
      replace BK260 := bb BK260 hb
      replace BK261 := bb BK261 hb
      replace BK262 := bb BK262 hb
      replace HB := bs HB hb
      (try clear hb); (try clear hb2); (try clear hk); (try clear hi)
      refine hK.out _ _ ⟨bc0 BK260, bc1 BK260, bc0 BK261, bc1 BK261⟩ (fun hHeld => ?_)
      clear hK K
      refine norm_ (a' := ?_) ?_ ?_; rotate_left; (show Act.put _ (some 11) _ = _; simp only [sqa, sqb, sqc, sqd, i64_w, i32_w]; rfl)
      refine on 5 5 (bl 8 63) HT_.out (fun K hK => ?_)
      refine box_step ?hg (N := 5) ?hd (cs := #[.slice none 0 0, .slice none 0 0]) (t := 35) ?hr ?_; (case hd => rfl); (case hg => rfl); (case hr => first | (go_simp; done) | (go_simp; rfl))
      intro gb270 hg w103 hbox hb
      replace HO265 := rb HO265 hb
      replace HO268 := rb HO268 hb
      have BK270 := Aside0.mk (hbox)
      have GW270 := ge HB hg
      have GE270 := ge HB hg
      replace HB := bs HB hb
      have NB260_270 := nl BK260 hg
      have NB270_260 := nr BK260 hg
      replace BK260 := bb BK260 hb
      have NB261_270 := nl BK261 hg
      have NB270_261 := nr BK261 hg
      replace BK261 := bb BK261 hb
      have NB262_270 := nl BK262 hg
      have NB270_262 := nr BK262 hg
      replace BK262 := bb BK262 hb
      clear hb hbox hg
      refine hK.out _ _ ⟨bc0 BK260, bc1 BK260, bc0 BK261, bc1 BK261⟩ (fun hHeld => ?_)
      clear hK K
      refine norm_ (a' := ?_) ?_ ?_; rotate_left; (show Act.put _ (some 5) _ = _; simp only [sqa, sqb, sqc, sqd, i64_w, i32_w]; rfl)
      exact norm_ (by simp only [putAll, Act.put, List.setIfInBounds_toArray, List.set_cons_zero, List.set_cons_succ]) (hCont (v264, v267, gb270) _ ⟨hHeld, (rk HO265), (rk HO268), (bk BK260), (bk BK261), (bk BK262), (bk BK270), GW270.out, GE270.out, NB260_270.out, NB270_260.out, NB261_270.out, NB270_261.out, NB262_270.out, NB270_262.out, (bw HB)⟩)
     ·skip
      refine box_step ?hg (N := 5) ?hd (cs := #[.slice none 0 0, .slice none 0 0]) (t := 35) ?hr ?_; (case hd => rfl); (case hg => rfl); (case hr => first | (go_simp; done) | (go_simp; rfl))
      intro gb270 hg w102 hbox hb
      replace HO265 := rb HO265 hb
      replace HO268 := rb HO268 hb
      have BK270 := Aside0.mk (hbox)
      have GW270 := ge HB hg
      have GE270 := ge HB hg
      replace HB := bs HB hb
      have NB260_270 := nl BK260 hg
      have NB270_260 := nr BK260 hg
      replace BK260 := bb BK260 hb
      have NB261_270 := nl BK261 hg
      have NB270_261 := nr BK261 hg
      replace BK261 := bb BK261 hb
      have NB262_270 := nl BK262 hg
      have NB270_262 := nr BK262 hg
      replace BK262 := bb BK262 hb
      clear hb hbox hg
      refine hK.out _ _ ⟨bc0 BK260, bc1 BK260, bc0 BK261, bc1 BK261⟩ (fun hHeld => ?_)
      clear hK K
      refine norm_ (a' := ?_) ?_ ?_; rotate_left; (show Act.put _ (some 5) _ = _; simp only [sqa, sqb, sqc, sqd, i64_w, i32_w]; rfl)
      refine on 4 11 (bl 8 63) HT_.out (fun K hK => ?_)
      refine gs Try.func82 #[.agg #[.slice A0_0 l0_0.length c0_0, .slice A0_1 l0_1.length c0_1], .agg #[.int .i64 a1_0, .int .i64 a1_1]] ?_
      with_reducible refine (impl_Vessels_amount.calls _ _ l0_0 _ _ l0_1 a1_0 a1_1 t269 _ ?side1 ?side2 ?side3 ?side4 A4.out).mono ?_
      (case side1 => exact ck HR0_0 HB)
      (case side2 => exact HC0_0.out)
      (case side3 => exact ck HR0_1 HB)
      (case side4 => exact HC0_1.out)
      rintro e w103 ⟨rfl, hb⟩
      refine ⟨_, rfl, ?_⟩
      replace HO265 := rb HO265 hb
      replace HO268 := rb HO268 hb
      replace BK260 := bb BK260 hb
      replace BK261 := bb BK261 hb
      replace BK262 := bb BK262 hb
      replace BK270 := bb BK270 hb
      replace HB := bs HB hb
      (try clear hb); (try clear hb2); (try clear hk); (try clear hi)
      refine hK.out _ _ ⟨bc0 BK260, bc1 BK260, bc0 BK261, bc1 BK261⟩ (fun hHeld => ?_)
      clear hK K
      refine norm_ (a' := ?_) ?_ ?_; rotate_left; (show Act.put _ (some 11) _ = _; simp only [sqa, sqb, sqc, sqd, i64_w, i32_w]; rfl)
      exact norm_ (by simp only [putAll, Act.put, List.setIfInBounds_toArray, List.set_cons_zero, List.set_cons_succ]) (hCont (v264, v267, gb270) _ ⟨hHeld, (rk HO265), (rk HO268), (bk BK260), (bk BK261), (bk BK262), (bk BK270), GW270.out, GE270.out, NB260_270.out, NB270_260.out, NB261_270.out, NB270_261.out, NB262_270.out, NB270_262.out, (bw HB)⟩)
    ·skip
     refine box_step ?hg (N := 5) ?hd (cs := #[.slice none 0 0, .slice none 0 0]) (t := 35) ?hr ?_; (case hd => rfl); (case hg => rfl); (case hr => first | (go_simp; done) | (go_simp; rfl))
     intro gb270 hg w101 hbox hb
     have BK270 := Aside0.mk (hbox)
     have GW270 := ge HB hg
     have GE270 := ge HB hg
     replace HB := bs HB hb
     have NB260_270 := nl BK260 hg
     have NB270_260 := nr BK260 hg
     replace BK260 := bb BK260 hb
     have NB261_270 := nl BK261 hg
     have NB270_261 := nr BK261 hg
     replace BK261 := bb BK261 hb
     have NB262_270 := nl BK262 hg
     have NB270_262 := nr BK262 hg
     replace BK262 := bb BK262 hb
     clear hb hbox hg
     refine hK.out _ _ ⟨bc0 BK260, bc1 BK260, bc0 BK261, bc1 BK261⟩ (fun hHeld => ?_)
     clear hK K
     refine norm_ (a' := ?_) ?_ ?_; rotate_left; (show Act.put _ (some 5) _ = _; simp only [sqa, sqb, sqc, sqd, i64_w, i32_w]; rfl)
     refine on 1 8 (bl 8 47) HT_.out (fun K hK => ?_)
     refine gs Try.func71 #[.agg #[.slice A0_0 l0_0.length c0_0, .slice A0_1 l0_1.length c0_1]] ?_
     with_reducible refine (impl_Vessels_own.calls _ _ l0_0 _ _ l0_1 t263 t266 _ ?side1 ?side2 ?side3 ?side4 A3.out).mono ?_
     (case side1 => exact ck HR0_0 HB)
     (case side2 => exact HC0_0.out)
     (case side3 => exact ck HR0_1 HB)
     (case side4 => exact HC0_1.out)
     rintro e w102 ⟨v264, v267, rfl, ho0, ho1, hb⟩
     refine ⟨_, rfl, ?_⟩
     have HO265 := lo ho0 HB
     have HO268 := lo ho1 HB
     replace BK260 := bb BK260 hb
     replace BK261 := bb BK261 hb
     replace BK262 := bb BK262 hb
     replace BK270 := bb BK270 hb
     replace HB := bs HB hb
     (try clear hb); (try clear hb2); (try clear hk); (try clear hi); (try clear ho0); (try clear ho1)
     refine hK.out _ _ ⟨bc0 BK260, bc1 BK260, bc0 BK261, bc1 BK261⟩ (fun hHeld => ?_)
     clear hK K
     refine norm_ (a' := ?_) ?_ ?_; rotate_left; (show Act.put _ (some 8) _ = _; simp only [sqa, sqb, sqc, sqd, i64_w, i32_w]; rfl)
     refine on 4 11 (bl 8 63) HT_.out (fun K hK => ?_)
     refine gs Try.func82 #[.agg #[.slice A0_0 l0_0.length c0_0, .slice A0_1 l0_1.length c0_1], .agg #[.int .i64 a1_0, .int .i64 a1_1]] ?_
     with_reducible refine (impl_Vessels_amount.calls _ _ l0_0 _ _ l0_1 a1_0 a1_1 t269 _ ?side1 ?side2 ?side3 ?side4 A4.out).mono ?_
     (case side1 => exact ck HR0_0 HB)
     (case side2 => exact HC0_0.out)
     (case side3 => exact ck HR0_1 HB)
     (case side4 => exact HC0_1.out)
     rintro e w103 ⟨rfl, hb⟩
     refine ⟨_, rfl, ?_⟩
     replace HO265 := rb HO265 hb
     replace HO268 := rb HO268 hb
     replace BK260 := bb BK260 hb
     replace BK261 := bb BK261 hb
     replace BK262 := bb BK262 hb
     replace BK270 := bb BK270 hb
     replace HB := bs HB hb
     (try clear hb); (try clear hb2); (try clear hk); (try clear hi)
     refine hK.out _ _ ⟨bc0 BK260, bc1 BK260, bc0 BK261, bc1 BK261⟩ (fun hHeld => ?_)
     clear hK K
     refine norm_ (a' := ?_) ?_ ?_; rotate_left; (show Act.put _ (some 11) _ = _; simp only [sqa, sqb, sqc, sqd, i64_w, i32_w]; rfl)
     exact norm_ (by simp only [putAll, Act.put, List.setIfInBounds_toArray, List.set_cons_zero, List.set_cons_succ]) (hCont (v264, v267, gb270) _ ⟨hHeld, (rk HO265), (rk HO268), (bk BK260), (bk BK261), (bk BK262), (bk BK270), GW270.out, GE270.out, NB260_270.out, NB270_260.out, NB261_270.out, NB270_261.out, NB262_270.out, NB270_262.out, (bw HB)⟩)
   rintro ⟨v264, v267, gb270⟩ w104 ⟨hS_, h0_, h1_, h2_, h3_, h4_, h5_, h6_, h7_, h8_, h9_, h10_, h11_, h12_, h13_, h14_⟩
   have HO265 := Aside0.mk h0_
   have HO268 := Aside0.mk h1_
   replace BK260 := Aside0.mk h2_
   replace BK261 := Aside0.mk h3_
   replace BK262 := Aside0.mk h4_
   have BK270 := Aside0.mk h5_
   have GW270 := GeC.mk h6_
   have GE270 := GeC.mk h7_
   have NB260_270 := NeC.mk h8_
   have NB270_260 := NeC.mk h9_
   have NB261_270 := NeC.mk h10_
   have NB270_261 := NeC.mk h11_
   have NB262_270 := NeC.mk h12_
   have NB270_262 := NeC.mk h13_
   replace HB := Aside0.mk h14_
   clear h0_ h1_ h2_ h3_ h4_ h5_ h6_ h7_ h8_ h9_ h10_ h11_ h12_ h13_ h14_
   have hHeld : w104.cell? ⟨gb260, 0, none⟩ = some (.slice A0_0 l0_0.length c0_0) ∧ w104.cell? ⟨gb260, 1, none⟩ = some (.slice A0_1 l0_1.length c0_1) ∧ w104.cell? ⟨gb261, 0, none⟩ = some (.int .i64 a1_0) ∧ w104.cell? ⟨gb261, 1, none⟩ = some (.int .i64 a1_1) := hS_
   obtain ⟨Ao105, co105, eo105⟩ := Kd.R_slice HO265.out
   (first | subst eo105 | (injection eo105 with f1_ f2_ f3_; have f4_ := f1_.symm; have f5_ := f3_.symm; clear f1_ f2_ f3_; subst f4_; subst f5_))
   obtain ⟨Ao107, co107, eo107⟩ := Kd.R_slice HO268.out
   (first | subst eo107 | (injection eo107 with f1_ f2_ f3_; have f4_ := f1_.symm; have f5_ := f3_.symm; clear f1_ f2_ f3_; subst f4_; subst f5_))
   refine norm_ (a' := ?_) ?_ ?_
   rotate_left
   ·simp only [putAll, Act.put, List.setIfInBounds_toArray, List.set_cons_zero, List.set_cons_succ]
    rfl
   refine one_ (i := 6) (N := none) (bl 8 127) rfl rfl (one_of HT_.out (by kernel_rfl)) (by decide) (fun K hK => ?_)
   have hs106 : w104.cell? ⟨gb270, 0, none⟩ = some (.slice none 0 0) := bc0 BK270
   have hfs106 := blk_frozen BK270.out 0
   have hns106_0 := NB260_270.out
   have hns106_1 := NB261_270.out
   have hns106_2 := NB262_270.out
   have hms106_0 := NB270_260.out
   have hms106_1 := NB270_261.out
   have hms106_2 := NB270_262.out
   have hs108 : w104.cell? ⟨gb270, 1, none⟩ = some (.slice none 0 0) := bc1 BK270
   have hfs108 := blk_frozen BK270.out 1
   have hns108_0 := NB260_270.out
   have hns108_1 := NB261_270.out
   have hns108_2 := NB262_270.out
   have hms108_0 := NB270_260.out
   have hms108_1 := NB270_261.out
   have hms108_2 := NB270_262.out
   refine skip_ (w1 := ?_) (by rfl) rfl ?_ ?_
   rotate_left
   ·go_simp
    rfl
   refine hK.out _ _ ⟨((cell_far (p := ⟨gb270, _, none⟩) NB260_270.out _).trans (((cell_far (p := ⟨gb270, _, none⟩) NB260_270.out _).trans (hHeld.1)))), ((cell_far (p := ⟨gb270, _, none⟩) NB260_270.out _).trans (((cell_far (p := ⟨gb270, _, none⟩) NB260_270.out _).trans (hHeld.2.1)))), ((cell_far (p := ⟨gb270, _, none⟩) NB261_270.out _).trans (((cell_far (p := ⟨gb270, _, none⟩) NB261_270.out _).trans (hHeld.2.2.1)))), ((cell_far (p := ⟨gb270, _, none⟩) NB261_270.out _).trans (((cell_far (p := ⟨gb270, _, none⟩) NB261_270.out _).trans (hHeld.2.2.2))))⟩ (fun hHeld => ?_)
   clear hK K
   refine pu 7 6 (bl 8 255) HT_.out (v := ?_) (a' := ?_) ?_ ?_ ?_
   rotate_left; (intro w'; go_simp; with_reducible rfl); rotate_left; (simp only [sqa, sqb, sqc, sqd, i64_w, i32_w]; rfl)
   refine done_ (done_of HT_.out (by kernel_rfl)) ?_
   have hnb109 := NB261_260.out
   have hnc109 := NB260_261.out
   have hnb110 := NB261_262.out
   have hnc110 := NB262_261.out
   have hnb111 := NB261_270.out
   have hnc111 := NB270_261.out
   have hcz112_0 := bc0 BK261
   have hcz112_1 := bc1 BK261
   have hfz112_0 := blk_frozen BK261.out 0
   have hfz112_1 := blk_frozen BK261.out 1
   have hnb113 := NB270_260.out
   have hnc113 := NB260_270.out
   have hnb114 := NB270_262.out
   have hnc114 := NB262_270.out
   have hcz115_0 := bc0 BK270
   have hcz115_1 := bc1 BK270
   have hfz115_0 := blk_frozen BK270.out 0
   have hfz115_1 := blk_frozen BK270.out 1
   have hnb116 := NB262_260.out
   have hnc116 := NB260_262.out
   have hcz117_0 := bc0 BK262
   have hcz117_1 := bc1 BK262
   have hfz117_0 := blk_frozen BK262.out 0
   have hfz117_1 := blk_frozen BK262.out 1
   try go_wp2
   refine bodyPost_ret (results_cell_row rfl _ _ gb262 35 #[.slice Ao105 t263.length co105, .slice Ao107 t266.length co107] (0, 0) _ rfl (by refine blk_put (cs := #[.slice Ao105 t263.length co105, .slice none 0 0]) ?_ 1 _ rfl; refine blk_put (cs := #[.slice none 0 0, .slice none 0 0]) ?_ 0 _ rfl; exact bk BK262) Try.underlying35 rfl (by kernel_rfl)) rfl ?_
   exact ⟨_, _, by first | rfl | (simp [errW_none, errW_some] <;> rfl) | (simp [*, errW_none, errW_some] <;> rfl), by exact Kd.R_mono (Kd.R_far (p := ⟨gb262, 1, none⟩) (Kd.R_far (p := ⟨gb262, 0, none⟩) (Kd.R_far (p := ⟨gb270, 1, none⟩) (Kd.R_far (p := ⟨gb270, 0, none⟩) (Kd.R_types (Kd.R_types HO265.out BK270.out (by decide)) BK262.out (by decide)) (fun _ hk => hk.1.2) (.slice Ao105 t263.length co105)) (fun _ hk => hk.1.2) (.slice Ao107 t266.length co107)) (fun _ hk => hk.2) (.slice Ao105 t263.length co105)) (fun _ hk => hk.2) (.slice Ao107 t266.length co107)) (fun _ hk => hk.1.1), by exact Kd.R_mono (Kd.R_far (p := ⟨gb262, 1, none⟩) (Kd.R_far (p := ⟨gb262, 0, none⟩) (Kd.R_far (p := ⟨gb270, 1, none⟩) (Kd.R_far (p := ⟨gb270, 0, none⟩) (Kd.R_types (Kd.R_types HO268.out BK270.out (by decide)) BK262.out (by decide)) (fun _ hk => hk.1.2) (.slice Ao105 t263.length co105)) (fun _ hk => hk.1.2) (.slice Ao107 t266.length co107)) (fun _ hk => hk.2) (.slice Ao105 t263.length co105)) (fun _ hk => hk.2) (.slice Ao107 t266.length co107)) (fun _ hk => hk.1.1), bw HB⟩
  rw [if_pos c68] at H
  have c68b0 : decide (0 ≤ a1_1) = true := decide_eq_true c68
  clear c68
  by_cases c69 : 0 ≤ a1_1
  rotate_left
  ·rw [if_neg c69] at H
   exact absurd H (by simp)
  rw [if_pos c69] at H
  have c69b0 : decide (0 ≤ a1_1) = true := decide_eq_true c69
  clear c69
  by_cases c70 : a1_1 < (t266.length : Int)
  rotate_left
  ·rw [if_neg c70] at H
   exact absurd H (by simp)
  rw [if_pos c70] at H
  have c70b0 : decide (a1_1 < (t266.length : Int)) = true := decide_eq_true c70
  clear c70
  obtain ⟨y276, hy276⟩ : ∃ y_ : List Int, y_ = (t266.set (a1_1 : Int).toNat (wrap64 ((rd t266 a1_1) + t269))) := ⟨_, rfl⟩
  replace H : (some (t263, y276)) = some (r1, r2) := by first | (rw [hy276]; with_reducible exact H) | (have H2_ := (Option.bind_some _ _).symm.trans H; rw [hy276]; with_reducible exact H2_) | (have H2_ := (Option.bind_some _ _).symm.trans H; with_reducible exact H2_) | with_reducible exact H | (rw [hy276]; exact H) | exact H
  have Ny276 := Aside0.mk hy276
  clear hy276
  simp only [Option.some.injEq, Prod.mk.injEq] at H
  obtain ⟨rfl, rfl⟩ := H
  go_enter Try.func62, Try.ntmps62
  try go_wp2_with (first | ((with_reducible refine gate_dst (N := 2) rfl ?_); refine bx 2 #[.slice A0_0 l0_0.length c0_0, .slice A0_1 l0_1.length c0_1] 35 ?_; intro gb260 hg w72 hbox hb; have BK260 := Aside0.mk (hbox); have GW260 := ge HB hg; have GE260 := ge HB hg; replace HB := bs HB hb; clear hb hbox hg) | ((with_reducible refine gate_dst (N := 3) rfl ?_); refine bx 3 #[.int .i64 a1_0, .int .i64 a1_1] 55 ?_; intro gb261 hg w73 hbox hb; have BK261 := Aside0.mk (hbox); have GW261 := ge HB hg; have GE261 := ge HB hg; replace HB := bs HB hb; have NB260_261 := nl BK260 hg; have NB261_260 := nr BK260 hg; replace BK260 := bb BK260 hb; clear hb hbox hg) | ((with_reducible refine gate_dst (N := 4) rfl ?_); refine bx 4 #[.slice none 0 0, .slice none 0 0] 35 ?_; intro gb262 hg w74 hbox hb; have BK262 := Aside0.mk (hbox); have GW262 := ge HB hg; have GE262 := ge HB hg; replace HB := bs HB hb; have NB260_262 := nl BK260 hg; have NB262_260 := nr BK260 hg; replace BK260 := bb BK260 hb; have NB261_262 := nl BK261 hg; have NB262_261 := nr BK261 hg; replace BK261 := bb BK261 hb; clear hb hbox hg))
  replace BK260 := Aside0.mk (blk_drew BK260.out)
  replace BK261 := Aside0.mk (blk_drew BK261.out)
  replace BK262 := Aside0.mk (blk_drew BK262.out)
  replace HB := Aside0.mk (below_drew1 HB.out)
  refine start_ (n := 8) (S := fun w' => w'.cell? ⟨gb260, 0, none⟩ = some (.slice A0_0 l0_0.length c0_0) ∧ w'.cell? ⟨gb260, 1, none⟩ = some (.slice A0_1 l0_1.length c0_1) ∧ w'.cell? ⟨gb261, 0, none⟩ = some (.int .i64 a1_0) ∧ w'.cell? ⟨gb261, 1, none⟩ = some (.int .i64 a1_1)) (ds := []) (bl 8 0) (by kernel_rfl) rfl rfl ⟨bc0 BK260, bc1 BK260, bc0 BK261, bc1 BK261⟩ (fun hHeld => ?_); refine with_tabW impl_Vessels_behind.tab1 impl_Vessels_behind.bits1 (fun HT_ HW_ => ?_)
  generalize w74.drew = w75 at BK260 BK261 BK262 HB hHeld ⊢
  refine tk 0 7 (bl 8 1) HT_.out HW_.out hHeld (v := ?_) (a' := ?_) ?_ ?_ ?_
  rotate_left; (rintro w' ⟨s0, s1, s2, s3⟩; go_simp; with_reducible rfl); rotate_left; (simp only [sqa, sqb, sqc, sqd, i64_w, i32_w]; rfl)
  refine tk 2 9 (bl 8 5) HT_.out HW_.out hHeld (v := ?_) (a' := ?_) ?_ ?_ ?_
  rotate_left; (rintro w' ⟨s0, s1, s2, s3⟩; go_simp; with_reducible rfl); rotate_left; (simp only [sqa, sqb, sqc, sqd, i64_w, i32_w]; rfl)
  refine tk 3 10 (bl 8 13) HT_.out HW_.out hHeld (v := ?_) (a' := ?_) ?_ ?_ ?_
  rotate_left; (rintro w' ⟨s0, s1, s2, s3⟩; go_simp; with_reducible rfl); rotate_left; (simp only [sqa, sqb, sqc, sqd, i64_w, i32_w]; rfl)
  refine join_ (σ := Value × Value × Nat) 2 (bl 8 63) (fun s_ => [(8, .agg #[s_.1, s_.2.1]), (11, .int .i64 t269), (5, .pointer (some ⟨s_.2.2, 0, none⟩))]) (fun s_ w' => (w'.cell? ⟨gb260, 0, none⟩ = some (.slice A0_0 l0_0.length c0_0) ∧ w'.cell? ⟨gb260, 1, none⟩ = some (.slice A0_1 l0_1.length c0_1) ∧ w'.cell? ⟨gb261, 0, none⟩ = some (.int .i64 a1_0) ∧ w'.cell? ⟨gb261, 1, none⟩ = some (.int .i64 a1_1)) ∧ (Kd.R (Kd.int .i64) 3 w' w.heap.size (fun k_ => some k_ ≠ (s_.2.1 : Value).ownBlock) s_.1 t263) ∧ (Kd.R (Kd.int .i64) 3 w' w.heap.size (fun k_ => some k_ ≠ (s_.1 : Value).ownBlock) s_.2.1 t266) ∧ (w'.heap[gb260]? = some (.cells #[.slice A0_0 l0_0.length c0_0, .slice A0_1 l0_1.length c0_1] 35 (0, 0))) ∧ (w'.heap[gb261]? = some (.cells #[.int .i64 a1_0, .int .i64 a1_1] 55 (0, 0))) ∧ (w'.heap[gb262]? = some (.cells #[.slice none 0 0, .slice none 0 0] 35 (0, 0))) ∧ (w'.heap[s_.2.2]? = some (.cells #[.slice none 0 0, .slice none 0 0] 35 (0, 0))) ∧ (w.heap.size ≤ s_.2.2) ∧ (w.heap.size ≤ s_.2.2) ∧ (gb260 ≠ s_.2.2) ∧ (s_.2.2 ≠ gb260) ∧ (gb261 ≠ s_.2.2) ∧ (s_.2.2 ≠ gb261) ∧ (gb262 ≠ s_.2.2) ∧ (s_.2.2 ≠ gb262) ∧ (Below w.heap.size w w')) ?_ ?_
  rotate_left
  ·intro hCont
   refine two_ (i := 1) (j := 5) (Ni := some 8) (Nj := some 5) (bl 8 15) (bl 8 45) rfl rfl rfl rfl (two_of HT_.out (by kernel_rfl)) (by decide) (by decide) (fun K hK => ?_) (fun K hK => ?_)
   ·skip
    refine gs Try.func71 #[.agg #[.slice A0_0 l0_0.length c0_0, .slice A0_1 l0_1.length c0_1]] ?_
    with_reducible refine (impl_Vessels_own.calls _ _ l0_0 _ _ l0_1 t263 t266 _ ?side1 ?side2 ?side3 ?side4 A3.out).mono ?_
    (case side1 => exact ck HR0_0 HB)
    (case side2 => exact HC0_0.out)
    (case side3 => exact ck HR0_1 HB)
    (case side4 => exact HC0_1.out)
    rintro e w76 ⟨v264, v267, rfl, ho0, ho1, hb⟩
    refine ⟨_, rfl, ?_⟩
    have HO265 := lo ho0 HB
    have HO268 := lo ho1 HB
    replace BK260 := bb BK260 hb
    replace BK261 := bb BK261 hb
    replace BK262 := bb BK262 hb
    replace HB := bs HB hb
    (try clear hb); (try clear hb2); (try clear hk); (try clear hi); (try clear ho0); (try clear ho1)
    refine hK.out _ _ ⟨bc0 BK260, bc1 BK260, bc0 BK261, bc1 BK261⟩ (fun hHeld => ?_)
    clear hK K
    refine norm_ (a' := ?_) ?_ ?_; rotate_left; (show Act.put _ (some 8) _ = _; simp only [sqa, sqb, sqc, sqd, i64_w, i32_w]; rfl)
    refine two_ (i := 4) (j := 5) (Ni := some 11) (Nj := some 5) (bl 8 31) (bl 8 47) rfl rfl rfl rfl (two_of HT_.out (by kernel_rfl)) (by decide) (by decide) (fun K hK => ?_) (fun K hK => ?_)
    ·skip
     refine gs Try.func82 #[.agg #[.slice A0_0 l0_0.length c0_0, .slice A0_1 l0_1.length c0_1], .agg #[.int .i64 a1_0, .int .i64 a1_1]] ?_
     with_reducible refine (impl_Vessels_amount.calls _ _ l0_0 _ _ l0_1 a1_0 a1_1 t269 _ ?side1 ?side2 ?side3 ?side4 A4.out).mono ?_
     (case side1 => exact ck HR0_0 HB)
     (case side2 => exact HC0_0.out)
     (case side3 => exact ck HR0_1 HB)
     (case side4 => exact HC0_1.out)
     rintro e w77 ⟨rfl, hb⟩
     refine ⟨_, rfl, ?_⟩
     replace HO265 := rb HO265 hb
     replace HO268 := rb HO268 hb
     replace BK260 := bb BK260 hb
     replace BK261 := bb BK261 hb
     replace BK262 := bb BK262 hb
     replace HB := bs HB hb
     (try clear hb); (try clear hb2); (try clear hk); (try clear hi)
     refine hK.out _ _ ⟨bc0 BK260, bc1 BK260, bc0 BK261, bc1 BK261⟩ (fun hHeld => ?_)
     clear hK K
     refine norm_ (a' := ?_) ?_ ?_; rotate_left; (show Act.put _ (some 11) _ = _; simp only [sqa, sqb, sqc, sqd, i64_w, i32_w]; rfl)
     refine on 5 5 (bl 8 63) HT_.out (fun K hK => ?_)
     refine box_step ?hg (N := 5) ?hd (cs := #[.slice none 0 0, .slice none 0 0]) (t := 35) ?hr ?_; (case hd => rfl); (case hg => rfl); (case hr => first | (go_simp; done) | (go_simp; rfl))
     intro gb270 hg w78 hbox hb
     replace HO265 := rb HO265 hb
     replace HO268 := rb HO268 hb
     have BK270 := Aside0.mk (hbox)
     have GW270 := ge HB hg
     have GE270 := ge HB hg
     replace HB := bs HB hb
     have NB260_270 := nl BK260 hg
     have NB270_260 := nr BK260 hg
     replace BK260 := bb BK260 hb
     have NB261_270 := nl BK261 hg
     have NB270_261 := nr BK261 hg
     replace BK261 := bb BK261 hb
     have NB262_270 := nl BK262 hg
     have NB270_262 := nr BK262 hg
     replace BK262 := bb BK262 hb
     clear hb hbox hg
     refine hK.out _ _ ⟨bc0 BK260, bc1 BK260, bc0 BK261, bc1 BK261⟩ (fun hHeld => ?_)
     clear hK K
     refine norm_ (a' := ?_) ?_ ?_; rotate_left; (show Act.put _ (some 5) _ = _; simp only [sqa, sqb, sqc, sqd, i64_w, i32_w]; rfl)
     exact norm_ (by simp only [putAll, Act.put, List.setIfInBounds_toArray, List.set_cons_zero, List.set_cons_succ]) (hCont (v264, v267, gb270) _ ⟨hHeld, (rk HO265), (rk HO268), (bk BK260), (bk BK261), (bk BK262), (bk BK270), GW270.out, GE270.out, NB260_270.out, NB270_260.out, NB261_270.out, NB270_261.out, NB262_270.out, NB270_262.out, (bw HB)⟩)
    ·skip
     refine box_step ?hg (N := 5) ?hd (cs := #[.slice none 0 0, .slice none 0 0]) (t := 35) ?hr ?_; (case hd => rfl); (case hg => rfl); (case hr => first | (go_simp; done) | (go_simp; rfl))
     intro gb270 hg w77 hbox hb
     replace HO265 := rb HO265 hb
     replace HO268 := rb HO268 hb
     have BK270 := Aside0.mk (hbox)
     have GW270 := ge HB hg
     have GE270 := ge HB hg
     replace HB := bs HB hb
     have NB260_270 := nl BK260 hg
     have NB270_260 := nr BK260 hg
     replace BK260 := bb BK260 hb
     have NB261_270 := nl BK261 hg
     have NB270_261 := nr BK261 hg
     replace BK261 := bb BK261 hb
     have NB262_270 := nl BK262 hg
     have NB270_262 := nr BK262 hg
     replace BK262 := bb BK262 hb
     clear hb hbox hg
     refine hK.out _ _ ⟨bc0 BK260, bc1 BK260, bc0 BK261, bc1 BK261⟩ (fun hHeld => ?_)
     clear hK K
     refine norm_ (a' := ?_) ?_ ?_; rotate_left; (show Act.put _ (some 5) _ = _; simp only [sqa, sqb, sqc, sqd, i64_w, i32_w]; rfl)
     refine on 4 11 (bl 8 63) HT_.out (fun K hK => ?_)
     refine gs Try.func82 #[.agg #[.slice A0_0 l0_0.length c0_0, .slice A0_1 l0_1.length c0_1], .agg #[.int .i64 a1_0, .int .i64 a1_1]] ?_
     with_reducible refine (impl_Vessels_amount.calls _ _ l0_0 _ _ l0_1 a1_0 a1_1 t269 _ ?side1 ?side2 ?side3 ?side4 A4.out).mono ?_
     (case side1 => exact ck HR0_0 HB)
     (case side2 => exact HC0_0.out)
     (case side3 => exact ck HR0_1 HB)
     (case side4 => exact HC0_1.out)
     rintro e w78 ⟨rfl, hb⟩
     refine ⟨_, rfl, ?_⟩
     replace HO265 := rb HO265 hb
     replace HO268 := rb HO268 hb
     replace BK260 := bb BK260 hb
     replace BK261 := bb BK261 hb
     replace BK262 := bb BK262 hb
     replace BK270 := bb BK270 hb
     replace HB := bs HB hb
     (try clear hb); (try clear hb2); (try clear hk); (try clear hi)
     refine hK.out _ _ ⟨bc0 BK260, bc1 BK260, bc0 BK261, bc1 BK261⟩ (fun hHeld => ?_)
     clear hK K
     refine norm_ (a' := ?_) ?_ ?_; rotate_left; (show Act.put _ (some 11) _ = _; simp only [sqa, sqb, sqc, sqd, i64_w, i32_w]; rfl)
     exact norm_ (by simp only [putAll, Act.put, List.setIfInBounds_toArray, List.set_cons_zero, List.set_cons_succ]) (hCont (v264, v267, gb270) _ ⟨hHeld, (rk HO265), (rk HO268), (bk BK260), (bk BK261), (bk BK262), (bk BK270), GW270.out, GE270.out, NB260_270.out, NB270_260.out, NB261_270.out, NB270_261.out, NB262_270.out, NB270_262.out, (bw HB)⟩)
   ·skip
    refine box_step ?hg (N := 5) ?hd (cs := #[.slice none 0 0, .slice none 0 0]) (t := 35) ?hr ?_; (case hd => rfl); (case hg => rfl); (case hr => first | (go_simp; done) | (go_simp; rfl))
    intro gb270 hg w76 hbox hb
    have BK270 := Aside0.mk (hbox)
    have GW270 := ge HB hg
    have GE270 := ge HB hg
    replace HB := bs HB hb
    have NB260_270 := nl BK260 hg
    have NB270_260 := nr BK260 hg
    replace BK260 := bb BK260 hb
    have NB261_270 := nl BK261 hg
    have NB270_261 := nr BK261 hg
    replace BK261 := bb BK261 hb
    have NB262_270 := nl BK262 hg
    have NB270_262 := nr BK262 hg
    replace BK262 := bb BK262 hb
    clear hb hbox hg
    refine hK.out _ _ ⟨bc0 BK260, bc1 BK260, bc0 BK261, bc1 BK261⟩ (fun hHeld => ?_)
    clear hK K
    refine norm_ (a' := ?_) ?_ ?_; rotate_left; (show Act.put _ (some 5) _ = _; simp only [sqa, sqb, sqc, sqd, i64_w, i32_w]; rfl)
    refine on 1 8 (bl 8 47) HT_.out (fun K hK => ?_)
    refine gs Try.func71 #[.agg #[.slice A0_0 l0_0.length c0_0, .slice A0_1 l0_1.length c0_1]] ?_
    with_reducible refine (impl_Vessels_own.calls _ _ l0_0 _ _ l0_1 t263 t266 _ ?side1 ?side2 ?side3 ?side4 A3.out).mono ?_
    (case side1 => exact ck HR0_0 HB)
    (case side2 => exact HC0_0.out)
    (case side3 => exact ck HR0_1 HB)
    (case side4 => exact HC0_1.out)
    rintro e w77 ⟨v264, v267, rfl, ho0, ho1, hb⟩
    refine ⟨_, rfl, ?_⟩
    have HO265 := lo ho0 HB
    have HO268 := lo ho1 HB
    replace BK260 := bb BK260 hb
    replace BK261 := bb BK261 hb
    replace BK262 := bb BK262 hb
    replace BK270 := bb BK270 hb
    replace HB := bs HB hb
    (try clear hb); (try clear hb2); (try clear hk); (try clear hi); (try clear ho0); (try clear ho1)
    refine hK.out _ _ ⟨bc0 BK260, bc1 BK260, bc0 BK261, bc1 BK261⟩ (fun hHeld => ?_)
    clear hK K
    refine norm_ (a' := ?_) ?_ ?_; rotate_left; (show Act.put _ (some 8) _ = _; simp only [sqa, sqb, sqc, sqd, i64_w, i32_w]; rfl)
    refine on 4 11 (bl 8 63) HT_.out (fun K hK => ?_)
    refine gs Try.func82 #[.agg #[.slice A0_0 l0_0.length c0_0, .slice A0_1 l0_1.length c0_1], .agg #[.int .i64 a1_0, .int .i64 a1_1]] ?_
    with_reducible refine (impl_Vessels_amount.calls _ _ l0_0 _ _ l0_1 a1_0 a1_1 t269 _ ?side1 ?side2 ?side3 ?side4 A4.out).mono ?_
    (case side1 => exact ck HR0_0 HB)
    (case side2 => exact HC0_0.out)
    (case side3 => exact ck HR0_1 HB)
    (case side4 => exact HC0_1.out)
    rintro e w78 ⟨rfl, hb⟩
    refine ⟨_, rfl, ?_⟩
    replace HO265 := rb HO265 hb
    replace HO268 := rb HO268 hb
    replace BK260 := bb BK260 hb
    replace BK261 := bb BK261 hb
    replace BK262 := bb BK262 hb
    replace BK270 := bb BK270 hb
    replace HB := bs HB hb
    (try clear hb); (try clear hb2); (try clear hk); (try clear hi)
    refine hK.out _ _ ⟨bc0 BK260, bc1 BK260, bc0 BK261, bc1 BK261⟩ (fun hHeld => ?_)
    clear hK K
    refine norm_ (a' := ?_) ?_ ?_; rotate_left; (show Act.put _ (some 11) _ = _; simp only [sqa, sqb, sqc, sqd, i64_w, i32_w]; rfl)
    exact norm_ (by simp only [putAll, Act.put, List.setIfInBounds_toArray, List.set_cons_zero, List.set_cons_succ]) (hCont (v264, v267, gb270) _ ⟨hHeld, (rk HO265), (rk HO268), (bk BK260), (bk BK261), (bk BK262), (bk BK270), GW270.out, GE270.out, NB260_270.out, NB270_260.out, NB261_270.out, NB270_261.out, NB262_270.out, NB270_262.out, (bw HB)⟩)
  rintro ⟨v264, v267, gb270⟩ w79 ⟨hS_, h0_, h1_, h2_, h3_, h4_, h5_, h6_, h7_, h8_, h9_, h10_, h11_, h12_, h13_, h14_⟩
  have HO265 := Aside0.mk h0_
  have HO268 := Aside0.mk h1_
  replace BK260 := Aside0.mk h2_
  replace BK261 := Aside0.mk h3_
  replace BK262 := Aside0.mk h4_
  have BK270 := Aside0.mk h5_
  have GW270 := GeC.mk h6_
  have GE270 := GeC.mk h7_
  have NB260_270 := NeC.mk h8_
  have NB270_260 := NeC.mk h9_
  have NB261_270 := NeC.mk h10_
  have NB270_261 := NeC.mk h11_
  have NB262_270 := NeC.mk h12_
  have NB270_262 := NeC.mk h13_
  replace HB := Aside0.mk h14_
  clear h0_ h1_ h2_ h3_ h4_ h5_ h6_ h7_ h8_ h9_ h10_ h11_ h12_ h13_ h14_
  have hHeld : w79.cell? ⟨gb260, 0, none⟩ = some (.slice A0_0 l0_0.length c0_0) ∧ w79.cell? ⟨gb260, 1, none⟩ = some (.slice A0_1 l0_1.length c0_1) ∧ w79.cell? ⟨gb261, 0, none⟩ = some (.int .i64 a1_0) ∧ w79.cell? ⟨gb261, 1, none⟩ = some (.int .i64 a1_1) := hS_
  obtain ⟨Ao80, co80, eo80⟩ := Kd.R_slice HO265.out
  (first | subst eo80 | (injection eo80 with f1_ f2_ f3_; have f4_ := f1_.symm; have f5_ := f3_.symm; clear f1_ f2_ f3_; subst f4_; subst f5_))
  obtain ⟨Ao82, co82, eo82⟩ := Kd.R_slice HO268.out
  (first | subst eo82 | (injection eo82 with f1_ f2_ f3_; have f4_ := f1_.symm; have f5_ := f3_.symm; clear f1_ f2_ f3_; subst f4_; subst f5_))
  refine norm_ (a' := ?_) ?_ ?_
  rotate_left
  ·simp only [putAll, Act.put, List.setIfInBounds_toArray, List.set_cons_zero, List.set_cons_succ]
   rfl
  refine one_ (i := 6) (N := none) (bl 8 127) rfl rfl (one_of HT_.out (by kernel_rfl)) (by decide) (fun K hK => ?_)
  have hs81 : w79.cell? ⟨gb270, 0, none⟩ = some (.slice none 0 0) := bc0 BK270
  have hfs81 := blk_frozen BK270.out 0
  have hns81_0 := NB260_270.out
  have hns81_1 := NB261_270.out
  have hns81_2 := NB262_270.out
  have hms81_0 := NB270_260.out
  have hms81_1 := NB270_261.out
  have hms81_2 := NB270_262.out
  have hs83 : w79.cell? ⟨gb270, 1, none⟩ = some (.slice none 0 0) := bc1 BK270
  have hfs83 := blk_frozen BK270.out 1
  have hns83_0 := NB260_270.out
  have hns83_1 := NB261_270.out
  have hns83_2 := NB262_270.out
  have hms83_0 := NB270_260.out
  have hms83_1 := NB270_261.out
  have hms83_2 := NB270_262.out
  refine skip_ (w1 := ?_) (by rfl) rfl ?_ ?_
  rotate_left
  ·go_simp
   rfl
  refine hK.out _ _ ⟨((cell_far (p := ⟨gb270, _, none⟩) NB260_270.out _).trans (((cell_far (p := ⟨gb270, _, none⟩) NB260_270.out _).trans (hHeld.1)))), ((cell_far (p := ⟨gb270, _, none⟩) NB260_270.out _).trans (((cell_far (p := ⟨gb270, _, none⟩) NB260_270.out _).trans (hHeld.2.1)))), ((cell_far (p := ⟨gb270, _, none⟩) NB261_270.out _).trans (((cell_far (p := ⟨gb270, _, none⟩) NB261_270.out _).trans (hHeld.2.2.1)))), ((cell_far (p := ⟨gb270, _, none⟩) NB261_270.out _).trans (((cell_far (p := ⟨gb270, _, none⟩) NB261_270.out _).trans (hHeld.2.2.2))))⟩ (fun hHeld => ?_)
  clear hK K
  refine pu 7 6 (bl 8 255) HT_.out (v := ?_) (a' := ?_) ?_ ?_ ?_
  rotate_left; (intro w'; go_simp; with_reducible rfl); rotate_left; (simp only [sqa, sqb, sqc, sqd, i64_w, i32_w]; rfl)
  refine done_ (done_of HT_.out (by kernel_rfl)) ?_
  have n0_ : Aside0 (Kd.R (Kd.int .i64) 3 ((w79.setCell ⟨gb270, 0, none⟩ (.slice Ao80 t263.length co80)).setCell ⟨gb270, 1, none⟩ (.slice Ao82 t266.length co82)) w.heap.size (fun k_ => some k_ ≠ (.slice Ao82 t266.length co82 : Value).ownBlock) (.slice Ao80 t263.length co80) t263) := ⟨by exact Kd.R_mono (Kd.R_far (p := ⟨gb270, 1, none⟩) (Kd.R_far (p := ⟨gb270, 0, none⟩) (Kd.R_types HO265.out BK270.out (by decide)) (fun _ hk => hk.2) (.slice Ao80 t263.length co80)) (fun _ hk => hk.2) (.slice Ao82 t266.length co82)) (fun _ hk => hk.1)⟩
  have n1_ : Aside0 (Kd.R (Kd.int .i64) 3 ((w79.setCell ⟨gb270, 0, none⟩ (.slice Ao80 t263.length co80)).setCell ⟨gb270, 1, none⟩ (.slice Ao82 t266.length co82)) w.heap.size (fun k_ => some k_ ≠ (.slice Ao80 t263.length co80 : Value).ownBlock) (.slice Ao82 t266.length co82) t266) := ⟨by exact Kd.R_mono (Kd.R_far (p := ⟨gb270, 1, none⟩) (Kd.R_far (p := ⟨gb270, 0, none⟩) (Kd.R_types HO268.out BK270.out (by decide)) (fun _ hk => hk.2) (.slice Ao80 t263.length co80)) (fun _ hk => hk.2) (.slice Ao82 t266.length co82)) (fun _ hk => hk.1)⟩
  have n2_ : Aside0 (((w79.setCell ⟨gb270, 0, none⟩ (.slice Ao80 t263.length co80)).setCell ⟨gb270, 1, none⟩ (.slice Ao82 t266.length co82)).heap[gb260]? = some (.cells #[.slice A0_0 l0_0.length c0_0, .slice A0_1 l0_1.length c0_1] 35 (0, 0))) := ⟨bk BK260⟩
  have n3_ : Aside0 (((w79.setCell ⟨gb270, 0, none⟩ (.slice Ao80 t263.length co80)).setCell ⟨gb270, 1, none⟩ (.slice Ao82 t266.length co82)).heap[gb261]? = some (.cells #[.int .i64 a1_0, .int .i64 a1_1] 55 (0, 0))) := ⟨bk BK261⟩
  have n4_ : Aside0 (((w79.setCell ⟨gb270, 0, none⟩ (.slice Ao80 t263.length co80)).setCell ⟨gb270, 1, none⟩ (.slice Ao82 t266.length co82)).heap[gb262]? = some (.cells #[.slice none 0 0, .slice none 0 0] 35 (0, 0))) := ⟨bk BK262⟩
  have n5_ : Aside0 (((w79.setCell ⟨gb270, 0, none⟩ (.slice Ao80 t263.length co80)).setCell ⟨gb270, 1, none⟩ (.slice Ao82 t266.length co82)).heap[gb270]? = some (.cells #[.slice Ao80 t263.length co80, .slice Ao82 t266.length co82] 35 (0, 0))) := ⟨by refine blk_put (cs := #[.slice Ao80 t263.length co80, .slice none 0 0]) ?_ 1 _ rfl; refine blk_put (cs := #[.slice none 0 0, .slice none 0 0]) ?_ 0 _ rfl; exact bk BK270⟩
  have n6_ : Aside0 (Below w.heap.size w ((w79.setCell ⟨gb270, 0, none⟩ (.slice Ao80 t263.length co80)).setCell ⟨gb270, 1, none⟩ (.slice Ao82 t266.length co82))) := ⟨bw HB⟩
  (try clear HO265); (try clear HO268); (try clear BK260); (try clear BK261); (try clear BK262); (try clear BK270); (try clear HB)
  generalize ((w79.setCell ⟨gb270, 0, none⟩ (.slice Ao80 t263.length co80)).setCell ⟨gb270, 1, none⟩ (.slice Ao82 t266.length co82)) = w84 at n0_ n1_ n2_ n3_ n4_ n5_ n6_ ⊢
  have HO265 := n0_
  have HO268 := n1_
  have BK260 := n2_
  have BK261 := n3_
  have BK262 := n4_
  have BK270 := n5_
  have HB := n6_
  clear n0_ n1_ n2_ n3_ n4_ n5_ n6_
  have hnb85 := NB261_260.out
  have hnc85 := NB260_261.out
  have hnb86 := NB261_262.out
  have hnc86 := NB262_261.out
  have hnb87 := NB261_270.out
  have hnc87 := NB270_261.out
  have hcz88_0 := bc0 BK261
  have hcz88_1 := bc1 BK261
  have hfz88_0 := blk_frozen BK261.out 0
  have hfz88_1 := blk_frozen BK261.out 1
  have hnb89 := NB270_260.out
  have hnc89 := NB260_270.out
  have hnb90 := NB270_262.out
  have hnc90 := NB262_270.out
  have hcz91_0 := bc0 BK270
  have hcz91_1 := bc1 BK270
  have hfz91_0 := blk_frozen BK270.out 0
  have hfz91_1 := blk_frozen BK270.out 1
  have p275 : 0 ≤ (a1_1 : Int) := of_decide_eq_true ‹_›
  have q275 : a1_1 < (t266.length : Int) := of_decide_eq_true ‹_›
  obtain ⟨ad275, e275, hx275_0⟩ := Kd.at_int (Kd.R_reads' HO268.out).2.2 a1_1 p275 q275
  cases e275
  replace p275 := eq_true p275
  replace q275 := eq_true q275
  have p71 : 0 ≤ (a1_1 : Int) := of_decide_eq_true ‹_›
  have q71 : (a1_1 : Int) < ((t266.length : Int) : Int) := of_decide_eq_true ‹_›
  obtain ⟨go71, co71, eo71, gb71, gl71, cl71, HG71⟩ := Kd.R_form HO268.out (by omega)
  (first | cases eo71 | (injection eo71 with ea_ en_ ec_; (first | subst ea_ | (injection ea_ with ea_; subst ea_)); subst ec_; clear en_))
  have GB71 := Aside0.mk gb71
  have GG71 := Aside0.mk HG71
  clear gb71 gl71 HG71
  (first | simp only [add_plain] at hx275_0 | skip)
  obtain ⟨hx71_0, hf71_0⟩ := Kd.R_celln 0 HO268.out (a1_1 : Int) p71 q71
  replace p71 := eq_true p71
  replace q71 := eq_true q71
  obtain ⟨hy92_, hz92_⟩ := Kd.R_celln 0 HO268.out (a1_1 : Int) (of_decide_eq_true ‹_›) (of_decide_eq_true ‹_›)
  have HP92 := Kd.R_putg HO268.out (a1_1 : Int) (wrap64 ((rd t266 a1_1) + t269))
  try go_wp2_with (first | ((with_reducible refine gate_store (t := 3) (p := 35) rfl ?_); refine store_event (t := 3) (p := 35) (v := ?vo_w93) (w1 := (w84.setCell ⟨go71, (a1_1 : Int).toNat, none⟩ (.int .i64 (wrap64 ((rd t266 a1_1) + t269))))) ?hg ?ho ?hn ?hr ?_; (case ho => rfl); (case hg => rfl); (case hn => rfl); (case hr => first | (go_simp; done) | (go_simp; rfl)); intro w93 hw; have hg : w84.grownBy w93 (some go71) := (by rw [hw]; exact HP92.2); have hp_ : Kd.R (Kd.int .i64) 3 w93 w.heap.size (fun k_ => some k_ ≠ (.slice Ao80 t263.length co80 : Value).ownBlock) (.slice (some ⟨go71, 0, none⟩) t266.length co82) y276 := (by rw [hw, Ny276.out]; exact HP92.1); clear HP92; replace BK260 := Aside0.mk (blk_grown (g := gb260) (o := .cells #[.slice A0_0 l0_0.length c0_0, .slice A0_1 l0_1.length c0_1] 35 (0, 0)) (bk BK260) hg (Kd.R_ne HO268.out BK260.out (by decide))); replace BK261 := Aside0.mk (blk_grown (g := gb261) (o := .cells #[.int .i64 a1_0, .int .i64 a1_1] 55 (0, 0)) (bk BK261) hg (Kd.R_ne HO268.out BK261.out (by decide))); replace BK262 := Aside0.mk (blk_grown (g := gb262) (o := .cells #[.slice none 0 0, .slice none 0 0] 35 (0, 0)) (bk BK262) hg (Kd.R_ne HO268.out BK262.out (by decide))); replace HO265 := Aside0.mk (Kd.R_after (v := (.slice (some ⟨go71, 0, none⟩) t266.length co82)) (v1 := (.slice (some ⟨go71, 0, none⟩) t266.length co82)) (ok := (fun _ => True)) (by exact Kd.R_mono HO265.out (fun _ hk => ⟨trivial, hk⟩)) hg (.inl rfl)); replace BK270 := Aside0.mk (blk_grown (g := gb270) (o := .cells #[.slice Ao80 t263.length co80, .slice (some ⟨go71, 0, none⟩) t266.length co82] 35 (0, 0)) (bk BK270) hg (Kd.R_ne HO268.out BK270.out (by decide))); replace HO268 := Aside0.mk (hp_); replace HB := Aside0.mk ((by rw [hw]; exact below_set (HB.out) GB71.out : Below w.heap.size w w93)); clear hg hw hp_; have hcz94_0 := bc0 BK270; have hcz94_1 := bc1 BK270; have hfz94_0 := blk_frozen BK270.out 0; have hfz94_1 := blk_frozen BK270.out 1; have hnb95 := NB262_260.out; have hnc95 := NB260_262.out; have hcz96_0 := bc0 BK262; have hcz96_1 := bc1 BK262; have hfz96_0 := blk_frozen BK262.out 0; have hfz96_1 := blk_frozen BK262.out 1))
  refine bodyPost_ret (results_cell_row rfl _ _ gb262 35 #[.slice Ao80 t263.length co80, .slice (some ⟨go71, 0, none⟩) t266.length co82] (0, 0) _ rfl (by refine blk_put (cs := #[.slice Ao80 t263.length co80, .slice none 0 0]) ?_ 1 _ rfl; refine blk_put (cs := #[.slice none 0 0, .slice none 0 0]) ?_ 0 _ rfl; exact bk BK262) Try.underlying35 rfl (by kernel_rfl)) rfl ?_
  exact ⟨_, _, by first | rfl | (simp [errW_none, errW_some] <;> rfl) | (simp [*, errW_none, errW_some] <;> rfl), by exact Kd.R_mono (Kd.R_far (p := ⟨gb262, 1, none⟩) (Kd.R_far (p := ⟨gb262, 0, none⟩) (Kd.R_types HO265.out BK262.out (by decide)) (fun _ hk => hk.2) (.slice Ao80 t263.length co80)) (fun _ hk => hk.2) (.slice (some ⟨go71, 0, none⟩) t266.length co82)) (fun _ hk => hk.1.2), by exact Kd.R_mono (Kd.R_far (p := ⟨gb262, 1, none⟩) (Kd.R_far (p := ⟨gb262, 0, none⟩) (Kd.R_types HO268.out BK262.out (by decide)) (fun _ hk => hk.2) (.slice Ao80 t263.length co80)) (fun _ hk => hk.2) (.slice (some ⟨go71, 0, none⟩) t266.length co82)) (fun _ hk => hk.1), bw HB⟩
 rw [if_pos c5] at H
 have c5b0 : decide (0 ≤ a1_0) = true := decide_eq_true c5
 clear c5
 by_cases c6 : 0 ≤ a1_0
 rotate_left
 ·rw [if_neg c6] at H
  exact absurd H (by simp)
 rw [if_pos c6] at H
 have c6b0 : decide (0 ≤ a1_0) = true := decide_eq_true c6
 clear c6
 by_cases c7 : a1_0 < (t266.length : Int)
 rotate_left
 ·rw [if_neg c7] at H
  exact absurd H (by simp)
 rw [if_pos c7] at H
 have c7b0 : decide (a1_0 < (t266.length : Int)) = true := decide_eq_true c7
 clear c7
 obtain ⟨y272, hy272⟩ : ∃ y_ : List Int, y_ = (t266.set (a1_0 : Int).toNat (wrap64 ((rd t266 a1_0) - t269))) := ⟨_, rfl⟩
 replace H : (if a1_1 ≥ 0 then (if 0 ≤ a1_1 then (if a1_1 < (t266.length : Int) then (some (t263, (y272.set (a1_1 : Int).toNat (wrap64 ((rd y272 a1_1) + t269))))) else (none)) else (none)) else (some (t263, y272))) = some (r1, r2) := by first | (rw [hy272]; with_reducible exact H) | (have H2_ := (Option.bind_some _ _).symm.trans H; rw [hy272]; with_reducible exact H2_) | (have H2_ := (Option.bind_some _ _).symm.trans H; with_reducible exact H2_) | with_reducible exact H | (rw [hy272]; exact H) | exact H
 have Ny272 := Aside0.mk hy272
 clear hy272
 by_cases c9 : a1_1 ≥ 0
 rotate_left
 ·rw [if_neg c9] at H
  have c9b0 : decide (0 ≤ a1_1) = false := decide_eq_false c9
  clear c9
  simp only [Option.some.injEq, Prod.mk.injEq] at H
  obtain ⟨rfl, rfl⟩ := H
  go_enter Try.func62, Try.ntmps62
  try go_wp2_with (first | ((with_reducible refine gate_dst (N := 2) rfl ?_); refine bx 2 #[.slice A0_0 l0_0.length c0_0, .slice A0_1 l0_1.length c0_1] 35 ?_; intro gb260 hg w42 hbox hb; have BK260 := Aside0.mk (hbox); have GW260 := ge HB hg; have GE260 := ge HB hg; replace HB := bs HB hb; clear hb hbox hg) | ((with_reducible refine gate_dst (N := 3) rfl ?_); refine bx 3 #[.int .i64 a1_0, .int .i64 a1_1] 55 ?_; intro gb261 hg w43 hbox hb; have BK261 := Aside0.mk (hbox); have GW261 := ge HB hg; have GE261 := ge HB hg; replace HB := bs HB hb; have NB260_261 := nl BK260 hg; have NB261_260 := nr BK260 hg; replace BK260 := bb BK260 hb; clear hb hbox hg) | ((with_reducible refine gate_dst (N := 4) rfl ?_); refine bx 4 #[.slice none 0 0, .slice none 0 0] 35 ?_; intro gb262 hg w44 hbox hb; have BK262 := Aside0.mk (hbox); have GW262 := ge HB hg; have GE262 := ge HB hg; replace HB := bs HB hb; have NB260_262 := nl BK260 hg; have NB262_260 := nr BK260 hg; replace BK260 := bb BK260 hb; have NB261_262 := nl BK261 hg; have NB262_261 := nr BK261 hg; replace BK261 := bb BK261 hb; clear hb hbox hg))
  replace BK260 := Aside0.mk (blk_drew BK260.out)
  replace BK261 := Aside0.mk (blk_drew BK261.out)
  replace BK262 := Aside0.mk (blk_drew BK262.out)
  replace HB := Aside0.mk (below_drew1 HB.out)
  refine start_ (n := 8) (S := fun w' => w'.cell? ⟨gb260, 0, none⟩ = some (.slice A0_0 l0_0.length c0_0) ∧ w'.cell? ⟨gb260, 1, none⟩ = some (.slice A0_1 l0_1.length c0_1) ∧ w'.cell? ⟨gb261, 0, none⟩ = some (.int .i64 a1_0) ∧ w'.cell? ⟨gb261, 1, none⟩ = some (.int .i64 a1_1)) (ds := []) (bl 8 0) (by kernel_rfl) rfl rfl ⟨bc0 BK260, bc1 BK260, bc0 BK261, bc1 BK261⟩ (fun hHeld => ?_); refine with_tabW impl_Vessels_behind.tab1 impl_Vessels_behind.bits1 (fun HT_ HW_ => ?_)
  generalize w44.drew = w45 at BK260 BK261 BK262 HB hHeld ⊢
  refine tk 0 7 (bl 8 1) HT_.out HW_.out hHeld (v := ?_) (a' := ?_) ?_ ?_ ?_
  rotate_left; (rintro w' ⟨s0, s1, s2, s3⟩; go_simp; with_reducible rfl); rotate_left; (simp only [sqa, sqb, sqc, sqd, i64_w, i32_w]; rfl)
  refine tk 2 9 (bl 8 5) HT_.out HW_.out hHeld (v := ?_) (a' := ?_) ?_ ?_ ?_
  rotate_left; (rintro w' ⟨s0, s1, s2, s3⟩; go_simp; with_reducible rfl); rotate_left; (simp only [sqa, sqb, sqc, sqd, i64_w, i32_w]; rfl)
  refine tk 3 10 (bl 8 13) HT_.out HW_.out hHeld (v := ?_) (a' := ?_) ?_ ?_ ?_
  rotate_left; (rintro w' ⟨s0, s1, s2, s3⟩; go_simp; with_reducible rfl); rotate_left; (simp only [sqa, sqb, sqc, sqd, i64_w, i32_w]; rfl)
  refine join_ (σ := Value × Value × Nat) 2 (bl 8 63) (fun s_ => [(8, .agg #[s_.1, s_.2.1]), (11, .int .i64 t269), (5, .pointer (some ⟨s_.2.2, 0, none⟩))]) (fun s_ w' => (w'.cell? ⟨gb260, 0, none⟩ = some (.slice A0_0 l0_0.length c0_0) ∧ w'.cell? ⟨gb260, 1, none⟩ = some (.slice A0_1 l0_1.length c0_1) ∧ w'.cell? ⟨gb261, 0, none⟩ = some (.int .i64 a1_0) ∧ w'.cell? ⟨gb261, 1, none⟩ = some (.int .i64 a1_1)) ∧ (Kd.R (Kd.int .i64) 3 w' w.heap.size (fun k_ => some k_ ≠ (s_.2.1 : Value).ownBlock) s_.1 t263) ∧ (Kd.R (Kd.int .i64) 3 w' w.heap.size (fun k_ => some k_ ≠ (s_.1 : Value).ownBlock) s_.2.1 t266) ∧ (w'.heap[gb260]? = some (.cells #[.slice A0_0 l0_0.length c0_0, .slice A0_1 l0_1.length c0_1] 35 (0, 0))) ∧ (w'.heap[gb261]? = some (.cells #[.int .i64 a1_0, .int .i64 a1_1] 55 (0, 0))) ∧ (w'.heap[gb262]? = some (.cells #[.slice none 0 0, .slice none 0 0] 35 (0, 0))) ∧ (w'.heap[s_.2.2]? = some (.cells #[.slice none 0 0, .slice none 0 0] 35 (0, 0))) ∧ (w.heap.size ≤ s_.2.2) ∧ (w.heap.size ≤ s_.2.2) ∧ (gb260 ≠ s_.2.2) ∧ (s_.2.2 ≠ gb260) ∧ (gb261 ≠ s_.2.2) ∧ (s_.2.2 ≠ gb261) ∧ (gb262 ≠ s_.2.2) ∧ (s_.2.2 ≠ gb262) ∧ (Below w.heap.size w w')) ?_ ?_
  rotate_left
  ·intro hCont
   refine two_ (i := 1) (j := 5) (Ni := some 8) (Nj := some 5) (bl 8 15) (bl 8 45) rfl rfl rfl rfl (two_of HT_.out (by kernel_rfl)) (by decide) (by decide) (fun K hK => ?_) (fun K hK => ?_)
   ·skip
    refine gs Try.func71 #[.agg #[.slice A0_0 l0_0.length c0_0, .slice A0_1 l0_1.length c0_1]] ?_
    with_reducible refine (impl_Vessels_own.calls _ _ l0_0 _ _ l0_1 t263 t266 _ ?side1 ?side2 ?side3 ?side4 A3.out).mono ?_
    (case side1 => exact ck HR0_0 HB)
    (case side2 => exact HC0_0.out)
    (case side3 => exact ck HR0_1 HB)
    (case side4 => exact HC0_1.out)
    rintro e w46 ⟨v264, v267, rfl, ho0, ho1, hb⟩
    refine ⟨_, rfl, ?_⟩
    have HO265 := lo ho0 HB
    have HO268 := lo ho1 HB
    replace BK260 := bb BK260 hb
    replace BK261 := bb BK261 hb
    replace BK262 := bb BK262 hb
    replace HB := bs HB hb
    (try clear hb); (try clear hb2); (try clear hk); (try clear hi); (try clear ho0); (try clear ho1)
    refine hK.out _ _ ⟨bc0 BK260, bc1 BK260, bc0 BK261, bc1 BK261⟩ (fun hHeld => ?_)
    clear hK K
    refine norm_ (a' := ?_) ?_ ?_; rotate_left; (show Act.put _ (some 8) _ = _; simp only [sqa, sqb, sqc, sqd, i64_w, i32_w]; rfl)
    refine two_ (i := 4) (j := 5) (Ni := some 11) (Nj := some 5) (bl 8 31) (bl 8 47) rfl rfl rfl rfl (two_of HT_.out (by kernel_rfl)) (by decide) (by decide) (fun K hK => ?_) (fun K hK => ?_)
    ·skip
     refine gs Try.func82 #[.agg #[.slice A0_0 l0_0.length c0_0, .slice A0_1 l0_1.length c0_1], .agg #[.int .i64 a1_0, .int .i64 a1_1]] ?_
     with_reducible refine (impl_Vessels_amount.calls _ _ l0_0 _ _ l0_1 a1_0 a1_1 t269 _ ?side1 ?side2 ?side3 ?side4 A4.out).mono ?_
     (case side1 => exact ck HR0_0 HB)
     (case side2 => exact HC0_0.out)
     (case side3 => exact ck HR0_1 HB)
     (case side4 => exact HC0_1.out)
     rintro e w47 ⟨rfl, hb⟩
     refine ⟨_, rfl, ?_⟩
     replace HO265 := rb HO265 hb
     replace HO268 := rb HO268 hb
     replace BK260 := bb BK260 hb
     replace BK261 := bb BK261 hb
     replace BK262 := bb BK262 hb
     replace HB := bs HB hb
     (try clear hb); (try clear hb2); (try clear hk); (try clear hi)
     refine hK.out _ _ ⟨bc0 BK260, bc1 BK260, bc0 BK261, bc1 BK261⟩ (fun hHeld => ?_)
     clear hK K
     refine norm_ (a' := ?_) ?_ ?_; rotate_left; (show Act.put _ (some 11) _ = _; simp only [sqa, sqb, sqc, sqd, i64_w, i32_w]; rfl)
     refine on 5 5 (bl 8 63) HT_.out (fun K hK => ?_)
     refine box_step ?hg (N := 5) ?hd (cs := #[.slice none 0 0, .slice none 0 0]) (t := 35) ?hr ?_; (case hd => rfl); (case hg => rfl); (case hr => first | (go_simp; done) | (go_simp; rfl))
     intro gb270 hg w48 hbox hb
     replace HO265 := rb HO265 hb
     replace HO268 := rb HO268 hb
     have BK270 := Aside0.mk (hbox)
     have GW270 := ge HB hg
     have GE270 := ge HB hg
     replace HB := bs HB hb
     have NB260_270 := nl BK260 hg
     have NB270_260 := nr BK260 hg
     replace BK260 := bb BK260 hb
     have NB261_270 := nl BK261 hg
     have NB270_261 := nr BK261 hg
     replace BK261 := bb BK261 hb
     have NB262_270 := nl BK262 hg
     have NB270_262 := nr BK262 hg
     replace BK262 := bb BK262 hb
     clear hb hbox hg
     refine hK.out _ _ ⟨bc0 BK260, bc1 BK260, bc0 BK261, bc1 BK261⟩ (fun hHeld => ?_)
     clear hK K
     refine norm_ (a' := ?_) ?_ ?_; rotate_left; (show Act.put _ (some 5) _ = _; simp only [sqa, sqb, sqc, sqd, i64_w, i32_w]; rfl)
     exact norm_ (by simp only [putAll, Act.put, List.setIfInBounds_toArray, List.set_cons_zero, List.set_cons_succ]) (hCont (v264, v267, gb270) _ ⟨hHeld, (rk HO265), (rk HO268), (bk BK260), (bk BK261), (bk BK262), (bk BK270), GW270.out, GE270.out, NB260_270.out, NB270_260.out, NB261_270.out, NB270_261.out, NB262_270.out, NB270_262.out, (bw HB)⟩)
    ·skip
     refine box_step ?hg (N := 5) ?hd (cs := #[.slice none 0 0, .slice none 0 0]) (t := 35) ?hr ?_; (case hd => rfl); (case hg => rfl); (case hr => first | (go_simp; done) | (go_simp; rfl))
     intro gb270 hg w47 hbox hb
     replace HO265 := rb HO265 hb
     replace HO268 := rb HO268 hb
     have BK270 := Aside0.mk (hbox)
     have GW270 := ge HB hg
     have GE270 := ge HB hg
     replace HB := bs HB hb
     have NB260_270 := nl BK260 hg
     have NB270_260 := nr BK260 hg
     replace BK260 := bb BK260 hb
     have NB261_270 := nl BK261 hg
     have NB270_261 := nr BK261 hg
     replace BK261 := bb BK261 hb
     have NB262_270 := nl BK262 hg
     have NB270_262 := nr BK262 hg
     replace BK262 := bb BK262 hb
     clear hb hbox hg
     refine hK.out _ _ ⟨bc0 BK260, bc1 BK260, bc0 BK261, bc1 BK261⟩ (fun hHeld => ?_)
     clear hK K
     refine norm_ (a' := ?_) ?_ ?_; rotate_left; (show Act.put _ (some 5) _ = _; simp only [sqa, sqb, sqc, sqd, i64_w, i32_w]; rfl)
     refine on 4 11 (bl 8 63) HT_.out (fun K hK => ?_)
     refine gs Try.func82 #[.agg #[.slice A0_0 l0_0.length c0_0, .slice A0_1 l0_1.length c0_1], .agg #[.int .i64 a1_0, .int .i64 a1_1]] ?_
     with_reducible refine (impl_Vessels_amount.calls _ _ l0_0 _ _ l0_1 a1_0 a1_1 t269 _ ?side1 ?side2 ?side3 ?side4 A4.out).mono ?_
     (case side1 => exact ck HR0_0 HB)
     (case side2 => exact HC0_0.out)
     (case side3 => exact ck HR0_1 HB)
     (case side4 => exact HC0_1.out)
     rintro e w48 ⟨rfl, hb⟩
     refine ⟨_, rfl, ?_⟩
     replace HO265 := rb HO265 hb
     replace HO268 := rb HO268 hb
     replace BK260 := bb BK260 hb
     replace BK261 := bb BK261 hb
     replace BK262 := bb BK262 hb
     replace BK270 := bb BK270 hb
     replace HB := bs HB hb
     (try clear hb); (try clear hb2); (try clear hk); (try clear hi)
     refine hK.out _ _ ⟨bc0 BK260, bc1 BK260, bc0 BK261, bc1 BK261⟩ (fun hHeld => ?_)
     clear hK K
     refine norm_ (a' := ?_) ?_ ?_; rotate_left; (show Act.put _ (some 11) _ = _; simp only [sqa, sqb, sqc, sqd, i64_w, i32_w]; rfl)
     exact norm_ (by simp only [putAll, Act.put, List.setIfInBounds_toArray, List.set_cons_zero, List.set_cons_succ]) (hCont (v264, v267, gb270) _ ⟨hHeld, (rk HO265), (rk HO268), (bk BK260), (bk BK261), (bk BK262), (bk BK270), GW270.out, GE270.out, NB260_270.out, NB270_260.out, NB261_270.out, NB270_261.out, NB262_270.out, NB270_262.out, (bw HB)⟩)
   ·skip
    refine box_step ?hg (N := 5) ?hd (cs := #[.slice none 0 0, .slice none 0 0]) (t := 35) ?hr ?_; (case hd => rfl); (case hg => rfl); (case hr => first | (go_simp; done) | (go_simp; rfl))
    intro gb270 hg w46 hbox hb
    have BK270 := Aside0.mk (hbox)
    have GW270 := ge HB hg
    have GE270 := ge HB hg
    replace HB := bs HB hb
    have NB260_270 := nl BK260 hg
    have NB270_260 := nr BK260 hg
    replace BK260 := bb BK260 hb
    have NB261_270 := nl BK261 hg
    have NB270_261 := nr BK261 hg
    replace BK261 := bb BK261 hb
    have NB262_270 := nl BK262 hg
    have NB270_262 := nr BK262 hg
    replace BK262 := bb BK262 hb
    clear hb hbox hg
    refine hK.out _ _ ⟨bc0 BK260, bc1 BK260, bc0 BK261, bc1 BK261⟩ (fun hHeld => ?_)
    clear hK K
    refine norm_ (a' := ?_) ?_ ?_; rotate_left; (show Act.put _ (some 5) _ = _; simp only [sqa, sqb, sqc, sqd, i64_w, i32_w]; rfl)
    refine on 1 8 (bl 8 47) HT_.out (fun K hK => ?_)
    refine gs Try.func71 #[.agg #[.slice A0_0 l0_0.length c0_0, .slice A0_1 l0_1.length c0_1]] ?_
    with_reducible refine (impl_Vessels_own.calls _ _ l0_0 _ _ l0_1 t263 t266 _ ?side1 ?side2 ?side3 ?side4 A3.out).mono ?_
    (case side1 => exact ck HR0_0 HB)
    (case side2 => exact HC0_0.out)
    (case side3 => exact ck HR0_1 HB)
    (case side4 => exact HC0_1.out)
    rintro e w47 ⟨v264, v267, rfl, ho0, ho1, hb⟩
    refine ⟨_, rfl, ?_⟩
    have HO265 := lo ho0 HB
    have HO268 := lo ho1 HB
    replace BK260 := bb BK260 hb
    replace BK261 := bb BK261 hb
    replace BK262 := bb BK262 hb
    replace BK270 := bb BK270 hb
    replace HB := bs HB hb
    (try clear hb); (try clear hb2); (try clear hk); (try clear hi); (try clear ho0); (try clear ho1)
    refine hK.out _ _ ⟨bc0 BK260, bc1 BK260, bc0 BK261, bc1 BK261⟩ (fun hHeld => ?_)
    clear hK K
    refine norm_ (a' := ?_) ?_ ?_; rotate_left; (show Act.put _ (some 8) _ = _; simp only [sqa, sqb, sqc, sqd, i64_w, i32_w]; rfl)
    refine on 4 11 (bl 8 63) HT_.out (fun K hK => ?_)
    refine gs Try.func82 #[.agg #[.slice A0_0 l0_0.length c0_0, .slice A0_1 l0_1.length c0_1], .agg #[.int .i64 a1_0, .int .i64 a1_1]] ?_
    with_reducible refine (impl_Vessels_amount.calls _ _ l0_0 _ _ l0_1 a1_0 a1_1 t269 _ ?side1 ?side2 ?side3 ?side4 A4.out).mono ?_
    (case side1 => exact ck HR0_0 HB)
    (case side2 => exact HC0_0.out)
    (case side3 => exact ck HR0_1 HB)
    (case side4 => exact HC0_1.out)
    rintro e w48 ⟨rfl, hb⟩
    refine ⟨_, rfl, ?_⟩
    replace HO265 := rb HO265 hb
    replace HO268 := rb HO268 hb
    replace BK260 := bb BK260 hb
    replace BK261 := bb BK261 hb
    replace BK262 := bb BK262 hb
    replace BK270 := bb BK270 hb
    replace HB := bs HB hb
    (try clear hb); (try clear hb2); (try clear hk); (try clear hi)
    refine hK.out _ _ ⟨bc0 BK260, bc1 BK260, bc0 BK261, bc1 BK261⟩ (fun hHeld => ?_)
    clear hK K
    refine norm_ (a' := ?_) ?_ ?_; rotate_left; (show Act.put _ (some 11) _ = _; simp only [sqa, sqb, sqc, sqd, i64_w, i32_w]; rfl)
    exact norm_ (by simp only [putAll, Act.put, List.setIfInBounds_toArray, List.set_cons_zero, List.set_cons_succ]) (hCont (v264, v267, gb270) _ ⟨hHeld, (rk HO265), (rk HO268), (bk BK260), (bk BK261), (bk BK262), (bk BK270), GW270.out, GE270.out, NB260_270.out, NB270_260.out, NB261_270.out, NB270_261.out, NB262_270.out, NB270_262.out, (bw HB)⟩)
  rintro ⟨v264, v267, gb270⟩ w49 ⟨hS_, h0_, h1_, h2_, h3_, h4_, h5_, h6_, h7_, h8_, h9_, h10_, h11_, h12_, h13_, h14_⟩
  have HO265 := Aside0.mk h0_
  have HO268 := Aside0.mk h1_
  replace BK260 := Aside0.mk h2_
  replace BK261 := Aside0.mk h3_
  replace BK262 := Aside0.mk h4_
  have BK270 := Aside0.mk h5_
  have GW270 := GeC.mk h6_
  have GE270 := GeC.mk h7_
  have NB260_270 := NeC.mk h8_
  have NB270_260 := NeC.mk h9_
  have NB261_270 := NeC.mk h10_
  have NB270_261 := NeC.mk h11_
  have NB262_270 := NeC.mk h12_
  have NB270_262 := NeC.mk h13_
  replace HB := Aside0.mk h14_
  clear h0_ h1_ h2_ h3_ h4_ h5_ h6_ h7_ h8_ h9_ h10_ h11_ h12_ h13_ h14_
  have hHeld : w49.cell? ⟨gb260, 0, none⟩ = some (.slice A0_0 l0_0.length c0_0) ∧ w49.cell? ⟨gb260, 1, none⟩ = some (.slice A0_1 l0_1.length c0_1) ∧ w49.cell? ⟨gb261, 0, none⟩ = some (.int .i64 a1_0) ∧ w49.cell? ⟨gb261, 1, none⟩ = some (.int .i64 a1_1) := hS_
  obtain ⟨Ao50, co50, eo50⟩ := Kd.R_slice HO265.out
  (first | subst eo50 | (injection eo50 with f1_ f2_ f3_; have f4_ := f1_.symm; have f5_ := f3_.symm; clear f1_ f2_ f3_; subst f4_; subst f5_))
  obtain ⟨Ao52, co52, eo52⟩ := Kd.R_slice HO268.out
  (first | subst eo52 | (injection eo52 with f1_ f2_ f3_; have f4_ := f1_.symm; have f5_ := f3_.symm; clear f1_ f2_ f3_; subst f4_; subst f5_))
  refine norm_ (a' := ?_) ?_ ?_
  rotate_left
  ·simp only [putAll, Act.put, List.setIfInBounds_toArray, List.set_cons_zero, List.set_cons_succ]
   rfl
  refine one_ (i := 6) (N := none) (bl 8 127) rfl rfl (one_of HT_.out (by kernel_rfl)) (by decide) (fun K hK => ?_)
  have hs51 : w49.cell? ⟨gb270, 0, none⟩ = some (.slice none 0 0) := bc0 BK270
  have hfs51 := blk_frozen BK270.out 0
  have hns51_0 := NB260_270.out
  have hns51_1 := NB261_270.out
  have hns51_2 := NB262_270.out
  have hms51_0 := NB270_260.out
  have hms51_1 := NB270_261.out
  have hms51_2 := NB270_262.out
  have hs53 : w49.cell? ⟨gb270, 1, none⟩ = some (.slice none 0 0) := bc1 BK270
  have hfs53 := blk_frozen BK270.out 1
  have hns53_0 := NB260_270.out
  have hns53_1 := NB261_270.out
  have hns53_2 := NB262_270.out
  have hms53_0 := NB270_260.out
  have hms53_1 := NB270_261.out
  have hms53_2 := NB270_262.out
  refine skip_ (w1 := ?_) (by rfl) rfl ?_ ?_
  rotate_left
  ·go_simp
   rfl
  refine hK.out _ _ ⟨((cell_far (p := ⟨gb270, _, none⟩) NB260_270.out _).trans (((cell_far (p := ⟨gb270, _, none⟩) NB260_270.out _).trans (hHeld.1)))), ((cell_far (p := ⟨gb270, _, none⟩) NB260_270.out _).trans (((cell_far (p := ⟨gb270, _, none⟩) NB260_270.out _).trans (hHeld.2.1)))), ((cell_far (p := ⟨gb270, _, none⟩) NB261_270.out _).trans (((cell_far (p := ⟨gb270, _, none⟩) NB261_270.out _).trans (hHeld.2.2.1)))), ((cell_far (p := ⟨gb270, _, none⟩) NB261_270.out _).trans (((cell_far (p := ⟨gb270, _, none⟩) NB261_270.out _).trans (hHeld.2.2.2))))⟩ (fun hHeld => ?_)
  clear hK K
  refine pu 7 6 (bl 8 255) HT_.out (v := ?_) (a' := ?_) ?_ ?_ ?_
  rotate_left; (intro w'; go_simp; with_reducible rfl); rotate_left; (simp only [sqa, sqb, sqc, sqd, i64_w, i32_w]; rfl)
  refine done_ (done_of HT_.out (by kernel_rfl)) ?_
  have n0_ : Aside0 (Kd.R (Kd.int .i64) 3 ((w49.setCell ⟨gb270, 0, none⟩ (.slice Ao50 t263.length co50)).setCell ⟨gb270, 1, none⟩ (.slice Ao52 t266.length co52)) w.heap.size (fun k_ => some k_ ≠ (.slice Ao52 t266.length co52 : Value).ownBlock) (.slice Ao50 t263.length co50) t263) := ⟨by exact Kd.R_mono (Kd.R_far (p := ⟨gb270, 1, none⟩) (Kd.R_far (p := ⟨gb270, 0, none⟩) (Kd.R_types HO265.out BK270.out (by decide)) (fun _ hk => hk.2) (.slice Ao50 t263.length co50)) (fun _ hk => hk.2) (.slice Ao52 t266.length co52)) (fun _ hk => hk.1)⟩
  have n1_ : Aside0 (Kd.R (Kd.int .i64) 3 ((w49.setCell ⟨gb270, 0, none⟩ (.slice Ao50 t263.length co50)).setCell ⟨gb270, 1, none⟩ (.slice Ao52 t266.length co52)) w.heap.size (fun k_ => some k_ ≠ (.slice Ao50 t263.length co50 : Value).ownBlock) (.slice Ao52 t266.length co52) t266) := ⟨by exact Kd.R_mono (Kd.R_far (p := ⟨gb270, 1, none⟩) (Kd.R_far (p := ⟨gb270, 0, none⟩) (Kd.R_types HO268.out BK270.out (by decide)) (fun _ hk => hk.2) (.slice Ao50 t263.length co50)) (fun _ hk => hk.2) (.slice Ao52 t266.length co52)) (fun _ hk => hk.1)⟩
  have n2_ : Aside0 (((w49.setCell ⟨gb270, 0, none⟩ (.slice Ao50 t263.length co50)).setCell ⟨gb270, 1, none⟩ (.slice Ao52 t266.length co52)).heap[gb260]? = some (.cells #[.slice A0_0 l0_0.length c0_0, .slice A0_1 l0_1.length c0_1] 35 (0, 0))) := ⟨bk BK260⟩
  have n3_ : Aside0 (((w49.setCell ⟨gb270, 0, none⟩ (.slice Ao50 t263.length co50)).setCell ⟨gb270, 1, none⟩ (.slice Ao52 t266.length co52)).heap[gb261]? = some (.cells #[.int .i64 a1_0, .int .i64 a1_1] 55 (0, 0))) := ⟨bk BK261⟩
  have n4_ : Aside0 (((w49.setCell ⟨gb270, 0, none⟩ (.slice Ao50 t263.length co50)).setCell ⟨gb270, 1, none⟩ (.slice Ao52 t266.length co52)).heap[gb262]? = some (.cells #[.slice none 0 0, .slice none 0 0] 35 (0, 0))) := ⟨bk BK262⟩
  have n5_ : Aside0 (((w49.setCell ⟨gb270, 0, none⟩ (.slice Ao50 t263.length co50)).setCell ⟨gb270, 1, none⟩ (.slice Ao52 t266.length co52)).heap[gb270]? = some (.cells #[.slice Ao50 t263.length co50, .slice Ao52 t266.length co52] 35 (0, 0))) := ⟨by refine blk_put (cs := #[.slice Ao50 t263.length co50, .slice none 0 0]) ?_ 1 _ rfl; refine blk_put (cs := #[.slice none 0 0, .slice none 0 0]) ?_ 0 _ rfl; exact bk BK270⟩
  have n6_ : Aside0 (Below w.heap.size w ((w49.setCell ⟨gb270, 0, none⟩ (.slice Ao50 t263.length co50)).setCell ⟨gb270, 1, none⟩ (.slice Ao52 t266.length co52))) := ⟨bw HB⟩
  (try clear HO265); (try clear HO268); (try clear BK260); (try clear BK261); (try clear BK262); (try clear BK270); (try clear HB)
  generalize ((w49.setCell ⟨gb270, 0, none⟩ (.slice Ao50 t263.length co50)).setCell ⟨gb270, 1, none⟩ (.slice Ao52 t266.length co52)) = w54 at n0_ n1_ n2_ n3_ n4_ n5_ n6_ ⊢
  have HO265 := n0_
  have HO268 := n1_
  have BK260 := n2_
  have BK261 := n3_
  have BK262 := n4_
  have BK270 := n5_
  have HB := n6_
  clear n0_ n1_ n2_ n3_ n4_ n5_ n6_
  have hnb55 := NB261_260.out
  have hnc55 := NB260_261.out
  have hnb56 := NB261_262.out
  have hnc56 := NB262_261.out
  have hnb57 := NB261_270.out
  have hnc57 := NB270_261.out
  have hcz58_0 := bc0 BK261
  have hcz58_1 := bc1 BK261
  have hfz58_0 := blk_frozen BK261.out 0
  have hfz58_1 := blk_frozen BK261.out 1
  have hnb59 := NB270_260.out
  have hnc59 := NB260_270.out
  have hnb60 := NB270_262.out
  have hnc60 := NB262_270.out
  have hcz61_0 := bc0 BK270
  have hcz61_1 := bc1 BK270
  have hfz61_0 := blk_frozen BK270.out 0
  have hfz61_1 := blk_frozen BK270.out 1
  have p271 : 0 ≤ (a1_0 : Int) := of_decide_eq_true ‹_›
  have q271 : a1_0 < (t266.length : Int) := of_decide_eq_true ‹_›
  obtain ⟨ad271, e271, hx271_0⟩ := Kd.at_int (Kd.R_reads' HO268.out).2.2 a1_0 p271 q271
  cases e271
  replace p271 := eq_true p271
  replace q271 := eq_true q271
  have p8 : 0 ≤ (a1_0 : Int) := of_decide_eq_true ‹_›
  have q8 : (a1_0 : Int) < ((t266.length : Int) : Int) := of_decide_eq_true ‹_›
  obtain ⟨go8, co8, eo8, gb8, gl8, cl8, HG8⟩ := Kd.R_form HO268.out (by omega)
  (first | cases eo8 | (injection eo8 with ea_ en_ ec_; (first | subst ea_ | (injection ea_ with ea_; subst ea_)); subst ec_; clear en_))
  have GB8 := Aside0.mk gb8
  have GG8 := Aside0.mk HG8
  clear gb8 gl8 HG8
  (first | simp only [add_plain] at hx271_0 | skip)
  obtain ⟨hx8_0, hf8_0⟩ := Kd.R_celln 0 HO268.out (a1_0 : Int) p8 q8
  replace p8 := eq_true p8
  replace q8 := eq_true q8
  obtain ⟨hy62_, hz62_⟩ := Kd.R_celln 0 HO268.out (a1_0 : Int) (of_decide_eq_true ‹_›) (of_decide_eq_true ‹_›)
  have HP62 := Kd.R_putg HO268.out (a1_0 : Int) (wrap64 ((rd t266 a1_0) - t269))
  try go_wp2_with (first | ((with_reducible refine gate_store (t := 3) (p := 23) rfl ?_); refine store_event (t := 3) (p := 23) (v := ?vo_w63) (w1 := (w54.setCell ⟨go8, (a1_0 : Int).toNat, none⟩ (.int .i64 (wrap64 ((rd t266 a1_0) - t269))))) ?hg ?ho ?hn ?hr ?_; (case ho => rfl); (case hg => rfl); (case hn => rfl); (case hr => first | (go_simp; done) | (go_simp; rfl)); intro w63 hw; have hg : w54.grownBy w63 (some go8) := (by rw [hw]; exact HP62.2); have hp_ : Kd.R (Kd.int .i64) 3 w63 w.heap.size (fun k_ => some k_ ≠ (.slice Ao50 t263.length co50 : Value).ownBlock) (.slice (some ⟨go8, 0, none⟩) t266.length co52) y272 := (by rw [hw, Ny272.out]; exact HP62.1); clear HP62; replace BK260 := Aside0.mk (blk_grown (g := gb260) (o := .cells #[.slice A0_0 l0_0.length c0_0, .slice A0_1 l0_1.length c0_1] 35 (0, 0)) (bk BK260) hg (Kd.R_ne HO268.out BK260.out (by decide))); replace BK261 := Aside0.mk (blk_grown (g := gb261) (o := .cells #[.int .i64 a1_0, .int .i64 a1_1] 55 (0, 0)) (bk BK261) hg (Kd.R_ne HO268.out BK261.out (by decide))); replace BK262 := Aside0.mk (blk_grown (g := gb262) (o := .cells #[.slice none 0 0, .slice none 0 0] 35 (0, 0)) (bk BK262) hg (Kd.R_ne HO268.out BK262.out (by decide))); replace HO265 := Aside0.mk (Kd.R_after (v := (.slice (some ⟨go8, 0, none⟩) t266.length co52)) (v1 := (.slice (some ⟨go8, 0, none⟩) t266.length co52)) (ok := (fun _ => True)) (by exact Kd.R_mono HO265.out (fun _ hk => ⟨trivial, hk⟩)) hg (.inl rfl)); replace BK270 := Aside0.mk (blk_grown (g := gb270) (o := .cells #[.slice Ao50 t263.length co50, .slice (some ⟨go8, 0, none⟩) t266.length co52] 35 (0, 0)) (bk BK270) hg (Kd.R_ne HO268.out BK270.out (by decide))); replace HO268 := Aside0.mk (hp_); replace HB := Aside0.mk ((by rw [hw]; exact below_set (HB.out) GB8.out : Below w.heap.size w w63)); clear hg hw hp_; have hcz64_0 := bc0 BK261; have hcz64_1 := bc1 BK261; have hfz64_0 := blk_frozen BK261.out 0; have hfz64_1 := blk_frozen BK261.out 1; have hcz65_0 := bc0 BK270; have hcz65_1 := bc1 BK270; have hfz65_0 := blk_frozen BK270.out 0; have hfz65_1 := blk_frozen BK270.out 1; have hnb66 := NB262_260.out; have hnc66 := NB260_262.out; have hcz67_0 := bc0 BK262; have hcz67_1 := bc1 BK262; have hfz67_0 := blk_frozen BK262.out 0; have hfz67_1 := blk_frozen BK262.out 1))
  refine bodyPost_ret (results_cell_row rfl _ _ gb262 35 #[.slice Ao50 t263.length co50, .slice (some ⟨go8, 0, none⟩) t266.length co52] (0, 0) _ rfl (by refine blk_put (cs := #[.slice Ao50 t263.length co50, .slice none 0 0]) ?_ 1 _ rfl; refine blk_put (cs := #[.slice none 0 0, .slice none 0 0]) ?_ 0 _ rfl; exact bk BK262) Try.underlying35 rfl (by kernel_rfl)) rfl ?_
  exact ⟨_, _, by first | rfl | (simp [errW_none, errW_some] <;> rfl) | (simp [*, errW_none, errW_some] <;> rfl), by exact Kd.R_mono (Kd.R_far (p := ⟨gb262, 1, none⟩) (Kd.R_far (p := ⟨gb262, 0, none⟩) (Kd.R_types HO265.out BK262.out (by decide)) (fun _ hk => hk.2) (.slice Ao50 t263.length co50)) (fun _ hk => hk.2) (.slice (some ⟨go8, 0, none⟩) t266.length co52)) (fun _ hk => hk.1.2), by exact Kd.R_mono (Kd.R_far (p := ⟨gb262, 1, none⟩) (Kd.R_far (p := ⟨gb262, 0, none⟩) (Kd.R_types HO268.out BK262.out (by decide)) (fun _ hk => hk.2) (.slice Ao50 t263.length co50)) (fun _ hk => hk.2) (.slice (some ⟨go8, 0, none⟩) t266.length co52)) (fun _ hk => hk.1), bw HB⟩
 rw [if_pos c9] at H
 have c9b0 : decide (0 ≤ a1_1) = true := decide_eq_true c9
 clear c9
 by_cases c10 : 0 ≤ a1_1
 rotate_left
 ·rw [if_neg c10] at H
  exact absurd H (by simp)
 rw [if_pos c10] at H
 have c10b0 : decide (0 ≤ a1_1) = true := decide_eq_true c10
 clear c10
 by_cases c11 : a1_1 < (t266.length : Int)
 rotate_left
 ·rw [if_neg c11] at H
  exact absurd H (by simp)
 rw [if_pos c11] at H
 have c11b0 : decide (a1_1 < (t266.length : Int)) = true := decide_eq_true c11
 clear c11
 obtain ⟨y274, hy274⟩ : ∃ y_ : List Int, y_ = (y272.set (a1_1 : Int).toNat (wrap64 ((rd y272 a1_1) + t269))) := ⟨_, rfl⟩
 replace H : (some (t263, y274)) = some (r1, r2) := by first | (rw [hy274]; with_reducible exact H) | (have H2_ := (Option.bind_some _ _).symm.trans H; rw [hy274]; with_reducible exact H2_) | (have H2_ := (Option.bind_some _ _).symm.trans H; with_reducible exact H2_) | with_reducible exact H | (rw [hy274]; exact H) | exact H
 have Ny274 := Aside0.mk hy274
 clear hy274
 simp only [Option.some.injEq, Prod.mk.injEq] at H
 obtain ⟨rfl, rfl⟩ := H
 go_enter Try.func62, Try.ntmps62
 try go_wp2_with (first | ((with_reducible refine gate_dst (N := 2) rfl ?_); refine bx 2 #[.slice A0_0 l0_0.length c0_0, .slice A0_1 l0_1.length c0_1] 35 ?_; intro gb260 hg w13 hbox hb; have BK260 := Aside0.mk (hbox); have GW260 := ge HB hg; have GE260 := ge HB hg; replace HB := bs HB hb; clear hb hbox hg) | ((with_reducible refine gate_dst (N := 3) rfl ?_); refine bx 3 #[.int .i64 a1_0, .int .i64 a1_1] 55 ?_; intro gb261 hg w14 hbox hb; have BK261 := Aside0.mk (hbox); have GW261 := ge HB hg; have GE261 := ge HB hg; replace HB := bs HB hb; have NB260_261 := nl BK260 hg; have NB261_260 := nr BK260 hg; replace BK260 := bb BK260 hb; clear hb hbox hg) | ((with_reducible refine gate_dst (N := 4) rfl ?_); refine bx 4 #[.slice none 0 0, .slice none 0 0] 35 ?_; intro gb262 hg w15 hbox hb; have BK262 := Aside0.mk (hbox); have GW262 := ge HB hg; have GE262 := ge HB hg; replace HB := bs HB hb; have NB260_262 := nl BK260 hg; have NB262_260 := nr BK260 hg; replace BK260 := bb BK260 hb; have NB261_262 := nl BK261 hg; have NB262_261 := nr BK261 hg; replace BK261 := bb BK261 hb; clear hb hbox hg))
 replace BK260 := Aside0.mk (blk_drew BK260.out)
 replace BK261 := Aside0.mk (blk_drew BK261.out)
 replace BK262 := Aside0.mk (blk_drew BK262.out)
 replace HB := Aside0.mk (below_drew1 HB.out)
 refine start_ (n := 8) (S := fun w' => w'.cell? ⟨gb260, 0, none⟩ = some (.slice A0_0 l0_0.length c0_0) ∧ w'.cell? ⟨gb260, 1, none⟩ = some (.slice A0_1 l0_1.length c0_1) ∧ w'.cell? ⟨gb261, 0, none⟩ = some (.int .i64 a1_0) ∧ w'.cell? ⟨gb261, 1, none⟩ = some (.int .i64 a1_1)) (ds := []) (bl 8 0) (by kernel_rfl) rfl rfl ⟨bc0 BK260, bc1 BK260, bc0 BK261, bc1 BK261⟩ (fun hHeld => ?_); refine with_tabW impl_Vessels_behind.tab1 impl_Vessels_behind.bits1 (fun HT_ HW_ => ?_)
 generalize w15.drew = w16 at BK260 BK261 BK262 HB hHeld ⊢
 refine tk 0 7 (bl 8 1) HT_.out HW_.out hHeld (v := ?_) (a' := ?_) ?_ ?_ ?_
 rotate_left; (rintro w' ⟨s0, s1, s2, s3⟩; go_simp; with_reducible rfl); rotate_left; (simp only [sqa, sqb, sqc, sqd, i64_w, i32_w]; rfl)
 refine tk 2 9 (bl 8 5) HT_.out HW_.out hHeld (v := ?_) (a' := ?_) ?_ ?_ ?_
 rotate_left; (rintro w' ⟨s0, s1, s2, s3⟩; go_simp; with_reducible rfl); rotate_left; (simp only [sqa, sqb, sqc, sqd, i64_w, i32_w]; rfl)
 refine tk 3 10 (bl 8 13) HT_.out HW_.out hHeld (v := ?_) (a' := ?_) ?_ ?_ ?_
 rotate_left; (rintro w' ⟨s0, s1, s2, s3⟩; go_simp; with_reducible rfl); rotate_left; (simp only [sqa, sqb, sqc, sqd, i64_w, i32_w]; rfl)
 refine join_ (σ := Value × Value × Nat) 2 (bl 8 63) (fun s_ => [(8, .agg #[s_.1, s_.2.1]), (11, .int .i64 t269), (5, .pointer (some ⟨s_.2.2, 0, none⟩))]) (fun s_ w' => (w'.cell? ⟨gb260, 0, none⟩ = some (.slice A0_0 l0_0.length c0_0) ∧ w'.cell? ⟨gb260, 1, none⟩ = some (.slice A0_1 l0_1.length c0_1) ∧ w'.cell? ⟨gb261, 0, none⟩ = some (.int .i64 a1_0) ∧ w'.cell? ⟨gb261, 1, none⟩ = some (.int .i64 a1_1)) ∧ (Kd.R (Kd.int .i64) 3 w' w.heap.size (fun k_ => some k_ ≠ (s_.2.1 : Value).ownBlock) s_.1 t263) ∧ (Kd.R (Kd.int .i64) 3 w' w.heap.size (fun k_ => some k_ ≠ (s_.1 : Value).ownBlock) s_.2.1 t266) ∧ (w'.heap[gb260]? = some (.cells #[.slice A0_0 l0_0.length c0_0, .slice A0_1 l0_1.length c0_1] 35 (0, 0))) ∧ (w'.heap[gb261]? = some (.cells #[.int .i64 a1_0, .int .i64 a1_1] 55 (0, 0))) ∧ (w'.heap[gb262]? = some (.cells #[.slice none 0 0, .slice none 0 0] 35 (0, 0))) ∧ (w'.heap[s_.2.2]? = some (.cells #[.slice none 0 0, .slice none 0 0] 35 (0, 0))) ∧ (w.heap.size ≤ s_.2.2) ∧ (w.heap.size ≤ s_.2.2) ∧ (gb260 ≠ s_.2.2) ∧ (s_.2.2 ≠ gb260) ∧ (gb261 ≠ s_.2.2) ∧ (s_.2.2 ≠ gb261) ∧ (gb262 ≠ s_.2.2) ∧ (s_.2.2 ≠ gb262) ∧ (Below w.heap.size w w')) ?_ ?_
 rotate_left
 ·intro hCont
  refine two_ (i := 1) (j := 5) (Ni := some 8) (Nj := some 5) (bl 8 15) (bl 8 45) rfl rfl rfl rfl (two_of HT_.out (by kernel_rfl)) (by decide) (by decide) (fun K hK => ?_) (fun K hK => ?_)
  ·skip
   refine gs Try.func71 #[.agg #[.slice A0_0 l0_0.length c0_0, .slice A0_1 l0_1.length c0_1]] ?_
   with_reducible refine (impl_Vessels_own.calls _ _ l0_0 _ _ l0_1 t263 t266 _ ?side1 ?side2 ?side3 ?side4 A3.out).mono ?_
   (case side1 => exact ck HR0_0 HB)
   (case side2 => exact HC0_0.out)
   (case side3 => exact ck HR0_1 HB)
   (case side4 => exact HC0_1.out)
   rintro e w17 ⟨v264, v267, rfl, ho0, ho1, hb⟩
   refine ⟨_, rfl, ?_⟩
   have HO265 := lo ho0 HB
   have HO268 := lo ho1 HB
   replace BK260 := bb BK260 hb
   replace BK261 := bb BK261 hb
   replace BK262 := bb BK262 hb
   replace HB := bs HB hb
   (try clear hb); (try clear hb2); (try clear hk); (try clear hi); (try clear ho0); (try clear ho1)
   refine hK.out _ _ ⟨bc0 BK260, bc1 BK260, bc0 BK261, bc1 BK261⟩ (fun hHeld => ?_)
   clear hK K
   refine norm_ (a' := ?_) ?_ ?_; rotate_left; (show Act.put _ (some 8) _ = _; simp only [sqa, sqb, sqc, sqd, i64_w, i32_w]; rfl)
   refine two_ (i := 4) (j := 5) (Ni := some 11) (Nj := some 5) (bl 8 31) (bl 8 47) rfl rfl rfl rfl (two_of HT_.out (by kernel_rfl)) (by decide) (by decide) (fun K hK => ?_) (fun K hK => ?_)
   ·skip
    refine gs Try.func82 #[.agg #[.slice A0_0 l0_0.length c0_0, .slice A0_1 l0_1.length c0_1], .agg #[.int .i64 a1_0, .int .i64 a1_1]] ?_
    with_reducible refine (impl_Vessels_amount.calls _ _ l0_0 _ _ l0_1 a1_0 a1_1 t269 _ ?side1 ?side2 ?side3 ?side4 A4.out).mono ?_
    (case side1 => exact ck HR0_0 HB)
    (case side2 => exact HC0_0.out)
    (case side3 => exact ck HR0_1 HB)
    (case side4 => exact HC0_1.out)
    rintro e w18 ⟨rfl, hb⟩
    refine ⟨_, rfl, ?_⟩
    replace HO265 := rb HO265 hb
    replace HO268 := rb HO268 hb
    replace BK260 := bb BK260 hb
    replace BK261 := bb BK261 hb
    replace BK262 := bb BK262 hb
    replace HB := bs HB hb
    (try clear hb); (try clear hb2); (try clear hk); (try clear hi)
    refine hK.out _ _ ⟨bc0 BK260, bc1 BK260, bc0 BK261, bc1 BK261⟩ (fun hHeld => ?_)
    clear hK K
    refine norm_ (a' := ?_) ?_ ?_; rotate_left; (show Act.put _ (some 11) _ = _; simp only [sqa, sqb, sqc, sqd, i64_w, i32_w]; rfl)
    refine on 5 5 (bl 8 63) HT_.out (fun K hK => ?_)
    refine box_step ?hg (N := 5) ?hd (cs := #[.slice none 0 0, .slice none 0 0]) (t := 35) ?hr ?_; (case hd => rfl); (case hg => rfl); (case hr => first | (go_simp; done) | (go_simp; rfl))
    intro gb270 hg w19 hbox hb
    replace HO265 := rb HO265 hb
    replace HO268 := rb HO268 hb
    have BK270 := Aside0.mk (hbox)
    have GW270 := ge HB hg
    have GE270 := ge HB hg
    replace HB := bs HB hb
    have NB260_270 := nl BK260 hg
    have NB270_260 := nr BK260 hg
    replace BK260 := bb BK260 hb
    have NB261_270 := nl BK261 hg
    have NB270_261 := nr BK261 hg
    replace BK261 := bb BK261 hb
    have NB262_270 := nl BK262 hg
    have NB270_262 := nr BK262 hg
    replace BK262 := bb BK262 hb
    clear hb hbox hg
    refine hK.out _ _ ⟨bc0 BK260, bc1 BK260, bc0 BK261, bc1 BK261⟩ (fun hHeld => ?_)
    clear hK K
    refine norm_ (a' := ?_) ?_ ?_; rotate_left; (show Act.put _ (some 5) _ = _; simp only [sqa, sqb, sqc, sqd, i64_w, i32_w]; rfl)
    exact norm_ (by simp only [putAll, Act.put, List.setIfInBounds_toArray, List.set_cons_zero, List.set_cons_succ]) (hCont (v264, v267, gb270) _ ⟨hHeld, (rk HO265), (rk HO268), (bk BK260), (bk BK261), (bk BK262), (bk BK270), GW270.out, GE270.out, NB260_270.out, NB270_260.out, NB261_270.out, NB270_261.out, NB262_270.out, NB270_262.out, (bw HB)⟩)
   ·skip
    refine box_step ?hg (N := 5) ?hd (cs := #[.slice none 0 0, .slice none 0 0]) (t := 35) ?hr ?_; (case hd => rfl); (case hg => rfl); (case hr => first | (go_simp; done) | (go_simp; rfl))
    intro gb270 hg w18 hbox hb
    replace HO265 := rb HO265 hb
    replace HO268 := rb HO268 hb
    have BK270 := Aside0.mk (hbox)
    have GW270 := ge HB hg
    have GE270 := ge HB hg
    replace HB := bs HB hb
    have NB260_270 := nl BK260 hg
    have NB270_260 := nr BK260 hg
    replace BK260 := bb BK260 hb
    have NB261_270 := nl BK261 hg
    have NB270_261 := nr BK261 hg
    replace BK261 := bb BK261 hb
    have NB262_270 := nl BK262 hg
    have NB270_262 := nr BK262 hg
    replace BK262 := bb BK262 hb
    clear hb hbox hg
    refine hK.out _ _ ⟨bc0 BK260, bc1 BK260, bc0 BK261, bc1 BK261⟩ (fun hHeld => ?_)
    clear hK K
    refine norm_ (a' := ?_) ?_ ?_; rotate_left; (show Act.put _ (some 5) _ = _; simp only [sqa, sqb, sqc, sqd, i64_w, i32_w]; rfl)
    refine on 4 11 (bl 8 63) HT_.out (fun K hK => ?_)
    refine gs Try.func82 #[.agg #[.slice A0_0 l0_0.length c0_0, .slice A0_1 l0_1.length c0_1], .agg #[.int .i64 a1_0, .int .i64 a1_1]] ?_
    with_reducible refine (impl_Vessels_amount.calls _ _ l0_0 _ _ l0_1 a1_0 a1_1 t269 _ ?side1 ?side2 ?side3 ?side4 A4.out).mono ?_
    (case side1 => exact ck HR0_0 HB)
    (case side2 => exact HC0_0.out)
    (case side3 => exact ck HR0_1 HB)
    (case side4 => exact HC0_1.out)
    rintro e w19 ⟨rfl, hb⟩
    refine ⟨_, rfl, ?_⟩
    replace HO265 := rb HO265 hb
    replace HO268 := rb HO268 hb
    replace BK260 := bb BK260 hb
    replace BK261 := bb BK261 hb
    replace BK262 := bb BK262 hb
    replace BK270 := bb BK270 hb
    replace HB := bs HB hb
    (try clear hb); (try clear hb2); (try clear hk); (try clear hi)
    refine hK.out _ _ ⟨bc0 BK260, bc1 BK260, bc0 BK261, bc1 BK261⟩ (fun hHeld => ?_)
    clear hK K
    refine norm_ (a' := ?_) ?_ ?_; rotate_left; (show Act.put _ (some 11) _ = _; simp only [sqa, sqb, sqc, sqd, i64_w, i32_w]; rfl)
    exact norm_ (by simp only [putAll, Act.put, List.setIfInBounds_toArray, List.set_cons_zero, List.set_cons_succ]) (hCont (v264, v267, gb270) _ ⟨hHeld, (rk HO265), (rk HO268), (bk BK260), (bk BK261), (bk BK262), (bk BK270), GW270.out, GE270.out, NB260_270.out, NB270_260.out, NB261_270.out, NB270_261.out, NB262_270.out, NB270_262.out, (bw HB)⟩)
  ·skip
   refine box_step ?hg (N := 5) ?hd (cs := #[.slice none 0 0, .slice none 0 0]) (t := 35) ?hr ?_; (case hd => rfl); (case hg => rfl); (case hr => first | (go_simp; done) | (go_simp; rfl))
   intro gb270 hg w17 hbox hb
   have BK270 := Aside0.mk (hbox)
   have GW270 := ge HB hg
   have GE270 := ge HB hg
   replace HB := bs HB hb
   have NB260_270 := nl BK260 hg
   have NB270_260 := nr BK260 hg
   replace BK260 := bb BK260 hb
   have NB261_270 := nl BK261 hg
   have NB270_261 := nr BK261 hg
   replace BK261 := bb BK261 hb
   have NB262_270 := nl BK262 hg
   have NB270_262 := nr BK262 hg
   replace BK262 := bb BK262 hb
   clear hb hbox hg
   refine hK.out _ _ ⟨bc0 BK260, bc1 BK260, bc0 BK261, bc1 BK261⟩ (fun hHeld => ?_)
   clear hK K
   refine norm_ (a' := ?_) ?_ ?_; rotate_left; (show Act.put _ (some 5) _ = _; simp only [sqa, sqb, sqc, sqd, i64_w, i32_w]; rfl)
   refine on 1 8 (bl 8 47) HT_.out (fun K hK => ?_)
   refine gs Try.func71 #[.agg #[.slice A0_0 l0_0.length c0_0, .slice A0_1 l0_1.length c0_1]] ?_
   with_reducible refine (impl_Vessels_own.calls _ _ l0_0 _ _ l0_1 t263 t266 _ ?side1 ?side2 ?side3 ?side4 A3.out).mono ?_
   (case side1 => exact ck HR0_0 HB)
   (case side2 => exact HC0_0.out)
   (case side3 => exact ck HR0_1 HB)
   (case side4 => exact HC0_1.out)
   rintro e w18 ⟨v264, v267, rfl, ho0, ho1, hb⟩
   refine ⟨_, rfl, ?_⟩
   have HO265 := lo ho0 HB
   have HO268 := lo ho1 HB
   replace BK260 := bb BK260 hb
   replace BK261 := bb BK261 hb
   replace BK262 := bb BK262 hb
   replace BK270 := bb BK270 hb
   replace HB := bs HB hb
   (try clear hb); (try clear hb2); (try clear hk); (try clear hi); (try clear ho0); (try clear ho1)
   refine hK.out _ _ ⟨bc0 BK260, bc1 BK260, bc0 BK261, bc1 BK261⟩ (fun hHeld => ?_)
   clear hK K
   refine norm_ (a' := ?_) ?_ ?_; rotate_left; (show Act.put _ (some 8) _ = _; simp only [sqa, sqb, sqc, sqd, i64_w, i32_w]; rfl)
   refine on 4 11 (bl 8 63) HT_.out (fun K hK => ?_)
   refine gs Try.func82 #[.agg #[.slice A0_0 l0_0.length c0_0, .slice A0_1 l0_1.length c0_1], .agg #[.int .i64 a1_0, .int .i64 a1_1]] ?_
   with_reducible refine (impl_Vessels_amount.calls _ _ l0_0 _ _ l0_1 a1_0 a1_1 t269 _ ?side1 ?side2 ?side3 ?side4 A4.out).mono ?_
   (case side1 => exact ck HR0_0 HB)
   (case side2 => exact HC0_0.out)
   (case side3 => exact ck HR0_1 HB)
   (case side4 => exact HC0_1.out)
   rintro e w19 ⟨rfl, hb⟩
   refine ⟨_, rfl, ?_⟩
   replace HO265 := rb HO265 hb
   replace HO268 := rb HO268 hb
   replace BK260 := bb BK260 hb
   replace BK261 := bb BK261 hb
   replace BK262 := bb BK262 hb
   replace BK270 := bb BK270 hb
   replace HB := bs HB hb
   (try clear hb); (try clear hb2); (try clear hk); (try clear hi)
   refine hK.out _ _ ⟨bc0 BK260, bc1 BK260, bc0 BK261, bc1 BK261⟩ (fun hHeld => ?_)
   clear hK K
   refine norm_ (a' := ?_) ?_ ?_; rotate_left; (show Act.put _ (some 11) _ = _; simp only [sqa, sqb, sqc, sqd, i64_w, i32_w]; rfl)
   exact norm_ (by simp only [putAll, Act.put, List.setIfInBounds_toArray, List.set_cons_zero, List.set_cons_succ]) (hCont (v264, v267, gb270) _ ⟨hHeld, (rk HO265), (rk HO268), (bk BK260), (bk BK261), (bk BK262), (bk BK270), GW270.out, GE270.out, NB260_270.out, NB270_260.out, NB261_270.out, NB270_261.out, NB262_270.out, NB270_262.out, (bw HB)⟩)
 rintro ⟨v264, v267, gb270⟩ w20 ⟨hS_, h0_, h1_, h2_, h3_, h4_, h5_, h6_, h7_, h8_, h9_, h10_, h11_, h12_, h13_, h14_⟩
 have HO265 := Aside0.mk h0_
 have HO268 := Aside0.mk h1_
 replace BK260 := Aside0.mk h2_
 replace BK261 := Aside0.mk h3_
 replace BK262 := Aside0.mk h4_
 have BK270 := Aside0.mk h5_
 have GW270 := GeC.mk h6_
 have GE270 := GeC.mk h7_
 have NB260_270 := NeC.mk h8_
 have NB270_260 := NeC.mk h9_
 have NB261_270 := NeC.mk h10_
 have NB270_261 := NeC.mk h11_
 have NB262_270 := NeC.mk h12_
 have NB270_262 := NeC.mk h13_
 replace HB := Aside0.mk h14_
 clear h0_ h1_ h2_ h3_ h4_ h5_ h6_ h7_ h8_ h9_ h10_ h11_ h12_ h13_ h14_
 have hHeld : w20.cell? ⟨gb260, 0, none⟩ = some (.slice A0_0 l0_0.length c0_0) ∧ w20.cell? ⟨gb260, 1, none⟩ = some (.slice A0_1 l0_1.length c0_1) ∧ w20.cell? ⟨gb261, 0, none⟩ = some (.int .i64 a1_0) ∧ w20.cell? ⟨gb261, 1, none⟩ = some (.int .i64 a1_1) := hS_
 obtain ⟨Ao21, co21, eo21⟩ := Kd.R_slice HO265.out
 (first | subst eo21 | (injection eo21 with f1_ f2_ f3_; have f4_ := f1_.symm; have f5_ := f3_.symm; clear f1_ f2_ f3_; subst f4_; subst f5_))
 obtain ⟨Ao23, co23, eo23⟩ := Kd.R_slice HO268.out
 (first | subst eo23 | (injection eo23 with f1_ f2_ f3_; have f4_ := f1_.symm; have f5_ := f3_.symm; clear f1_ f2_ f3_; subst f4_; subst f5_))
 refine norm_ (a' := ?_) ?_ ?_
 rotate_left
 ·simp only [putAll, Act.put, List.setIfInBounds_toArray, List.set_cons_zero, List.set_cons_succ]
  rfl
 refine one_ (i := 6) (N := none) (bl 8 127) rfl rfl (one_of HT_.out (by kernel_rfl)) (by decide) (fun K hK => ?_)
 have hs22 : w20.cell? ⟨gb270, 0, none⟩ = some (.slice none 0 0) := bc0 BK270
 have hfs22 := blk_frozen BK270.out 0
 have hns22_0 := NB260_270.out
 have hns22_1 := NB261_270.out
 have hns22_2 := NB262_270.out
 have hms22_0 := NB270_260.out
 have hms22_1 := NB270_261.out
 have hms22_2 := NB270_262.out
 have hs24 : w20.cell? ⟨gb270, 1, none⟩ = some (.slice none 0 0) := bc1 BK270
 have hfs24 := blk_frozen BK270.out 1
 have hns24_0 := NB260_270.out
 have hns24_1 := NB261_270.out
 have hns24_2 := NB262_270.out
 have hms24_0 := NB270_260.out
 have hms24_1 := NB270_261.out
 have hms24_2 := NB270_262.out
 refine skip_ (w1 := ?_) (by rfl) rfl ?_ ?_
 rotate_left
 ·go_simp
  rfl
 refine hK.out _ _ ⟨((cell_far (p := ⟨gb270, _, none⟩) NB260_270.out _).trans (((cell_far (p := ⟨gb270, _, none⟩) NB260_270.out _).trans (hHeld.1)))), ((cell_far (p := ⟨gb270, _, none⟩) NB260_270.out _).trans (((cell_far (p := ⟨gb270, _, none⟩) NB260_270.out _).trans (hHeld.2.1)))), ((cell_far (p := ⟨gb270, _, none⟩) NB261_270.out _).trans (((cell_far (p := ⟨gb270, _, none⟩) NB261_270.out _).trans (hHeld.2.2.1)))), ((cell_far (p := ⟨gb270, _, none⟩) NB261_270.out _).trans (((cell_far (p := ⟨gb270, _, none⟩) NB261_270.out _).trans (hHeld.2.2.2))))⟩ (fun hHeld => ?_)
 clear hK K
 refine pu 7 6 (bl 8 255) HT_.out (v := ?_) (a' := ?_) ?_ ?_ ?_
 rotate_left; (intro w'; go_simp; with_reducible rfl); rotate_left; (simp only [sqa, sqb, sqc, sqd, i64_w, i32_w]; rfl)
 refine done_ (done_of HT_.out (by kernel_rfl)) ?_
 have n0_ : Aside0 (Kd.R (Kd.int .i64) 3 ((w20.setCell ⟨gb270, 0, none⟩ (.slice Ao21 t263.length co21)).setCell ⟨gb270, 1, none⟩ (.slice Ao23 t266.length co23)) w.heap.size (fun k_ => some k_ ≠ (.slice Ao23 t266.length co23 : Value).ownBlock) (.slice Ao21 t263.length co21) t263) := ⟨by exact Kd.R_mono (Kd.R_far (p := ⟨gb270, 1, none⟩) (Kd.R_far (p := ⟨gb270, 0, none⟩) (Kd.R_types HO265.out BK270.out (by decide)) (fun _ hk => hk.2) (.slice Ao21 t263.length co21)) (fun _ hk => hk.2) (.slice Ao23 t266.length co23)) (fun _ hk => hk.1)⟩
 have n1_ : Aside0 (Kd.R (Kd.int .i64) 3 ((w20.setCell ⟨gb270, 0, none⟩ (.slice Ao21 t263.length co21)).setCell ⟨gb270, 1, none⟩ (.slice Ao23 t266.length co23)) w.heap.size (fun k_ => some k_ ≠ (.slice Ao21 t263.length co21 : Value).ownBlock) (.slice Ao23 t266.length co23) t266) := ⟨by exact Kd.R_mono (Kd.R_far (p := ⟨gb270, 1, none⟩) (Kd.R_far (p := ⟨gb270, 0, none⟩) (Kd.R_types HO268.out BK270.out (by decide)) (fun _ hk => hk.2) (.slice Ao21 t263.length co21)) (fun _ hk => hk.2) (.slice Ao23 t266.length co23)) (fun _ hk => hk.1)⟩
 have n2_ : Aside0 (((w20.setCell ⟨gb270, 0, none⟩ (.slice Ao21 t263.length co21)).setCell ⟨gb270, 1, none⟩ (.slice Ao23 t266.length co23)).heap[gb260]? = some (.cells #[.slice A0_0 l0_0.length c0_0, .slice A0_1 l0_1.length c0_1] 35 (0, 0))) := ⟨bk BK260⟩
 have n3_ : Aside0 (((w20.setCell ⟨gb270, 0, none⟩ (.slice Ao21 t263.length co21)).setCell ⟨gb270, 1, none⟩ (.slice Ao23 t266.length co23)).heap[gb261]? = some (.cells #[.int .i64 a1_0, .int .i64 a1_1] 55 (0, 0))) := ⟨bk BK261⟩
 have n4_ : Aside0 (((w20.setCell ⟨gb270, 0, none⟩ (.slice Ao21 t263.length co21)).setCell ⟨gb270, 1, none⟩ (.slice Ao23 t266.length co23)).heap[gb262]? = some (.cells #[.slice none 0 0, .slice none 0 0] 35 (0, 0))) := ⟨bk BK262⟩
 have n5_ : Aside0 (((w20.setCell ⟨gb270, 0, none⟩ (.slice Ao21 t263.length co21)).setCell ⟨gb270, 1, none⟩ (.slice Ao23 t266.length co23)).heap[gb270]? = some (.cells #[.slice Ao21 t263.length co21, .slice Ao23 t266.length co23] 35 (0, 0))) := ⟨by refine blk_put (cs := #[.slice Ao21 t263.length co21, .slice none 0 0]) ?_ 1 _ rfl; refine blk_put (cs := #[.slice none 0 0, .slice none 0 0]) ?_ 0 _ rfl; exact bk BK270⟩
 have n6_ : Aside0 (Below w.heap.size w ((w20.setCell ⟨gb270, 0, none⟩ (.slice Ao21 t263.length co21)).setCell ⟨gb270, 1, none⟩ (.slice Ao23 t266.length co23))) := ⟨bw HB⟩
 (try clear HO265); (try clear HO268); (try clear BK260); (try clear BK261); (try clear BK262); (try clear BK270); (try clear HB)
 generalize ((w20.setCell ⟨gb270, 0, none⟩ (.slice Ao21 t263.length co21)).setCell ⟨gb270, 1, none⟩ (.slice Ao23 t266.length co23)) = w25 at n0_ n1_ n2_ n3_ n4_ n5_ n6_ ⊢
 have HO265 := n0_
 have HO268 := n1_
 have BK260 := n2_
 have BK261 := n3_
 have BK262 := n4_
 have BK270 := n5_
 have HB := n6_
 clear n0_ n1_ n2_ n3_ n4_ n5_ n6_
 have hnb26 := NB261_260.out
 have hnc26 := NB260_261.out
 have hnb27 := NB261_262.out
 have hnc27 := NB262_261.out
 have hnb28 := NB261_270.out
 have hnc28 := NB270_261.out
 have hcz29_0 := bc0 BK261
 have hcz29_1 := bc1 BK261
 have hfz29_0 := blk_frozen BK261.out 0
 have hfz29_1 := blk_frozen BK261.out 1
 have hnb30 := NB270_260.out
 have hnc30 := NB260_270.out
 have hnb31 := NB270_262.out
 have hnc31 := NB262_270.out
 have hcz32_0 := bc0 BK270
 have hcz32_1 := bc1 BK270
 have hfz32_0 := blk_frozen BK270.out 0
 have hfz32_1 := blk_frozen BK270.out 1
 have p271 : 0 ≤ (a1_0 : Int) := of_decide_eq_true ‹_›
 have q271 : a1_0 < (t266.length : Int) := of_decide_eq_true ‹_›
 obtain ⟨ad271, e271, hx271_0⟩ := Kd.at_int (Kd.R_reads' HO268.out).2.2 a1_0 p271 q271
 cases e271
 replace p271 := eq_true p271
 replace q271 := eq_true q271
 have p8 : 0 ≤ (a1_0 : Int) := of_decide_eq_true ‹_›
 have q8 : (a1_0 : Int) < ((t266.length : Int) : Int) := of_decide_eq_true ‹_›
 obtain ⟨go8, co8, eo8, gb8, gl8, cl8, HG8⟩ := Kd.R_form HO268.out (by omega)
 (first | cases eo8 | (injection eo8 with ea_ en_ ec_; (first | subst ea_ | (injection ea_ with ea_; subst ea_)); subst ec_; clear en_))
 have GB8 := Aside0.mk gb8
 have GG8 := Aside0.mk HG8
 clear gb8 gl8 HG8
 (first | simp only [add_plain] at hx271_0 | skip)
 obtain ⟨hx8_0, hf8_0⟩ := Kd.R_celln 0 HO268.out (a1_0 : Int) p8 q8
 replace p8 := eq_true p8
 replace q8 := eq_true q8
 obtain ⟨hy33_, hz33_⟩ := Kd.R_celln 0 HO268.out (a1_0 : Int) (of_decide_eq_true ‹_›) (of_decide_eq_true ‹_›)
 have HP33 := Kd.R_putg HO268.out (a1_0 : Int) (wrap64 ((rd t266 a1_0) - t269))
 try go_wp2_with (first | ((with_reducible refine gate_store (t := 3) (p := 23) rfl ?_); refine store_event (t := 3) (p := 23) (v := ?vo_w34) (w1 := (w25.setCell ⟨go8, (a1_0 : Int).toNat, none⟩ (.int .i64 (wrap64 ((rd t266 a1_0) - t269))))) ?hg ?ho ?hn ?hr ?_; (case ho => rfl); (case hg => rfl); (case hn => rfl); (case hr => first | (go_simp; done) | (go_simp; rfl)); intro w34 hw; have hg : w25.grownBy w34 (some go8) := (by rw [hw]; exact HP33.2); have hp_ : Kd.R (Kd.int .i64) 3 w34 w.heap.size (fun k_ => some k_ ≠ (.slice Ao21 t263.length co21 : Value).ownBlock) (.slice (some ⟨go8, 0, none⟩) t266.length co23) y272 := (by rw [hw, Ny272.out]; exact HP33.1); clear HP33; replace BK260 := Aside0.mk (blk_grown (g := gb260) (o := .cells #[.slice A0_0 l0_0.length c0_0, .slice A0_1 l0_1.length c0_1] 35 (0, 0)) (bk BK260) hg (Kd.R_ne HO268.out BK260.out (by decide))); replace BK261 := Aside0.mk (blk_grown (g := gb261) (o := .cells #[.int .i64 a1_0, .int .i64 a1_1] 55 (0, 0)) (bk BK261) hg (Kd.R_ne HO268.out BK261.out (by decide))); replace BK262 := Aside0.mk (blk_grown (g := gb262) (o := .cells #[.slice none 0 0, .slice none 0 0] 35 (0, 0)) (bk BK262) hg (Kd.R_ne HO268.out BK262.out (by decide))); replace HO265 := Aside0.mk (Kd.R_after (v := (.slice (some ⟨go8, 0, none⟩) t266.length co23)) (v1 := (.slice (some ⟨go8, 0, none⟩) t266.length co23)) (ok := (fun _ => True)) (by exact Kd.R_mono HO265.out (fun _ hk => ⟨trivial, hk⟩)) hg (.inl rfl)); replace BK270 := Aside0.mk (blk_grown (g := gb270) (o := .cells #[.slice Ao21 t263.length co21, .slice (some ⟨go8, 0, none⟩) t266.length co23] 35 (0, 0)) (bk BK270) hg (Kd.R_ne HO268.out BK270.out (by decide))); replace HO268 := Aside0.mk (hp_); replace HB := Aside0.mk ((by rw [hw]; exact below_set (HB.out) GB8.out : Below w.heap.size w w34)); clear hg hw hp_; have hcz35_0 := bc0 BK261; have hcz35_1 := bc1 BK261; have hfz35_0 := blk_frozen BK261.out 0; have hfz35_1 := blk_frozen BK261.out 1; have hcz36_0 := bc0 BK270; have hcz36_1 := bc1 BK270; have hfz36_0 := blk_frozen BK270.out 0; have hfz36_1 := blk_frozen BK270.out 1; have p273 : 0 ≤ (a1_1 : Int) := of_decide_eq_true ‹_›; have q273 : a1_1 < (y272.length : Int) := (by have h_ : (a1_1 : Int) < ((t266.length : Int) : Int) := of_decide_eq_true ‹_›; first | (have e_ := (Kd.R_reads' HO268.out).1; omega) | simpa only [Ny272.out, List.length_set] using h_); have ql273 : ((a1_1 : Int) < ((t266.length : Int) : Int)) = True := eq_true (of_decide_eq_true ‹_›); obtain ⟨ad273, e273, hx273_0⟩ := Kd.at_int (Kd.R_reads' HO268.out).2.2 a1_1 p273 q273; obtain rfl : (⟨go8, 0, none⟩ : Addr) = ad273 := (by injection e273); (first | simp only [add_plain] at hx273_0 | simp only [add_at] at hx273_0 | simp only [Addr.add, Nat.zero_add] at hx273_0 | skip); replace p273 := eq_true p273; replace q273 := eq_true q273; have p12 : 0 ≤ (a1_1 : Int) := of_decide_eq_true ‹_›; have q12 : (a1_1 : Int) < ((t266.length : Int) : Int) := of_decide_eq_true ‹_›; obtain ⟨hx12_0, hf12_0⟩ := Kd.R_celln 0 HO268.out (a1_1 : Int) p12 q12; replace p12 := eq_true p12; replace q12 := eq_true q12; obtain ⟨hy37_, hz37_⟩ := Kd.R_celln 0 HO268.out (a1_1 : Int) (of_decide_eq_true ‹_›) (of_decide_eq_true ‹_›); have HP37 := Kd.R_putg HO268.out (a1_1 : Int) (wrap64 ((rd y272 a1_1) + t269))) | ((with_reducible refine gate_store (t := 3) (p := 35) rfl ?_); refine store_event (t := 3) (p := 35) (v := ?vo_w38) (w1 := (w34.setCell ⟨go8, (a1_1 : Int).toNat, none⟩ (.int .i64 (wrap64 ((rd y272 a1_1) + t269))))) ?hg ?ho ?hn ?hr ?_; (case ho => rfl); (case hg => rfl); (case hn => rfl); (case hr => first | (go_simp; done) | (go_simp; rfl)); intro w38 hw; have hg : w34.grownBy w38 (some go8) := (by rw [hw]; exact HP37.2); have hp_ : Kd.R (Kd.int .i64) 3 w38 w.heap.size (fun k_ => some k_ ≠ (.slice Ao21 t263.length co21 : Value).ownBlock) (.slice (some ⟨go8, 0, none⟩) t266.length co23) y274 := (by rw [hw, Ny274.out]; exact HP37.1); clear HP37; replace BK260 := Aside0.mk (blk_grown (g := gb260) (o := .cells #[.slice A0_0 l0_0.length c0_0, .slice A0_1 l0_1.length c0_1] 35 (0, 0)) (bk BK260) hg (Kd.R_ne HO268.out BK260.out (by decide))); replace BK261 := Aside0.mk (blk_grown (g := gb261) (o := .cells #[.int .i64 a1_0, .int .i64 a1_1] 55 (0, 0)) (bk BK261) hg (Kd.R_ne HO268.out BK261.out (by decide))); replace BK262 := Aside0.mk (blk_grown (g := gb262) (o := .cells #[.slice none 0 0, .slice none 0 0] 35 (0, 0)) (bk BK262) hg (Kd.R_ne HO268.out BK262.out (by decide))); replace HO265 := Aside0.mk (Kd.R_after (v := (.slice (some ⟨go8, 0, none⟩) t266.length co23)) (v1 := (.slice (some ⟨go8, 0, none⟩) t266.length co23)) (ok := (fun _ => True)) (rk HO265) hg (.inl rfl)); replace BK270 := Aside0.mk (blk_grown (g := gb270) (o := .cells #[.slice Ao21 t263.length co21, .slice (some ⟨go8, 0, none⟩) t266.length co23] 35 (0, 0)) (bk BK270) hg (Kd.R_ne HO268.out BK270.out (by decide))); replace HO268 := Aside0.mk (hp_); replace HB := Aside0.mk ((by rw [hw]; exact below_set (HB.out) GB8.out : Below w.heap.size w w38)); clear hg hw hp_; have hcz39_0 := bc0 BK270; have hcz39_1 := bc1 BK270; have hfz39_0 := blk_frozen BK270.out 0; have hfz39_1 := blk_frozen BK270.out 1; have hnb40 := NB262_260.out; have hnc40 := NB260_262.out; have hcz41_0 := bc0 BK262; have hcz41_1 := bc1 BK262; have hfz41_0 := blk_frozen BK262.out 0; have hfz41_1 := blk_frozen BK262.out 1))
 refine bodyPost_ret (results_cell_row rfl _ _ gb262 35 #[.slice Ao21 t263.length co21, .slice (some ⟨go8, 0, none⟩) t266.length co23] (0, 0) _ rfl (by refine blk_put (cs := #[.slice Ao21 t263.length co21, .slice none 0 0]) ?_ 1 _ rfl; refine blk_put (cs := #[.slice none 0 0, .slice none 0 0]) ?_ 0 _ rfl; exact bk BK262) Try.underlying35 rfl (by kernel_rfl)) rfl ?_
 exact ⟨_, _, by first | rfl | (simp [errW_none, errW_some] <;> rfl) | (simp [*, errW_none, errW_some] <;> rfl), by exact Kd.R_mono (Kd.R_far (p := ⟨gb262, 1, none⟩) (Kd.R_far (p := ⟨gb262, 0, none⟩) (Kd.R_types HO265.out BK262.out (by decide)) (fun _ hk => hk.2) (.slice Ao21 t263.length co21)) (fun _ hk => hk.2) (.slice (some ⟨go8, 0, none⟩) t266.length co23)) (fun _ hk => hk.1.2), by exact Kd.R_mono (Kd.R_far (p := ⟨gb262, 1, none⟩) (Kd.R_far (p := ⟨gb262, 0, none⟩) (Kd.R_types HO268.out BK262.out (by decide)) (fun _ hk => hk.2) (.slice Ao21 t263.length co21)) (fun _ hk => hk.2) (.slice (some ⟨go8, 0, none⟩) t266.length co23)) (fun _ hk => hk.1), bw HB⟩
def impl_within.f (a0 : Int) (a1 : Int) (a2 : Int) : Option (Bool) := if a1 ≤ a0 then (some (decide (a0 ≤ a2))) else (some false)
set_option maxHeartbeats 8000000 in
set_option maxRecDepth 100000 in
theorem impl_within.calls (a0 : Int) (a1 : Int) (a2 : Int) (r : Bool) (w : World) (h : impl_within.f a0 a1 a2 = some r) :
  Calls Try.prog 46 #[.int .i64 a0, .int .i64 a1, .int .i64 a2] w fun e w' => e = .returned (.bool r) ∧ Drawn0 w w' := by
 have H : (if a1 ≤ a0 then (some (decide (a0 ≤ a2))) else (some false)) = some r := h
 clear h
 by_cases c4 : a1 ≤ a0
 rotate_left
 ·rw [if_neg c4] at H
  have c4b0 : decide (a1 ≤ a0) = false := decide_eq_false c4
  clear c4
  obtain rfl := Option.some.inj H
  go_enter Try.func46, Try.ntmps46
  go_wp2
  go_ret
  exact ⟨by first | rfl | (simp; done) | (simp [*]; done), by repeat (first | exact Drawn0.refl _ | apply Drawn0.step)⟩
 rw [if_pos c4] at H
 have c4b0 : decide (a1 ≤ a0) = true := decide_eq_true c4
 clear c4
 obtain rfl := Option.some.inj H
 go_enter Try.func46, Try.ntmps46
 go_wp2
 go_ret
 exact ⟨by first | rfl | (simp; done) | (simp [*]; done), by repeat (first | exact Drawn0.refl _ | apply Drawn0.step)⟩
def impl_areWithin.f (l0 : List Int) (a1 : Int) (a2 : Int) : Option Bool := some (l0.all fun x => decide (a1 ≤ x ∧ x ≤ a2))
theorem impl_areWithin.calls (A0 : Option Addr) (c0 : Nat) (l0 : List Int) (a1 : Int) (a2 : Int) (r : Bool) (w : World) (hr0 : Kd.C (Kd.int .i64) w A0 l0.length l0) (hc0 : l0.length ≤ c0) (h : impl_areWithin.f l0 a1 a2 = some r) :
  Calls Try.prog 86 #[.slice A0 l0.length c0, .int .i64 a1, .int .i64 a2] w fun e w' => e = .returned (.bool r) ∧ Below w.heap.size w w' := by
 obtain rfl := Option.some.inj h
 exact Go.Proofs.Ytieioddimkafbaa.Gv.areWithin_calls A0 c0 l0 a1 a2 w hr0
mutual
def impl_AreVessels.j0 : Nat → Bool → List Int → List Int → Option (Bool)
 | 0, _, _, _ => none
 | k + 1, x24, x278000, x278001 => if x24 = true then (some false) else (impl_AreVessels.l0 k x278001 (x278001.length : Int) 0 x278000 x278001)
def impl_AreVessels.l0 : Nat → List Int → Int → Int → List Int → List Int → Option (Bool)
 | 0, _, _, _, _, _ => none
 | k + 1, x26, x27, x28, x278000, x278001 => if x28 < x27 then (if 0 ≤ x28 then (if x28 < (x26.length : Int) then (if x28 < (x278000.length : Int) then ((impl_within.f (rd x26 x28) 0 (rd x278000 x28)).bind fun t282 => (if t282 = true then (impl_AreVessels.l0 k x26 x27 (wrap64 (x28 + 1)) x278000 x278001) else (some false))) else (none)) else (none)) else (none)) else (some true)
end
def impl_AreVessels.f (k : Nat) (l0_0 : List Int) (l0_1 : List Int) : Option (Bool) := (impl_within.f (l0_0.length : Int) 1 5).bind fun t278 => (if t278 = true then (if (l0_1.length : Int) = (l0_0.length : Int) then ((impl_areWithin.f l0_0 1 60).bind fun t279 => (impl_AreVessels.j0 k (!t279) l0_0 l0_1)) else (impl_AreVessels.j0 k true l0_0 l0_1)) else (impl_AreVessels.j0 k true l0_0 l0_1))
set_option maxHeartbeats 8000000 in
set_option maxRecDepth 100000 in
theorem impl_AreVessels.calls (k : Nat) (A0_0 : Option Addr) (c0_0 : Nat) (l0_0 : List Int) (A0_1 : Option Addr) (c0_1 : Nat) (l0_1 : List Int) (r : Bool) (w : World) (hr0_0 : Kd.C (Kd.int .i64) w A0_0 l0_0.length l0_0) (hc0_0 : l0_0.length ≤ c0_0) (hr0_1 : Kd.C (Kd.int .i64) w A0_1 l0_1.length l0_1) (hc0_1 : l0_1.length ≤ c0_1) (h : impl_AreVessels.f k l0_0 l0_1 = some r) :
  Calls Try.prog 70 #[.agg #[.slice A0_0 l0_0.length c0_0, .slice A0_1 l0_1.length c0_1]] w fun e w' => e = .returned (.bool r) ∧ Below w.heap.size w w' := by
 have hu35 := Try.underlying35
 have HR0_0 := Aside0.mk hr0_0
 have HC0_0 := Aside0.mk hc0_0
 clear hr0_0 hc0_0
 have HR0_1 := Aside0.mk hr0_1
 have HC0_1 := Aside0.mk hc0_1
 clear hr0_1 hc0_1
 have HB := Aside0.mk (Below.refl w.heap.size w)
 have H : ((impl_within.f (l0_0.length : Int) 1 5).bind fun t278 => (if t278 = true then (if (l0_1.length : Int) = (l0_0.length : Int) then ((impl_areWithin.f l0_0 1 60).bind fun t279 => (impl_AreVessels.j0 k (!t279) l0_0 l0_1)) else (impl_AreVessels.j0 k true l0_0 l0_1)) else (impl_AreVessels.j0 k true l0_0 l0_1))) = some r := h
 clear h
 have HC2 := Aside0.mk H
 clear H
 go_enter Try.func70, Try.ntmps70
 go_upto_region 1 with (first | ((with_reducible refine gate_dst (N := 1) rfl ?_); (try (refine gate_guard (by rfl) ?_; dsimp only)); refine bx 1 #[.slice A0_0 l0_0.length c0_0, .slice A0_1 l0_1.length c0_1] 35 ?_; intro gb277 hg w3 hbox hb; have BK277 := Aside0.mk (hbox); have GW277 := ge HB hg; have GE277 := ge HB hg; replace HB := bs HB hb; clear hb hbox hg))
 (try simp only [Act.put, List.setIfInBounds_toArray, List.set_cons_zero, List.set_cons_succ])
 go_cut [24] (fun v24 wc => ∃ (kq : Nat) (x24_1 : Bool), v24 = .bool x24_1 ∧ Aside0 (impl_AreVessels.j0 kq x24_1 l0_0 l0_1 = some r) ∧ Aside0 (kq ≤ k) ∧ Aside0 (wc.heap[gb277]? = some (.cells #[(.slice A0_0 l0_0.length c0_0), (.slice A0_1 l0_1.length c0_1)] 35 (0, 0))) ∧ Aside0 (Below w.heap.size w wc))
 case first =>
  have H := HC2.out
  clear HC2
  replace H := Option.bind_eq_some_iff.mp H
  obtain ⟨t278, A40, H⟩ := H
  (try dsimp only at H)
  have A4 := Aside0.mk A40
  clear A40
  by_cases c5 : t278 = true
  rotate_left
  ·replace c5 := Bool.eq_false_iff.mpr c5
   subst c5
   have H1 : (impl_AreVessels.j0 k true l0_0 l0_1) = some r := by rw [if_neg (show ¬ (false = true) by decide)] at H; exact H
   clear H
   have H := H1
   clear H1
   have H' := Aside0.mk H
   clear H
   have hcz11_0 := bc0 BK277
   have hcz11_1 := bc1 BK277
   have hfz11_0 := blk_frozen BK277.out 0
   have hfz11_1 := blk_frozen BK277.out 1
   go_wp2_with (first | ((with_reducible refine gate_callee (f := 46) rfl ?_); refine gl 8 Try.func46 #[.int .i64 (l0_0.length : Int), .int .i64 1, .int .i64 5] ?_; (with_reducible refine (impl_within.calls (l0_0.length : Int) 1 5 false _ A4.out).mono ?_); rintro e w' ⟨rfl, ⟨nd, rfl⟩⟩; refine ⟨_, rfl, ?_⟩))
   go_meet
   case rel => exact ⟨_, (true), (by first | rfl | (simp; done) | (simp [*]; done)), H', ⟨by first | omega | exact Nat.le_refl _⟩, ⟨bk BK277⟩, ⟨bw HB⟩⟩
  subst c5
  have H1 : (if (l0_1.length : Int) = (l0_0.length : Int) then ((impl_areWithin.f l0_0 1 60).bind fun t279 => (impl_AreVessels.j0 k (!t279) l0_0 l0_1)) else (impl_AreVessels.j0 k true l0_0 l0_1)) = some r := by rw [if_pos rfl] at H; exact H
  clear H
  have H := H1
  clear H1
  by_cases c6 : (l0_1.length : Int) = (l0_0.length : Int)
  rotate_left
  ·rw [if_neg c6] at H
   have c6b0 : ((l0_1.length : Int) == (l0_0.length : Int)) = false := beq_eq_false_iff_ne.mpr c6
   have c6b1 : ((l0_1.length : Int) != (l0_0.length : Int)) = true := bne_iff_ne.mpr c6
   have c6b2 : (l0_1.length == l0_0.length) = false := by first | simpa using c6 | (simp at c6 ⊢; omega)
   (first | rw [c6b0] | (simp only [i64_w, i32_w]; rw [c6b0]) | skip)
   have H' := Aside0.mk H
   clear H
   have hcz10_0 := bc0 BK277
   have hcz10_1 := bc1 BK277
   have hfz10_0 := blk_frozen BK277.out 0
   have hfz10_1 := blk_frozen BK277.out 1
   go_wp2_with (first | ((with_reducible refine gate_callee (f := 46) rfl ?_); refine gl 8 Try.func46 #[.int .i64 (l0_0.length : Int), .int .i64 1, .int .i64 5] ?_; (with_reducible refine (impl_within.calls (l0_0.length : Int) 1 5 true _ A4.out).mono ?_); rintro e w' ⟨rfl, ⟨nd, rfl⟩⟩; refine ⟨_, rfl, ?_⟩))
   go_meet
   case rel => exact ⟨_, (true), (by first | rfl | (simp; done) | (simp [*]; done)), H', ⟨by first | omega | exact Nat.le_refl _⟩, ⟨bk BK277⟩, ⟨bw HB⟩⟩
  rw [if_pos c6] at H
  have c6b0 : ((l0_1.length : Int) == (l0_0.length : Int)) = true := beq_iff_eq.mpr c6
  have c6b1 : ((l0_1.length : Int) != (l0_0.length : Int)) = false := bne_eq_false_iff_eq.mpr c6
  have c6b2 : (l0_1.length == l0_0.length) = true := by first | simpa using c6 | (simp at c6 ⊢; omega)
  clear c6
  (first | rw [c6b0] | (simp only [i64_w, i32_w]; rw [c6b0]) | skip)
  replace H := Option.bind_eq_some_iff.mp H
  obtain ⟨t279, A70, H⟩ := H
  (try dsimp only at H)
  have A7 := Aside0.mk A70
  clear A70
  have H' := Aside0.mk H
  clear H
  have hcz8_0 := bc0 BK277
  have hcz8_1 := bc1 BK277
  have hfz8_0 := blk_frozen BK277.out 0
  have hfz8_1 := blk_frozen BK277.out 1
  go_wp2_with (first | ((with_reducible refine gate_callee (f := 46) rfl ?_); refine gl 8 Try.func46 #[.int .i64 (l0_0.length : Int), .int .i64 1, .int .i64 5] ?_; (with_reducible refine (impl_within.calls (l0_0.length : Int) 1 5 true _ A4.out).mono ?_); rintro e w' ⟨rfl, ⟨nd, rfl⟩⟩; refine ⟨_, rfl, ?_⟩) | (go_at_call 86; (with_reducible refine (impl_areWithin.calls _ _ l0_0 1 60 t279 _ ?side1 ?side2 A7.out).mono ?_); (case side1 => repeat (first | exact (Kd.C_below HR0_0.out (bw HB)) | (with_reducible refine Kd.C_alloc ?_ _) | (with_reducible refine Kd.C_drewN ?_ _) | (with_reducible refine Kd.C_drew ?_))); (case side2 => exact HC0_0.out); rintro e w9 ⟨rfl, hb⟩; replace BK277 := bb BK277 hb; replace HB := bs HB hb; (try clear hb)))
  go_meet
  case rel => exact ⟨_, (!t279), (by first | rfl | (simp; done) | (simp [*]; done)), H', ⟨by first | omega | exact Nat.le_refl _⟩, ⟨bk BK277⟩, ⟨bw HB⟩⟩
 case rest =>
  clear HC2
  try clear p2
  try clear c4
  try clear c5
  try clear c6
  try clear c6b0
  try clear c6b1
  try clear c6b2
  try clear c7
  try clear hcz10_0
  try clear hcz10_1
  try clear hcz11_0
  try clear hcz11_1
  try clear hcz8_0
  try clear hcz8_1
  try clear hfz10_0
  try clear hfz10_1
  try clear hfz11_0
  try clear hfz11_1
  try clear hfz8_0
  try clear hfz8_1
  obtain ⟨kq, x24_1, rfl, HA, HJ1, BK277, HB⟩ := hcut
  cases kq with
  | zero => exact absurd HA.out (by simp [impl_AreVessels.j0])
  | succ kj1 =>
   have H := HA.out
   clear HA
   simp only [impl_AreVessels.j0] at H
   by_cases c12 : x24_1 = true
   ·subst c12
    have H1 : (some false) = some r := by rw [if_pos rfl] at H; exact H
    clear H
    have H := H1
    clear H1
    obtain rfl := Option.some.inj H
    go_wp2
    go_ret
    exact ⟨by first | rfl | (simp [errW_none, errW_some] <;> rfl) | (simp [*, errW_none, errW_some] <;> rfl), bw HB⟩
   replace c12 := Bool.eq_false_iff.mpr c12
   subst c12
   have H1 : (impl_AreVessels.l0 kj1 l0_1 (l0_1.length : Int) 0 l0_0 l0_1) = some r := by rw [if_neg (show ¬ (false = true) by decide)] at H; exact H
   clear H
   have H := H1
   clear H1
   have H' := Aside0.mk H
   clear H
   have hcz13_0 := bc0 BK277
   have hcz13_1 := bc1 BK277
   have hfz13_0 := blk_frozen BK277.out 0
   have hfz13_1 := blk_frozen BK277.out 1
   go_wp2
   try simp only [Act.put, List.setIfInBounds_toArray, List.set_cons_zero, List.set_cons_succ]
   go_loopg [28] kj1 (fun kq v28 w' => ∃ (x28_2 : Int), v28 = .int .i64 x28_2 ∧ Aside0 (impl_AreVessels.l0 kq l0_1 (l0_1.length : Int) x28_2 l0_0 l0_1 = some r) ∧ Aside0 (kq ≤ kj1) ∧ Aside0 (w'.heap[gb277]? = some (.cells #[(.slice A0_0 l0_0.length c0_0), (.slice A0_1 l0_1.length c0_1)] 35 (0, 0))) ∧ Aside0 (Below w.heap.size w w'))
   case atStart => exact ⟨(0), (by first | rfl | (simp; done) | (simp [*]; done)), H', ⟨Nat.le_refl _⟩, ⟨bk BK277⟩, ⟨bw HB⟩⟩
   case round =>
    clear H'
    try clear c1
    try clear p2
    try clear c4
    try clear c5
    try clear c6
    try clear c6b0
    try clear c6b1
    try clear c6b2
    try clear c7
    try clear c12
    try clear hcz10_0
    try clear hcz10_1
    try clear hcz11_0
    try clear hcz11_1
    try clear hcz13_0
    try clear hcz13_1
    try clear hcz8_0
    try clear hcz8_1
    try clear hfz10_0
    try clear hfz10_1
    try clear hfz11_0
    try clear hfz11_1
    try clear hfz13_0
    try clear hfz13_1
    try clear hfz8_0
    try clear hfz8_1
    try clear p2
    obtain ⟨x28_2, rfl, HA, HK2, BK277, HB⟩ := hrel
    cases gk with
    | zero => exact absurd HA.out (by simp [impl_AreVessels.l0])
    | succ k2 =>
     have H := HA.out
     clear HA
     simp only [impl_AreVessels.l0] at H
     by_cases c14 : x28_2 < (l0_1.length : Int)
     rotate_left
     ·rw [if_neg c14] at H
      have c14b0 : decide (x28_2 < (l0_1.length : Int)) = false := decide_eq_false c14
      clear c14
      obtain rfl := Option.some.inj H
      go_wp2
      go_ret
      exact ⟨by first | rfl | (simp [errW_none, errW_some] <;> rfl) | (simp [*, errW_none, errW_some] <;> rfl), bw HB⟩
     rw [if_pos c14] at H
     have c14b0 : decide (x28_2 < (l0_1.length : Int)) = true := decide_eq_true c14
     clear c14
     by_cases c15 : 0 ≤ x28_2
     rotate_left
     ·rw [if_neg c15] at H
      exact absurd H (by simp)
     rw [if_pos c15] at H
     have c15b0 : decide (0 ≤ x28_2) = true := decide_eq_true c15
     clear c15
     by_cases c16 : x28_2 < (l0_1.length : Int)
     rotate_left
     ·rw [if_neg c16] at H
      exact absurd H (by simp)
     rw [if_pos c16] at H
     have c16b0 : decide (x28_2 < (l0_1.length : Int)) = true := decide_eq_true c16
     clear c16
     by_cases c17 : x28_2 < (l0_0.length : Int)
     rotate_left
     ·rw [if_neg c17] at H
      exact absurd H (by simp)
     rw [if_pos c17] at H
     have c17b0 : decide (x28_2 < (l0_0.length : Int)) = true := decide_eq_true c17
     clear c17
     replace H := Option.bind_eq_some_iff.mp H
     obtain ⟨t282, A180, H⟩ := H
     (try dsimp only at H)
     have A18 := Aside0.mk A180
     clear A180
     by_cases c19 : t282 = true
     rotate_left
     ·replace c19 := Bool.eq_false_iff.mpr c19
      subst c19
      have H1 : (some false) = some r := by rw [if_neg (show ¬ (false = true) by decide)] at H; exact H
      clear H
      have H := H1
      clear H1
      obtain rfl := Option.some.inj H
      have p280 : 0 ≤ (x28_2 : Int) := of_decide_eq_true ‹_›
      have q280 : x28_2 < (l0_1.length : Int) := of_decide_eq_true ‹_›
      obtain ⟨ad280, e280, hx280_0⟩ := Kd.at_int HR0_1.out x28_2 p280 q280
      cases e280
      replace hx280_0 := (HB.out.cell (World.block_lt_of_cell? w _ hx280_0)).trans hx280_0
      replace p280 := eq_true p280
      replace q280 := eq_true q280
      have hcz21_0 := bc0 BK277
      have hcz21_1 := bc1 BK277
      have hfz21_0 := blk_frozen BK277.out 0
      have hfz21_1 := blk_frozen BK277.out 1
      have p281 : 0 ≤ (x28_2 : Int) := of_decide_eq_true ‹_›
      have q281 : x28_2 < (l0_0.length : Int) := of_decide_eq_true ‹_›
      obtain ⟨ad281, e281, hx281_0⟩ := Kd.at_int HR0_0.out x28_2 p281 q281
      cases e281
      replace hx281_0 := (HB.out.cell (World.block_lt_of_cell? w _ hx281_0)).trans hx281_0
      replace p281 := eq_true p281
      replace q281 := eq_true q281
      go_wp2_with (first | ((with_reducible refine gate_callee (f := 46) rfl ?_); refine gl 39 Try.func46 #[.int .i64 (rd l0_1 x28_2), .int .i64 0, .int .i64 (rd l0_0 x28_2)] ?_; (with_reducible refine (impl_within.calls (rd l0_1 x28_2) 0 (rd l0_0 x28_2) false _ A18.out).mono ?_); rintro e w' ⟨rfl, ⟨nd, rfl⟩⟩; refine ⟨_, rfl, ?_⟩))
      go_ret
      exact ⟨by first | rfl | (simp [errW_none, errW_some] <;> rfl) | (simp [*, errW_none, errW_some] <;> rfl), bw HB⟩
     subst c19
     have H1 : (impl_AreVessels.l0 k2 l0_1 (l0_1.length : Int) (wrap64 (x28_2 + 1)) l0_0 l0_1) = some r := by rw [if_pos rfl] at H; exact H
     clear H
     have H := H1
     clear H1
     have H' := Aside0.mk H
     clear H
     have p280 : 0 ≤ (x28_2 : Int) := of_decide_eq_true ‹_›
     have q280 : x28_2 < (l0_1.length : Int) := of_decide_eq_true ‹_›
     obtain ⟨ad280, e280, hx280_0⟩ := Kd.at_int HR0_1.out x28_2 p280 q280
     cases e280
     replace hx280_0 := (HB.out.cell (World.block_lt_of_cell? w _ hx280_0)).trans hx280_0
     replace p280 := eq_true p280
     replace q280 := eq_true q280
     have hcz20_0 := bc0 BK277
     have hcz20_1 := bc1 BK277
     have hfz20_0 := blk_frozen BK277.out 0
     have hfz20_1 := blk_frozen BK277.out 1
     have p281 : 0 ≤ (x28_2 : Int) := of_decide_eq_true ‹_›
     have q281 : x28_2 < (l0_0.length : Int) := of_decide_eq_true ‹_›
     obtain ⟨ad281, e281, hx281_0⟩ := Kd.at_int HR0_0.out x28_2 p281 q281
     cases e281
     replace hx281_0 := (HB.out.cell (World.block_lt_of_cell? w _ hx281_0)).trans hx281_0
     replace p281 := eq_true p281
     replace q281 := eq_true q281
     go_wp2_with (first | ((with_reducible refine gate_callee (f := 46) rfl ?_); refine gl 39 Try.func46 #[.int .i64 (rd l0_1 x28_2), .int .i64 0, .int .i64 (rd l0_0 x28_2)] ?_; (with_reducible refine (impl_within.calls (rd l0_1 x28_2) 0 (rd l0_0 x28_2) true _ A18.out).mono ?_); rintro e w' ⟨rfl, ⟨nd, rfl⟩⟩; refine ⟨_, rfl, ?_⟩))
     go_roundg k2
     case measure => have := HJ1.out; have := HK2.out; omega
     case rel => exact ⟨(wrap64 (x28_2 + 1)), (by first | rfl | (simp; done) | (simp [*]; done)), H', ⟨by have := HJ1.out; have := HK2.out; omega⟩, ⟨bk BK277⟩, ⟨bw HB⟩⟩
end Go.Proofs.Ytieioddimkafbaa.V
