-- Functions of the program as plain functions, and that the calls come to them. Written by a program (ownprint.py); nothing here is trusted: Lean checks it.
import Derived.Test.YtigpkicbigpilaaTfVx0
import Derived.Test.YtigpkicbigpilaaTfVx1
namespace Go.Proofs.Ytigpkicbigpilaa.V
open Go.RowKit Go.Proofs.YtigpkicbigpilaaW.PrintWords Go.Proofs.YtigpkicbigpilaaW.PrintLast Go.Proofs.YtigpkicbigpilaaW.PrintMore Go.Proofs.Ytigpkicbigpilaa.Sq
attribute [local go_sem] max2_int min2_int max_two min_two max_three min_three max_four min_four   -- for this text's walks alone
set_option linter.unusedVariables false
set_option linter.unusedSimpArgs false
def spec_veMake.f (l0_0 : List Int) (l0_1 : List Int) (a1_0 : Int) (a1_1 : Int) : Option (List Int × List Int) := (spec_veAmount.f l0_0 l0_1 a1_0 a1_1).bind fun t164 => ((spec_l1Own.f l0_0).bind fun t165 => ((spec_l1Own.f l0_1).bind fun t168 => (if a1_0 ≥ 0 then (if 0 ≤ a1_0 then (if a1_0 < (t168.length : Int) then ((some (t168.set (a1_0 : Int).toNat (wrap64 ((rd t168 a1_0) - t164)) : List Int)).bind fun y173 => (if a1_1 ≥ 0 then (if 0 ≤ a1_1 then (if a1_1 < (t168.length : Int) then (some (t165, (y173.set (a1_1 : Int).toNat (wrap64 ((rd y173 a1_1) + t164))))) else (none)) else (none)) else (some (t165, y173)))) else (none)) else (none)) else (if a1_1 ≥ 0 then (if 0 ≤ a1_1 then (if a1_1 < (t168.length : Int) then (some (t165, (t168.set (a1_1 : Int).toNat (wrap64 ((rd t168 a1_1) + t164))))) else (none)) else (none)) else (some (t165, t168))))))
def spec_veMake.T2 : Bool × List (List Nat × List Nat) := (true, [([], []), ([0], [0]), ([1], [1]), ([], []), ([3], [3]), ([4, 2], [4]), ([2, 5], [2, 5]), ([], []), ([7, 6, 5, 0, 1, 2, 3, 4, 5, 6, 7], [6, 7])])
def spec_veMake.B2 : List Nat := [0, 1, 3, 0, 8, 31, 63, 0, 255]
theorem spec_veMake.tab2 : rtab .any (opsOf Try.f55 2) = spec_veMake.T2 := by kernel_rfl
theorem spec_veMake.bits2 : waitsOk spec_veMake.T2.2 spec_veMake.B2 = true := by kernel_rfl
set_option maxHeartbeats 8000000 in
set_option maxRecDepth 100000 in
theorem spec_veMake.calls (A0_0 : Option Addr) (c0_0 : Nat) (l0_0 : List Int) (A0_1 : Option Addr) (c0_1 : Nat) (l0_1 : List Int) (a1_0 : Int) (a1_1 : Int) (r1 : List Int) (r2 : List Int) (w : World) (hr0_0 : Kd.C (Kd.int .i64) w A0_0 l0_0.length l0_0) (hc0_0 : l0_0.length ≤ c0_0) (hr0_1 : Kd.C (Kd.int .i64) w A0_1 l0_1.length l0_1) (hc0_1 : l0_1.length ≤ c0_1) (h : spec_veMake.f l0_0 l0_1 a1_0 a1_1 = some (r1, r2)) :
  Calls Try.prog 55 #[.agg #[.slice A0_0 l0_0.length c0_0, .slice A0_1 l0_1.length c0_1], .agg #[.int .i64 a1_0, .int .i64 a1_1]] w fun e w' => ∃ v0_ v1_ : Value, e = .returned (.agg #[v0_, v1_]) ∧ Kd.R (Kd.int .i64) 3 w' w.heap.size (fun k_ => some k_ ≠ (v1_ : Value).ownBlock) v0_ r1 ∧ Kd.R (Kd.int .i64) 3 w' w.heap.size (fun k_ => some k_ ≠ (v0_ : Value).ownBlock) v1_ r2 ∧ Below w.heap.size w w' := by
 have hu29 := Try.underlying29
 have hu49 := Try.underlying49
 have HR0_0 := Aside0.mk hr0_0
 have HC0_0 := Aside0.mk hc0_0
 clear hr0_0 hc0_0
 have HR0_1 := Aside0.mk hr0_1
 have HC0_1 := Aside0.mk hc0_1
 clear hr0_1 hc0_1
 have HB := Aside0.mk (Below.refl w.heap.size w)
 have H : ((spec_veAmount.f l0_0 l0_1 a1_0 a1_1).bind fun t164 => ((spec_l1Own.f l0_0).bind fun t165 => ((spec_l1Own.f l0_1).bind fun t168 => (if a1_0 ≥ 0 then (if 0 ≤ a1_0 then (if a1_0 < (t168.length : Int) then ((some (t168.set (a1_0 : Int).toNat (wrap64 ((rd t168 a1_0) - t164)) : List Int)).bind fun y173 => (if a1_1 ≥ 0 then (if 0 ≤ a1_1 then (if a1_1 < (t168.length : Int) then (some (t165, (y173.set (a1_1 : Int).toNat (wrap64 ((rd y173 a1_1) + t164))))) else (none)) else (none)) else (some (t165, y173)))) else (none)) else (none)) else (if a1_1 ≥ 0 then (if 0 ≤ a1_1 then (if a1_1 < (t168.length : Int) then (some (t165, (t168.set (a1_1 : Int).toNat (wrap64 ((rd t168 a1_1) + t164))))) else (none)) else (none)) else (some (t165, t168))))))) = some (r1, r2) := h
 clear h
 replace H := Option.bind_eq_some_iff.mp H
 obtain ⟨t164, A30, H⟩ := H
 (try dsimp only at H)
 have A3 := Aside0.mk A30
 clear A30
 replace H := Option.bind_eq_some_iff.mp H
 obtain ⟨t165, A40, H⟩ := H
 (try dsimp only at H)
 have A4 := Aside0.mk A40
 clear A40
 replace H := Option.bind_eq_some_iff.mp H
 obtain ⟨t168, A50, H⟩ := H
 (try dsimp only at H)
 have A5 := Aside0.mk A50
 clear A50
 by_cases c6 : a1_0 ≥ 0
 rotate_left
 ·rw [if_neg c6] at H
  have c6b0 : decide (0 ≤ a1_0) = false := decide_eq_false c6
  clear c6
  by_cases c79 : a1_1 ≥ 0
  rotate_left
  ·rw [if_neg c79] at H
   have c79b0 : decide (0 ≤ a1_1) = false := decide_eq_false c79
   clear c79
   simp only [Option.some.injEq, Prod.mk.injEq] at H
   obtain ⟨rfl, rfl⟩ := H
   go_enter Try.func55, Try.ntmps55
   try go_wp2_with (first | ((with_reducible refine gate_dst (N := 2) rfl ?_); refine bx 2 #[.slice A0_0 l0_0.length c0_0, .slice A0_1 l0_1.length c0_1] 29 ?_; intro gb161 hg w113 hbox hb; have BK161 := Aside0.mk (hbox); have GW161 := ge HB hg; have GE161 := ge HB hg; replace HB := bs HB hb; clear hb hbox hg) | ((with_reducible refine gate_dst (N := 3) rfl ?_); refine bx 3 #[.int .i64 a1_0, .int .i64 a1_1] 49 ?_; intro gb162 hg w114 hbox hb; have BK162 := Aside0.mk (hbox); have GW162 := ge HB hg; have GE162 := ge HB hg; replace HB := bs HB hb; have NB161_162 := nl BK161 hg; have NB162_161 := nr BK161 hg; replace BK161 := bb BK161 hb; clear hb hbox hg) | ((with_reducible refine gate_dst (N := 4) rfl ?_); refine bx 4 #[.slice none 0 0, .slice none 0 0] 29 ?_; intro gb163 hg w115 hbox hb; have BK163 := Aside0.mk (hbox); have GW163 := ge HB hg; have GE163 := ge HB hg; replace HB := bs HB hb; have NB161_163 := nl BK161 hg; have NB163_161 := nr BK161 hg; replace BK161 := bb BK161 hb; have NB162_163 := nl BK162 hg; have NB163_162 := nr BK162 hg; replace BK162 := bb BK162 hb; clear hb hbox hg; have hnb116 := NB161_162.out; have hnc116 := NB162_161.out; have hnb117 := NB161_163.out; have hnc117 := NB163_161.out; have hcz118_0 := bc0 BK161; have hcz118_1 := bc1 BK161; have hfz118_0 := blk_frozen BK161.out 0; have hfz118_1 := blk_frozen BK161.out 1; have hnb119 := NB162_163.out; have hnc119 := NB163_162.out; have hcz120_0 := bc0 BK162; have hcz120_1 := bc1 BK162; have hfz120_0 := blk_frozen BK162.out 0; have hfz120_1 := blk_frozen BK162.out 1) | ((with_reducible refine gate_callee (f := 78) rfl ?_); refine gl 9 Try.func78 #[.agg #[.slice A0_0 l0_0.length c0_0, .slice A0_1 l0_1.length c0_1], .agg #[.int .i64 a1_0, .int .i64 a1_1]] ?_; (with_reducible refine (spec_veAmount.calls _ _ l0_0 _ _ l0_1 a1_0 a1_1 t164 _ ?side1 ?side2 ?side3 ?side4 A3.out).mono ?_); (case side1 => exact ck HR0_0 HB); (case side2 => exact HC0_0.out); (case side3 => exact ck HR0_1 HB); (case side4 => exact HC0_1.out); rintro e w121 ⟨rfl, hb⟩; refine ⟨_, rfl, ?_⟩; replace BK161 := bb BK161 hb; replace BK162 := bb BK162 hb; replace BK163 := bb BK163 hb; replace HB := bs HB hb; (try clear hb)))
   replace BK161 := Aside0.mk (blk_drew BK161.out)
   replace BK162 := Aside0.mk (blk_drew BK162.out)
   replace BK163 := Aside0.mk (blk_drew BK163.out)
   replace HB := Aside0.mk (below_drew1 HB.out)
   refine start_ (n := 9) (S := fun w' => w'.cell? ⟨gb161, 0, none⟩ = some (.slice A0_0 l0_0.length c0_0) ∧ w'.cell? ⟨gb161, 1, none⟩ = some (.slice A0_1 l0_1.length c0_1)) (ds := []) (bl 9 0) (by kernel_rfl) rfl rfl ⟨bc0 BK161, bc1 BK161⟩ (fun hHeld => ?_); refine with_tabW spec_veMake.tab2 spec_veMake.bits2 (fun HT_ HW_ => ?_)
   generalize w121.drew = w122 at BK161 BK162 BK163 HB hHeld ⊢
   refine pu 0 10 (bl 9 1) HT_.out (v := ?_) (a' := ?_) ?_ ?_ ?_
   rotate_left; (intro w'; go_simp; with_reducible rfl); rotate_left; (simp only [sqa, sqb, sqc, sqd, i64_w, i32_w]; rfl)
   refine pu 3 13 (bl 9 9) HT_.out (v := ?_) (a' := ?_) ?_ ?_ ?_
   rotate_left; (intro w'; go_simp; with_reducible rfl); rotate_left; (simp only [sqa, sqb, sqc, sqd, i64_w, i32_w]; rfl)
   refine tk 1 11 (bl 9 11) HT_.out HW_.out hHeld (v := ?_) (a' := ?_) ?_ ?_ ?_
   rotate_left; (rintro w' ⟨s0, s1⟩; go_simp; with_reducible rfl); rotate_left; (simp only [sqa, sqb, sqc, sqd, i64_w, i32_w]; rfl)
   refine tk 4 14 (bl 9 27) HT_.out HW_.out hHeld (v := ?_) (a' := ?_) ?_ ?_ ?_
   rotate_left; (rintro w' ⟨s0, s1⟩; go_simp; with_reducible rfl); rotate_left; (simp only [sqa, sqb, sqc, sqd, i64_w, i32_w]; rfl)
   refine join_ (σ := Value × Value × Nat) 1 (bl 9 255) (fun s_ => [(12, s_.1), (15, s_.2.1), (6, .pointer (some ⟨s_.2.2, 0, none⟩)), (16, .agg #[s_.1, s_.2.1])]) (fun s_ w' => (w'.cell? ⟨gb161, 0, none⟩ = some (.slice A0_0 l0_0.length c0_0) ∧ w'.cell? ⟨gb161, 1, none⟩ = some (.slice A0_1 l0_1.length c0_1)) ∧ (Kd.R (Kd.int .i64) 3 w' w.heap.size (fun k_ => some k_ ≠ (s_.2.1 : Value).ownBlock) s_.1 t165) ∧ (Kd.R (Kd.int .i64) 3 w' w.heap.size (fun k_ => some k_ ≠ (s_.1 : Value).ownBlock) s_.2.1 t168) ∧ (w'.heap[gb161]? = some (.cells #[.slice A0_0 l0_0.length c0_0, .slice A0_1 l0_1.length c0_1] 29 (0, 0))) ∧ (w'.heap[gb162]? = some (.cells #[.int .i64 a1_0, .int .i64 a1_1] 49 (0, 0))) ∧ (w'.heap[gb163]? = some (.cells #[.slice none 0 0, .slice none 0 0] 29 (0, 0))) ∧ (w'.heap[s_.2.2]? = some (.cells #[.slice none 0 0, .slice none 0 0] 29 (0, 0))) ∧ (w.heap.size ≤ s_.2.2) ∧ (w.heap.size ≤ s_.2.2) ∧ (gb161 ≠ s_.2.2) ∧ (s_.2.2 ≠ gb161) ∧ (gb162 ≠ s_.2.2) ∧ (s_.2.2 ≠ gb162) ∧ (gb163 ≠ s_.2.2) ∧ (s_.2.2 ≠ gb163) ∧ (Below w.heap.size w w')) ?_ ?_
   rotate_left
   ·intro hCont
    refine two_ (i := 2) (j := 7) (Ni := some 12) (Nj := some 6) (bl 9 31) (bl 9 155) rfl rfl rfl rfl (two_of HT_.out (by kernel_rfl)) (by decide) (by decide) (fun K hK => ?_) (fun K hK => ?_)
    ·skip
     refine gs Try.func71 #[.slice A0_0 l0_0.length c0_0] ?_
     with_reducible refine (spec_l1Own.calls _ _ l0_0 t165 _ ?side1 ?side2 A4.out).mono ?_
     (case side1 => exact ck HR0_0 HB)
     (case side2 => exact HC0_0.out)
     rintro e w123 ⟨v166, rfl, ho0, hb⟩
     refine ⟨_, rfl, ?_⟩
     have HO167 := lo ho0 HB
     replace BK161 := bb BK161 hb
     replace BK162 := bb BK162 hb
     replace BK163 := bb BK163 hb
     replace HB := bs HB hb
     (try clear hb); (try clear hb2); (try clear hk); (try clear hi); (try clear ho0)
     refine hK.out _ _ ⟨bc0 BK161, bc1 BK161⟩ (fun hHeld => ?_)
     clear hK K
     refine norm_ (a' := ?_) ?_ ?_; rotate_left; (show Act.put _ (some 12) _ = _; simp only [sqa, sqb, sqc, sqd, i64_w, i32_w]; rfl)
     refine two_ (i := 5) (j := 7) (Ni := some 15) (Nj := some 6) (bl 9 63) (bl 9 159) rfl rfl rfl rfl (two_of HT_.out (by kernel_rfl)) (by decide) (by decide) (fun K hK => ?_) (fun K hK => ?_)
     ·skip
      refine gs Try.func71 #[.slice A0_1 l0_1.length c0_1] ?_
      with_reducible refine (spec_l1Own.calls _ _ l0_1 t168 _ ?side1 ?side2 A5.out).mono ?_
      (case side1 => exact ck HR0_1 HB)
      (case side2 => exact HC0_1.out)
      rintro e w124 ⟨v169, rfl, ho0, hb⟩
      refine ⟨_, rfl, ?_⟩
      have HO170 := Aside0.mk (Kd.R_lower (Kd.R_new' ho0 (Kd.R_lt (rk HO167))) (below_size (bw HB)))
      replace HO167 := Aside0.mk (Kd.R_elder' (rk HO167) (Kd.R_base ho0) hb)
      replace BK161 := bb BK161 hb
      replace BK162 := bb BK162 hb
      replace BK163 := bb BK163 hb
      replace HB := bs HB hb
      (try clear hb); (try clear hb2); (try clear hk); (try clear hi); (try clear ho0)
      obtain ⟨Ao125, co125, eo125⟩ := Kd.R_slice HO170.out
      (first | subst eo125 | (injection eo125 with f1_ f2_ f3_; have f4_ := f1_.symm; have f5_ := f3_.symm; clear f1_ f2_ f3_; subst f4_; subst f5_))
      obtain ⟨Ao126, co126, eo126⟩ := Kd.R_slice HO167.out
      (first | subst eo126 | (injection eo126 with f1_ f2_ f3_; have f4_ := f1_.symm; have f5_ := f3_.symm; clear f1_ f2_ f3_; subst f4_; subst f5_))
      refine hK.out _ _ ⟨bc0 BK161, bc1 BK161⟩ (fun hHeld => ?_)
      clear hK K
      refine norm_ (a' := ?_) ?_ ?_; rotate_left; (show Act.put _ (some 15) _ = _; simp only [sqa, sqb, sqc, sqd, i64_w, i32_w]; rfl)
      refine pu 6 16 (bl 9 127) HT_.out (v := ?_) (a' := ?_) ?_ ?_ ?_
      rotate_left; (intro w'; go_simp; with_reducible rfl); rotate_left; (simp only [sqa, sqb, sqc, sqd, i64_w, i32_w]; rfl)
      refine on 7 6 (bl 9 255) HT_.out (fun K hK => ?_)
      refine box_step ?hg (N := 6) ?hd (cs := #[.slice none 0 0, .slice none 0 0]) (t := 29) ?hr ?_; (case hd => rfl); (case hg => rfl); (case hr => first | (go_simp; done) | (go_simp; rfl))
      intro gb171 hg w127 hbox hb
      replace HO167 := rb HO167 hb
      replace HO170 := rb HO170 hb
      have BK171 := Aside0.mk (hbox)
      have GW171 := ge HB hg
      have GE171 := ge HB hg
      replace HB := bs HB hb
      have NB161_171 := nl BK161 hg
      have NB171_161 := nr BK161 hg
      replace BK161 := bb BK161 hb
      have NB162_171 := nl BK162 hg
      have NB171_162 := nr BK162 hg
      replace BK162 := bb BK162 hb
      have NB163_171 := nl BK163 hg
      have NB171_163 := nr BK163 hg
      replace BK163 := bb BK163 hb
      clear hb hbox hg
      refine hK.out _ _ ⟨bc0 BK161, bc1 BK161⟩ (fun hHeld => ?_)
      clear hK K
      refine norm_ (a' := ?_) ?_ ?_; rotate_left; (show Act.put _ (some 6) _ = _; simp only [sqa, sqb, sqc, sqd, i64_w, i32_w]; rfl)
      exact norm_ (by simp only [putAll, Act.put, List.setIfInBounds_toArray, List.set_cons_zero, List.set_cons_succ]) (hCont (.slice Ao126 t165.length co126, .slice Ao125 t168.length co125, gb171) _ ⟨hHeld, (by exact Kd.R_mono HO167.out (fun _ hk => hk.2)), (by exact Kd.R_mono HO170.out (fun _ hk => hk.2)), (bk BK161), (bk BK162), (bk BK163), (bk BK171), GW171.out, GE171.out, NB161_171.out, NB171_161.out, NB162_171.out, NB171_162.out, NB163_171.out, NB171_163.out, (bw HB)⟩)
     ·skip
      refine box_step ?hg (N := 6) ?hd (cs := #[.slice none 0 0, .slice none 0 0]) (t := 29) ?hr ?_; (case hd => rfl); (case hg => rfl); (case hr => first | (go_simp; done) | (go_simp; rfl))
      intro gb171 hg w124 hbox hb
      replace HO167 := rb HO167 hb
      have BK171 := Aside0.mk (hbox)
      have GW171 := ge HB hg
      have GE171 := ge HB hg
      replace HB := bs HB hb
      have NB161_171 := nl BK161 hg
      have NB171_161 := nr BK161 hg
      replace BK161 := bb BK161 hb
      have NB162_171 := nl BK162 hg
      have NB171_162 := nr BK162 hg
      replace BK162 := bb BK162 hb
      have NB163_171 := nl BK163 hg
      have NB171_163 := nr BK163 hg
      replace BK163 := bb BK163 hb
      clear hb hbox hg
      refine hK.out _ _ ⟨bc0 BK161, bc1 BK161⟩ (fun hHeld => ?_)
      clear hK K
      refine norm_ (a' := ?_) ?_ ?_; rotate_left; (show Act.put _ (some 6) _ = _; simp only [sqa, sqb, sqc, sqd, i64_w, i32_w]; rfl)
      refine on 5 15 (bl 9 191) HT_.out (fun K hK => ?_)
      refine gs Try.func71 #[.slice A0_1 l0_1.length c0_1] ?_
      with_reducible refine (spec_l1Own.calls _ _ l0_1 t168 _ ?side1 ?side2 A5.out).mono ?_
      (case side1 => exact ck HR0_1 HB)
      (case side2 => exact HC0_1.out)
      rintro e w125 ⟨v169, rfl, ho0, hb⟩
      refine ⟨_, rfl, ?_⟩
      have HO170 := Aside0.mk (Kd.R_lower (Kd.R_new' ho0 (Kd.R_lt (rk HO167))) (below_size (bw HB)))
      replace HO167 := Aside0.mk (Kd.R_elder' (rk HO167) (Kd.R_base ho0) hb)
      replace BK161 := bb BK161 hb
      replace BK162 := bb BK162 hb
      replace BK163 := bb BK163 hb
      replace BK171 := bb BK171 hb
      replace HB := bs HB hb
      (try clear hb); (try clear hb2); (try clear hk); (try clear hi); (try clear ho0)
      obtain ⟨Ao126, co126, eo126⟩ := Kd.R_slice HO170.out
      (first | subst eo126 | (injection eo126 with f1_ f2_ f3_; have f4_ := f1_.symm; have f5_ := f3_.symm; clear f1_ f2_ f3_; subst f4_; subst f5_))
      obtain ⟨Ao127, co127, eo127⟩ := Kd.R_slice HO167.out
      (first | subst eo127 | (injection eo127 with f1_ f2_ f3_; have f4_ := f1_.symm; have f5_ := f3_.symm; clear f1_ f2_ f3_; subst f4_; subst f5_))
      refine hK.out _ _ ⟨bc0 BK161, bc1 BK161⟩ (fun hHeld => ?_)
      clear hK K
      refine norm_ (a' := ?_) ?_ ?_; rotate_left; (show Act.put _ (some 15) _ = _; simp only [sqa, sqb, sqc, sqd, i64_w, i32_w]; rfl)
      refine pu 6 16 (bl 9 255) HT_.out (v := ?_) (a' := ?_) ?_ ?_ ?_
      rotate_left; (intro w'; go_simp; with_reducible rfl); rotate_left; (simp only [sqa, sqb, sqc, sqd, i64_w, i32_w]; rfl)
      exact norm_ (by simp only [putAll, Act.put, List.setIfInBounds_toArray, List.set_cons_zero, List.set_cons_succ]) (hCont (.slice Ao127 t165.length co127, .slice Ao126 t168.length co126, gb171) _ ⟨hHeld, (by exact Kd.R_mono HO167.out (fun _ hk => hk.2)), (by exact Kd.R_mono HO170.out (fun _ hk => hk.2)), (bk BK161), (bk BK162), (bk BK163), (bk BK171), GW171.out, GE171.out, NB161_171.out, NB171_161.out, NB162_171.out, NB171_162.out, NB163_171.out, NB171_163.out, (bw HB)⟩)
    ·skip
     refine box_step ?hg (N := 6) ?hd (cs := #[.slice none 0 0, .slice none 0 0]) (t := 29) ?hr ?_; (case hd => rfl); (case hg => rfl); (case hr => first | (go_simp; done) | (go_simp; rfl))
     intro gb171 hg w123 hbox hb
     have BK171 := Aside0.mk (hbox)
     have GW171 := ge HB hg
     have GE171 := ge HB hg
     replace HB := bs HB hb
     have NB161_171 := nl BK161 hg
     have NB171_161 := nr BK161 hg
     replace BK161 := bb BK161 hb
     have NB162_171 := nl BK162 hg
     have NB171_162 := nr BK162 hg
     replace BK162 := bb BK162 hb
     have NB163_171 := nl BK163 hg
     have NB171_163 := nr BK163 hg
     replace BK163 := bb BK163 hb
     clear hb hbox hg
     refine hK.out _ _ ⟨bc0 BK161, bc1 BK161⟩ (fun hHeld => ?_)
     clear hK K
     refine norm_ (a' := ?_) ?_ ?_; rotate_left; (show Act.put _ (some 6) _ = _; simp only [sqa, sqb, sqc, sqd, i64_w, i32_w]; rfl)
     refine on 2 12 (bl 9 159) HT_.out (fun K hK => ?_)
     refine gs Try.func71 #[.slice A0_0 l0_0.length c0_0] ?_
     with_reducible refine (spec_l1Own.calls _ _ l0_0 t165 _ ?side1 ?side2 A4.out).mono ?_
     (case side1 => exact ck HR0_0 HB)
     (case side2 => exact HC0_0.out)
     rintro e w124 ⟨v166, rfl, ho0, hb⟩
     refine ⟨_, rfl, ?_⟩
     have HO167 := lo ho0 HB
     replace BK161 := bb BK161 hb
     replace BK162 := bb BK162 hb
     replace BK163 := bb BK163 hb
     replace BK171 := bb BK171 hb
     replace HB := bs HB hb
     (try clear hb); (try clear hb2); (try clear hk); (try clear hi); (try clear ho0)
     refine hK.out _ _ ⟨bc0 BK161, bc1 BK161⟩ (fun hHeld => ?_)
     clear hK K
     refine norm_ (a' := ?_) ?_ ?_; rotate_left; (show Act.put _ (some 12) _ = _; simp only [sqa, sqb, sqc, sqd, i64_w, i32_w]; rfl)
     refine on 5 15 (bl 9 191) HT_.out (fun K hK => ?_)
     refine gs Try.func71 #[.slice A0_1 l0_1.length c0_1] ?_
     with_reducible refine (spec_l1Own.calls _ _ l0_1 t168 _ ?side1 ?side2 A5.out).mono ?_
     (case side1 => exact ck HR0_1 HB)
     (case side2 => exact HC0_1.out)
     rintro e w125 ⟨v169, rfl, ho0, hb⟩
     refine ⟨_, rfl, ?_⟩
     have HO170 := Aside0.mk (Kd.R_lower (Kd.R_new' ho0 (Kd.R_lt (rk HO167))) (below_size (bw HB)))
     replace HO167 := Aside0.mk (Kd.R_elder' (rk HO167) (Kd.R_base ho0) hb)
     replace BK161 := bb BK161 hb
     replace BK162 := bb BK162 hb
     replace BK163 := bb BK163 hb
     replace BK171 := bb BK171 hb
     replace HB := bs HB hb
     (try clear hb); (try clear hb2); (try clear hk); (try clear hi); (try clear ho0)
     obtain ⟨Ao126, co126, eo126⟩ := Kd.R_slice HO170.out
     (first | subst eo126 | (injection eo126 with f1_ f2_ f3_; have f4_ := f1_.symm; have f5_ := f3_.symm; clear f1_ f2_ f3_; subst f4_; subst f5_))
     obtain ⟨Ao127, co127, eo127⟩ := Kd.R_slice HO167.out
     (first | subst eo127 | (injection eo127 with f1_ f2_ f3_; have f4_ := f1_.symm; have f5_ := f3_.symm; clear f1_ f2_ f3_; subst f4_; subst f5_))
     refine hK.out _ _ ⟨bc0 BK161, bc1 BK161⟩ (fun hHeld => ?_)
     clear hK K
     refine norm_ (a' := ?_) ?_ ?_; rotate_left; (show Act.put _ (some 15) _ = _; simp only [sqa, sqb, sqc, sqd, i64_w, i32_w]; rfl)
     refine pu 6 16 (bl 9 255) HT_.out (v := ?_) (a' := ?_) ?_ ?_ ?_
     rotate_left; (intro w'; go_simp; with_reducible rfl); rotate_left; (simp only [sqa, sqb, sqc, sqd, i64_w, i32_w]; rfl)
     exact norm_ (by simp only [putAll, Act.put, List.setIfInBounds_toArray, List.set_cons_zero, List.set_cons_succ]) (hCont (.slice Ao127 t165.length co127, .slice Ao126 t168.length co126, gb171) _ ⟨hHeld, (by exact Kd.R_mono HO167.out (fun _ hk => hk.2)), (by exact Kd.R_mono HO170.out (fun _ hk => hk.2)), (bk BK161), (bk BK162), (bk BK163), (bk BK171), GW171.out, GE171.out, NB161_171.out, NB171_161.out, NB162_171.out, NB171_162.out, NB163_171.out, NB171_163.out, (bw HB)⟩)
   rintro ⟨v166, v169, gb171⟩ w128 ⟨hS_, h0_, h1_, h2_, h3_, h4_, h5_, h6_, h7_, h8_, h9_, h10_, h11_, h12_, h13_, h14_⟩
   have HO167 := Aside0.mk h0_
   have HO170 := Aside0.mk h1_
   replace BK161 := Aside0.mk h2_
   replace BK162 := Aside0.mk h3_
   replace BK163 := Aside0.mk h4_
   have BK171 := Aside0.mk h5_
   have GW171 := GeC.mk h6_
   have GE171 := GeC.mk h7_
   have NB161_171 := NeC.mk h8_
   have NB171_161 := NeC.mk h9_
   have NB162_171 := NeC.mk h10_
   have NB171_162 := NeC.mk h11_
   have NB163_171 := NeC.mk h12_
   have NB171_163 := NeC.mk h13_
   replace HB := Aside0.mk h14_
   clear h0_ h1_ h2_ h3_ h4_ h5_ h6_ h7_ h8_ h9_ h10_ h11_ h12_ h13_ h14_
   have hHeld : w128.cell? ⟨gb161, 0, none⟩ = some (.slice A0_0 l0_0.length c0_0) ∧ w128.cell? ⟨gb161, 1, none⟩ = some (.slice A0_1 l0_1.length c0_1) := hS_
   obtain ⟨Ao129, co129, eo129⟩ := Kd.R_slice HO170.out
   (first | subst eo129 | (injection eo129 with f1_ f2_ f3_; have f4_ := f1_.symm; have f5_ := f3_.symm; clear f1_ f2_ f3_; subst f4_; subst f5_))
   obtain ⟨Ao130, co130, eo130⟩ := Kd.R_slice HO167.out
   (first | subst eo130 | (injection eo130 with f1_ f2_ f3_; have f4_ := f1_.symm; have f5_ := f3_.symm; clear f1_ f2_ f3_; subst f4_; subst f5_))
   refine norm_ (a' := ?_) ?_ ?_
   rotate_left
   ·simp only [putAll, Act.put, List.setIfInBounds_toArray, List.set_cons_zero, List.set_cons_succ]
    rfl
   refine one_ (i := 8) (N := none) (bl 9 511) rfl rfl (one_of HT_.out (by kernel_rfl)) (by decide) (fun K hK => ?_)
   have hs131 : w128.cell? ⟨gb171, 0, none⟩ = some (.slice none 0 0) := bc0 BK171
   have hfs131 := blk_frozen BK171.out 0
   have hns131_0 := NB161_171.out
   have hns131_1 := NB162_171.out
   have hns131_2 := NB163_171.out
   have hms131_0 := NB171_161.out
   have hms131_1 := NB171_162.out
   have hms131_2 := NB171_163.out
   have hs132 : w128.cell? ⟨gb171, 1, none⟩ = some (.slice none 0 0) := bc1 BK171
   have hfs132 := blk_frozen BK171.out 1
   have hns132_0 := NB161_171.out
   have hns132_1 := NB162_171.out
   have hns132_2 := NB163_171.out
   have hms132_0 := NB171_161.out
   have hms132_1 := NB171_162.out
   have hms132_2 := NB171_163.out
   refine skip_ (w1 := ?_) (by rfl) rfl ?_ ?_
   rotate_left
   ·go_simp
    rfl
   refine hK.out _ _ ⟨((cell_far (p := ⟨gb171, _, none⟩) NB161_171.out _).trans (((cell_far (p := ⟨gb171, _, none⟩) NB161_171.out _).trans (hHeld.1)))), ((cell_far (p := ⟨gb171, _, none⟩) NB161_171.out _).trans (((cell_far (p := ⟨gb171, _, none⟩) NB161_171.out _).trans (hHeld.2))))⟩ (fun hHeld => ?_)
   clear hK K
   refine done_ (done_of HT_.out (by kernel_rfl)) ?_
   have hnb133 := NB162_171.out
   have hnc133 := NB171_162.out
   have hcz134_0 := bc0 BK162
   have hcz134_1 := bc1 BK162
   have hfz134_0 := blk_frozen BK162.out 0
   have hfz134_1 := blk_frozen BK162.out 1
   have hnb135 := NB171_161.out
   have hnc135 := NB161_171.out
   have hnb136 := NB171_163.out
   have hnc136 := NB163_171.out
   have hcz137_0 := bc0 BK171
   have hcz137_1 := bc1 BK171
   have hfz137_0 := blk_frozen BK171.out 0
   have hfz137_1 := blk_frozen BK171.out 1
   have hcz138_0 := bc0 BK163
   have hcz138_1 := bc1 BK163
   have hfz138_0 := blk_frozen BK163.out 0
   have hfz138_1 := blk_frozen BK163.out 1
   try go_wp2
   refine bodyPost_ret (results_cell_row rfl _ _ gb163 29 #[.slice Ao130 t165.length co130, .slice Ao129 t168.length co129] (0, 0) _ rfl (by refine blk_put (cs := #[.slice Ao130 t165.length co130, .slice none 0 0]) ?_ 1 _ rfl; refine blk_put (cs := #[.slice none 0 0, .slice none 0 0]) ?_ 0 _ rfl; exact bk BK163) Try.underlying29 rfl (by kernel_rfl)) rfl ?_
   exact ⟨_, _, by first | rfl | (simp [errW_none, errW_some] <;> rfl) | (simp [*, errW_none, errW_some] <;> rfl), by exact Kd.R_mono (Kd.R_far (p := ⟨gb163, 1, none⟩) (Kd.R_far (p := ⟨gb163, 0, none⟩) (Kd.R_far (p := ⟨gb171, 1, none⟩) (Kd.R_far (p := ⟨gb171, 0, none⟩) (Kd.R_types (Kd.R_types HO167.out BK171.out (by decide)) BK163.out (by decide)) (fun _ hk => hk.1.2) (.slice Ao130 t165.length co130)) (fun _ hk => hk.1.2) (.slice Ao129 t168.length co129)) (fun _ hk => hk.2) (.slice Ao130 t165.length co130)) (fun _ hk => hk.2) (.slice Ao129 t168.length co129)) (fun _ hk => hk.1.1), by exact Kd.R_mono (Kd.R_far (p := ⟨gb163, 1, none⟩) (Kd.R_far (p := ⟨gb163, 0, none⟩) (Kd.R_far (p := ⟨gb171, 1, none⟩) (Kd.R_far (p := ⟨gb171, 0, none⟩) (Kd.R_types (Kd.R_types HO170.out BK171.out (by decide)) BK163.out (by decide)) (fun _ hk => hk.1.2) (.slice Ao130 t165.length co130)) (fun _ hk => hk.1.2) (.slice Ao129 t168.length co129)) (fun _ hk => hk.2) (.slice Ao130 t165.length co130)) (fun _ hk => hk.2) (.slice Ao129 t168.length co129)) (fun _ hk => hk.1.1), bw HB⟩
  rw [if_pos c79] at H
  have c79b0 : decide (0 ≤ a1_1) = true := decide_eq_true c79
  clear c79
  by_cases c80 : 0 ≤ a1_1
  rotate_left
  ·rw [if_neg c80] at H
   exact absurd H (by simp)
  rw [if_pos c80] at H
  have c80b0 : decide (0 ≤ a1_1) = true := decide_eq_true c80
  clear c80
  by_cases c81 : a1_1 < (t168.length : Int)
  rotate_left
  ·rw [if_neg c81] at H
   exact absurd H (by simp)
  rw [if_pos c81] at H
  have c81b0 : decide (a1_1 < (t168.length : Int)) = true := decide_eq_true c81
  clear c81
  obtain ⟨y177, hy177⟩ : ∃ y_ : List Int, y_ = (t168.set (a1_1 : Int).toNat (wrap64 ((rd t168 a1_1) + t164))) := ⟨_, rfl⟩
  replace H : (some (t165, y177)) = some (r1, r2) := by first | (rw [hy177]; with_reducible exact H) | (have H2_ := (Option.bind_some _ _).symm.trans H; rw [hy177]; with_reducible exact H2_) | (have H2_ := (Option.bind_some _ _).symm.trans H; with_reducible exact H2_) | with_reducible exact H | (rw [hy177]; exact H) | exact H
  have Ny177 := Aside0.mk hy177
  clear hy177
  simp only [Option.some.injEq, Prod.mk.injEq] at H
  obtain ⟨rfl, rfl⟩ := H
  go_enter Try.func55, Try.ntmps55
  try go_wp2_with (first | ((with_reducible refine gate_dst (N := 2) rfl ?_); refine bx 2 #[.slice A0_0 l0_0.length c0_0, .slice A0_1 l0_1.length c0_1] 29 ?_; intro gb161 hg w83 hbox hb; have BK161 := Aside0.mk (hbox); have GW161 := ge HB hg; have GE161 := ge HB hg; replace HB := bs HB hb; clear hb hbox hg) | ((with_reducible refine gate_dst (N := 3) rfl ?_); refine bx 3 #[.int .i64 a1_0, .int .i64 a1_1] 49 ?_; intro gb162 hg w84 hbox hb; have BK162 := Aside0.mk (hbox); have GW162 := ge HB hg; have GE162 := ge HB hg; replace HB := bs HB hb; have NB161_162 := nl BK161 hg; have NB162_161 := nr BK161 hg; replace BK161 := bb BK161 hb; clear hb hbox hg) | ((with_reducible refine gate_dst (N := 4) rfl ?_); refine bx 4 #[.slice none 0 0, .slice none 0 0] 29 ?_; intro gb163 hg w85 hbox hb; have BK163 := Aside0.mk (hbox); have GW163 := ge HB hg; have GE163 := ge HB hg; replace HB := bs HB hb; have NB161_163 := nl BK161 hg; have NB163_161 := nr BK161 hg; replace BK161 := bb BK161 hb; have NB162_163 := nl BK162 hg; have NB163_162 := nr BK162 hg; replace BK162 := bb BK162 hb; clear hb hbox hg; have hnb86 := NB161_162.out; have hnc86 := NB162_161.out; have hnb87 := NB161_163.out; have hnc87 := NB163_161.out; have hcz88_0 := bc0 BK161; have hcz88_1 := bc1 BK161; have hfz88_0 := blk_frozen BK161.out 0; have hfz88_1 := blk_frozen BK161.out 1; have hnb89 := NB162_163.out; have hnc89 := NB163_162.out; have hcz90_0 := bc0 BK162; have hcz90_1 := bc1 BK162; have hfz90_0 := blk_frozen BK162.out 0; have hfz90_1 := blk_frozen BK162.out 1) | ((with_reducible refine gate_callee (f := 78) rfl ?_); refine gl 9 Try.func78 #[.agg #[.slice A0_0 l0_0.length c0_0, .slice A0_1 l0_1.length c0_1], .agg #[.int .i64 a1_0, .int .i64 a1_1]] ?_; (with_reducible refine (spec_veAmount.calls _ _ l0_0 _ _ l0_1 a1_0 a1_1 t164 _ ?side1 ?side2 ?side3 ?side4 A3.out).mono ?_); (case side1 => exact ck HR0_0 HB); (case side2 => exact HC0_0.out); (case side3 => exact ck HR0_1 HB); (case side4 => exact HC0_1.out); rintro e w91 ⟨rfl, hb⟩; refine ⟨_, rfl, ?_⟩; replace BK161 := bb BK161 hb; replace BK162 := bb BK162 hb; replace BK163 := bb BK163 hb; replace HB := bs HB hb; (try clear hb)))
  replace BK161 := Aside0.mk (blk_drew BK161.out)
  replace BK162 := Aside0.mk (blk_drew BK162.out)
  replace BK163 := Aside0.mk (blk_drew BK163.out)
  replace HB := Aside0.mk (below_drew1 HB.out)
  refine start_ (n := 9) (S := fun w' => w'.cell? ⟨gb161, 0, none⟩ = some (.slice A0_0 l0_0.length c0_0) ∧ w'.cell? ⟨gb161, 1, none⟩ = some (.slice A0_1 l0_1.length c0_1)) (ds := []) (bl 9 0) (by kernel_rfl) rfl rfl ⟨bc0 BK161, bc1 BK161⟩ (fun hHeld => ?_); refine with_tabW spec_veMake.tab2 spec_veMake.bits2 (fun HT_ HW_ => ?_)
  generalize w91.drew = w92 at BK161 BK162 BK163 HB hHeld ⊢
  refine pu 0 10 (bl 9 1) HT_.out (v := ?_) (a' := ?_) ?_ ?_ ?_
  rotate_left; (intro w'; go_simp; with_reducible rfl); rotate_left; (simp only [sqa, sqb, sqc, sqd, i64_w, i32_w]; rfl)
  refine pu 3 13 (bl 9 9) HT_.out (v := ?_) (a' := ?_) ?_ ?_ ?_
  rotate_left; (intro w'; go_simp; with_reducible rfl); rotate_left; (simp only [sqa, sqb, sqc, sqd, i64_w, i32_w]; rfl)
  refine tk 1 11 (bl 9 11) HT_.out HW_.out hHeld (v := ?_) (a' := ?_) ?_ ?_ ?_
  rotate_left; (rintro w' ⟨s0, s1⟩; go_simp; with_reducible rfl); rotate_left; (simp only [sqa, sqb, sqc, sqd, i64_w, i32_w]; rfl)
  refine tk 4 14 (bl 9 27) HT_.out HW_.out hHeld (v := ?_) (a' := ?_) ?_ ?_ ?_
  rotate_left; (rintro w' ⟨s0, s1⟩; go_simp; with_reducible rfl); rotate_left; (simp only [sqa, sqb, sqc, sqd, i64_w, i32_w]; rfl)
  refine join_ (σ := Value × Value × Nat) 1 (bl 9 255) (fun s_ => [(12, s_.1), (15, s_.2.1), (6, .pointer (some ⟨s_.2.2, 0, none⟩)), (16, .agg #[s_.1, s_.2.1])]) (fun s_ w' => (w'.cell? ⟨gb161, 0, none⟩ = some (.slice A0_0 l0_0.length c0_0) ∧ w'.cell? ⟨gb161, 1, none⟩ = some (.slice A0_1 l0_1.length c0_1)) ∧ (Kd.R (Kd.int .i64) 3 w' w.heap.size (fun k_ => some k_ ≠ (s_.2.1 : Value).ownBlock) s_.1 t165) ∧ (Kd.R (Kd.int .i64) 3 w' w.heap.size (fun k_ => some k_ ≠ (s_.1 : Value).ownBlock) s_.2.1 t168) ∧ (w'.heap[gb161]? = some (.cells #[.slice A0_0 l0_0.length c0_0, .slice A0_1 l0_1.length c0_1] 29 (0, 0))) ∧ (w'.heap[gb162]? = some (.cells #[.int .i64 a1_0, .int .i64 a1_1] 49 (0, 0))) ∧ (w'.heap[gb163]? = some (.cells #[.slice none 0 0, .slice none 0 0] 29 (0, 0))) ∧ (w'.heap[s_.2.2]? = some (.cells #[.slice none 0 0, .slice none 0 0] 29 (0, 0))) ∧ (w.heap.size ≤ s_.2.2) ∧ (w.heap.size ≤ s_.2.2) ∧ (gb161 ≠ s_.2.2) ∧ (s_.2.2 ≠ gb161) ∧ (gb162 ≠ s_.2.2) ∧ (s_.2.2 ≠ gb162) ∧ (gb163 ≠ s_.2.2) ∧ (s_.2.2 ≠ gb163) ∧ (Below w.heap.size w w')) ?_ ?_
  rotate_left
  ·intro hCont
   refine two_ (i := 2) (j := 7) (Ni := some 12) (Nj := some 6) (bl 9 31) (bl 9 155) rfl rfl rfl rfl (two_of HT_.out (by kernel_rfl)) (by decide) (by decide) (fun K hK => ?_) (fun K hK => ?_)
   ·skip
    refine gs Try.func71 #[.slice A0_0 l0_0.length c0_0] ?_
    with_reducible refine (spec_l1Own.calls _ _ l0_0 t165 _ ?side1 ?side2 A4.out).mono ?_
    (case side1 => exact ck HR0_0 HB)
    (case side2 => exact HC0_0.out)
    rintro e w93 ⟨v166, rfl, ho0, hb⟩
    refine ⟨_, rfl, ?_⟩
    have HO167 := lo ho0 HB
    replace BK161 := bb BK161 hb
    replace BK162 := bb BK162 hb
    replace BK163 := bb BK163 hb
    replace HB := bs HB hb
    (try clear hb); (try clear hb2); (try clear hk); (try clear hi); (try clear ho0)
    refine hK.out _ _ ⟨bc0 BK161, bc1 BK161⟩ (fun hHeld => ?_)
    clear hK K
    refine norm_ (a' := ?_) ?_ ?_; rotate_left; (show Act.put _ (some 12) _ = _; simp only [sqa, sqb, sqc, sqd, i64_w, i32_w]; rfl)
    refine two_ (i := 5) (j := 7) (Ni := some 15) (Nj := some 6) (bl 9 63) (bl 9 159) rfl rfl rfl rfl (two_of HT_.out (by kernel_rfl)) (by decide) (by decide) (fun K hK => ?_) (fun K hK => ?_)
    ·skip
     refine gs Try.func71 #[.slice A0_1 l0_1.length c0_1] ?_
     with_reducible refine (spec_l1Own.calls _ _ l0_1 t168 _ ?side1 ?side2 A5.out).mono ?_
     (case side1 => exact ck HR0_1 HB)
     (case side2 => exact HC0_1.out)
     rintro e w94 ⟨v169, rfl, ho0, hb⟩
     refine ⟨_, rfl, ?_⟩
     have HO170 := Aside0.mk (Kd.R_lower (Kd.R_new' ho0 (Kd.R_lt (rk HO167))) (below_size (bw HB)))
     replace HO167 := Aside0.mk (Kd.R_elder' (rk HO167) (Kd.R_base ho0) hb)
     replace BK161 := bb BK161 hb
     replace BK162 := bb BK162 hb
     replace BK163 := bb BK163 hb
     replace HB := bs HB hb
     (try clear hb); (try clear hb2); (try clear hk); (try clear hi); (try clear ho0)
     obtain ⟨Ao95, co95, eo95⟩ := Kd.R_slice HO170.out
     (first | subst eo95 | (injection eo95 with f1_ f2_ f3_; have f4_ := f1_.symm; have f5_ := f3_.symm; clear f1_ f2_ f3_; subst f4_; subst f5_))
     obtain ⟨Ao96, co96, eo96⟩ := Kd.R_slice HO167.out
     (first | subst eo96 | (injection eo96 with f1_ f2_ f3_; have f4_ := f1_.symm; have f5_ := f3_.symm; clear f1_ f2_ f3_; subst f4_; subst f5_))
     refine hK.out _ _ ⟨bc0 BK161, bc1 BK161⟩ (fun hHeld => ?_)
     clear hK K
     refine norm_ (a' := ?_) ?_ ?_; rotate_left; (show Act.put _ (some 15) _ = _; simp only [sqa, sqb, sqc, sqd, i64_w, i32_w]; rfl)
     refine pu 6 16 (bl 9 127) HT_.out (v := ?_) (a' := ?_) ?_ ?_ ?_
     rotate_left; (intro w'; go_simp; with_reducible rfl); rotate_left; (simp only [sqa, sqb, sqc, sqd, i64_w, i32_w]; rfl)
     refine on 7 6 (bl 9 255) HT_.out (fun K hK => ?_)
     refine box_step ?hg (N := 6) ?hd (cs := #[.slice none 0 0, .slice none 0 0]) (t := 29) ?hr ?_; (case hd => rfl); (case hg => rfl); (case hr => first | (go_simp; done) | (go_simp; rfl))
     intro gb171 hg w97 hbox hb
     replace HO167 := rb HO167 hb
     replace HO170 := rb HO170 hb
     have BK171 := Aside0.mk (hbox)
     have GW171 := ge HB hg
     have GE171 := ge HB hg
     replace HB := bs HB hb
     have NB161_171 := nl BK161 hg
     have NB171_161 := nr BK161 hg
     replace BK161 := bb BK161 hb
     have NB162_171 := nl BK162 hg
     have NB171_162 := nr BK162 hg
     replace BK162 := bb BK162 hb
     have NB163_171 := nl BK163 hg
     have NB171_163 := nr BK163 hg
     replace BK163 := bb BK163 hb
     clear hb hbox hg
     refine hK.out _ _ ⟨bc0 BK161, bc1 BK161⟩ (fun hHeld => ?_)
     clear hK K
     refine norm_ (a' := ?_) ?_ ?_; rotate_left; (show Act.put _ (some 6) _ = _; simp only [sqa, sqb, sqc, sqd, i64_w, i32_w]; rfl)
     exact norm_ (by simp only [putAll, Act.put, List.setIfInBounds_toArray, List.set_cons_zero, List.set_cons_succ]) (hCont (.slice Ao96 t165.length co96, .slice Ao95 t168.length co95, gb171) _ ⟨hHeld, (by exact Kd.R_mono HO167.out (fun _ hk => hk.2)), (by exact Kd.R_mono HO170.out (fun _ hk => hk.2)), (bk BK161), (bk BK162), (bk BK163), (bk BK171), GW171.out, GE171.out, NB161_171.out, NB171_161.out, NB162_171.out, NB171_162.out, NB163_171.out, NB171_163.out, (bw HB)⟩)
    ·skip
     refine box_step ?hg (N := 6) ?hd (cs := #[.slice none 0 0, .slice none 0 0]) (t := 29) ?hr ?_; (case hd => rfl); (case hg => rfl); (case hr => first | (go_simp; done) | (go_simp; rfl))
     intro gb171 hg w94 hbox hb
     replace HO167 := rb HO167 hb
     have BK171 := Aside0.mk (hbox)
     have GW171 := ge HB hg
     have GE171 := ge HB hg
     replace HB := bs HB hb
     have NB161_171 := nl BK161 hg
     have NB171_161 := nr BK161 hg
     replace BK161 := bb BK161 hb
     have NB162_171 := nl BK162 hg
     have NB171_162 := nr BK162 hg
     replace BK162 := bb BK162 hb
     have NB163_171 := nl BK163 hg
     have NB171_163 := nr BK163 hg
     replace BK163 := bb BK163 hb
     clear hb hbox hg
     refine hK.out _ _ ⟨bc0 BK161, bc1 BK161⟩ (fun hHeld => ?_)
     clear hK K
     refine norm_ (a' := ?_) ?_ ?_; rotate_left; (show Act.put _ (some 6) _ = _; simp only [sqa, sqb, sqc, sqd, i64_w, i32_w]; rfl)
     refine on 5 15 (bl 9 191) HT_.out (fun K hK => ?_)
     refine gs Try.func71 #[.slice A0_1 l0_1.length c0_1] ?_
     with_reducible refine (spec_l1Own.calls _ _ l0_1 t168 _ ?side1 ?side2 A5.out).mono ?_
     (case side1 => exact ck HR0_1 HB)
     (case side2 => exact HC0_1.out)
     rintro e w95 ⟨v169, rfl, ho0, hb⟩
     refine ⟨_, rfl, ?_⟩
     have HO170 := Aside0.mk (Kd.R_lower (Kd.R_new' ho0 (Kd.R_lt (rk HO167))) (below_size (bw HB)))
     replace HO167 := Aside0.mk (Kd.R_elder' (rk HO167) (Kd.R_base ho0) hb)
     replace BK161 := bb BK161 hb
     replace BK162 := bb BK162 hb
     replace BK163 := bb BK163 hb
     replace BK171 := bb BK171 hb
     replace HB := bs HB hb
     (try clear hb); (try clear hb2); (try clear hk); (try clear hi); (try clear ho0)
     obtain ⟨Ao96, co96, eo96⟩ := Kd.R_slice HO170.out
     (first | subst eo96 | (injection eo96 with f1_ f2_ f3_; have f4_ := f1_.symm; have f5_ := f3_.symm; clear f1_ f2_ f3_; subst f4_; subst f5_))
     obtain ⟨Ao97, co97, eo97⟩ := Kd.R_slice HO167.out
     (first | subst eo97 | (injection eo97 with f1_ f2_ f3_; have f4_ := f1_.symm; have f5_ := f3_.symm; clear f1_ f2_ f3_; subst f4_; subst f5_))
     refine hK.out _ _ ⟨bc0 BK161, bc1 BK161⟩ (fun hHeld => ?_)
     clear hK K
     refine norm_ (a' := ?_) ?_ ?_; rotate_left; (show Act.put _ (some 15) _ = _; simp only [sqa, sqb, sqc, sqd, i64_w, i32_w]; rfl)
     refine pu 6 16 (bl 9 255) HT_.out (v := ?_) (a' := ?_) ?_ ?_ ?_
     rotate_left; (intro w'; go_simp; with_reducible rfl); rotate_left; (simp only [sqa, sqb, sqc, sqd, i64_w, i32_w]; rfl)
     exact norm_ (by simp only [putAll, Act.put, List.setIfInBounds_toArray, List.set_cons_zero, List.set_cons_succ]) (hCont (.slice Ao97 t165.length co97, .slice Ao96 t168.length co96, gb171) _ ⟨hHeld, (by exact Kd.R_mono HO167.out (fun _ hk => hk.2)), (by exact Kd.R_mono HO170.out (fun _ hk => hk.2)), (bk BK161), (bk BK162), (bk BK163), (bk BK171), GW171.out, GE171.out, NB161_171.out, NB171_161.out, NB162_171.out, NB171_162.out, NB163_171.out, NB171_163.out, (bw HB)⟩)
   ·skip
    refine box_step ?hg (N := 6) ?hd (cs := #[.slice none 0 0, .slice none 0 0]) (t := 29) ?hr ?_; (case hd => rfl); (case hg => rfl); (case hr => first | (go_simp; done) | (go_simp; rfl))
    intro gb171 hg w93 hbox hb
    have BK171 := Aside0.mk (hbox)
    have GW171 := ge HB hg
    have GE171 := ge HB hg
    replace HB := bs HB hb
    have NB161_171 := nl BK161 hg
    have NB171_161 := nr BK161 hg
    replace BK161 := bb BK161 hb
    have NB162_171 := nl BK162 hg
    have NB171_162 := nr BK162 hg
    replace BK162 := bb BK162 hb
    have NB163_171 := nl BK163 hg
    have NB171_163 := nr BK163 hg
    replace BK163 := bb BK163 hb
    clear hb hbox hg
    refine hK.out _ _ ⟨bc0 BK161, bc1 BK161⟩ (fun hHeld => ?_)
    clear hK K
    refine norm_ (a' := ?_) ?_ ?_; rotate_left; (show Act.put _ (some 6) _ = _; simp only [sqa, sqb, sqc, sqd, i64_w, i32_w]; rfl)
    refine on 2 12 (bl 9 159) HT_.out (fun K hK => ?_)
    refine gs Try.func71 #[.slice A0_0 l0_0.length c0_0] ?_
    with_reducible refine (spec_l1Own.calls _ _ l0_0 t165 _ ?side1 ?side2 A4.out).mono ?_
    (case side1 => exact ck HR0_0 HB)
    (case side2 => exact HC0_0.out)
    rintro e w94 ⟨v166, rfl, ho0, hb⟩
    refine ⟨_, rfl, ?_⟩
    have HO167 := lo ho0 HB
    replace BK161 := bb BK161 hb
    replace BK162 := bb BK162 hb
    replace BK163 := bb BK163 hb
    replace BK171 := bb BK171 hb
    replace HB := bs HB hb
    (try clear hb); (try clear hb2); (try clear hk); (try clear hi); (try clear ho0)
    refine hK.out _ _ ⟨bc0 BK161, bc1 BK161⟩ (fun hHeld => ?_)
    clear hK K
    refine norm_ (a' := ?_) ?_ ?_; rotate_left; (show Act.put _ (some 12) _ = _; simp only [sqa, sqb, sqc, sqd, i64_w, i32_w]; rfl)
    refine on 5 15 (bl 9 191) HT_.out (fun K hK => ?_)
    refine gs Try.func71 #[.slice A0_1 l0_1.length c0_1] ?_
    with_reducible refine (spec_l1Own.calls _ _ l0_1 t168 _ ?side1 ?side2 A5.out).mono ?_
    (case side1 => exact ck HR0_1 HB)
    (case side2 => exact HC0_1.out)
    rintro e w95 ⟨v169, rfl, ho0, hb⟩
    refine ⟨_, rfl, ?_⟩
    have HO170 := Aside0.mk (Kd.R_lower (Kd.R_new' ho0 (Kd.R_lt (rk HO167))) (below_size (bw HB)))
    replace HO167 := Aside0.mk (Kd.R_elder' (rk HO167) (Kd.R_base ho0) hb)
    replace BK161 := bb BK161 hb
    replace BK162 := bb BK162 hb
    replace BK163 := bb BK163 hb
    replace BK171 := bb BK171 hb
    replace HB := bs HB hb
    (try clear hb); (try clear hb2); (try clear hk); (try clear hi); (try clear ho0)
    obtain ⟨Ao96, co96, eo96⟩ := Kd.R_slice HO170.out
    (first | subst eo96 | (injection eo96 with f1_ f2_ f3_; have f4_ := f1_.symm; have f5_ := f3_.symm; clear f1_ f2_ f3_; subst f4_; subst f5_))
    obtain ⟨Ao97, co97, eo97⟩ := Kd.R_slice HO167.out
    (first | subst eo97 | (injection eo97 with f1_ f2_ f3_; have f4_ := f1_.symm; have f5_ := f3_.symm; clear f1_ f2_ f3_; subst f4_; subst f5_))
    refine hK.out _ _ ⟨bc0 BK161, bc1 BK161⟩ (fun hHeld => ?_)
    clear hK K
    refine norm_ (a' := ?_) ?_ ?_; rotate_left; (show Act.put _ (some 15) _ = _; simp only [sqa, sqb, sqc, sqd, i64_w, i32_w]; rfl)
    refine pu 6 16 (bl 9 255) HT_.out (v := ?_) (a' := ?_) ?_ ?_ ?_
    rotate_left; (intro w'; go_simp; with_reducible rfl); rotate_left; (simp only [sqa, sqb, sqc, sqd, i64_w, i32_w]; rfl)
    exact norm_ (by simp only [putAll, Act.put, List.setIfInBounds_toArray, List.set_cons_zero, List.set_cons_succ]) (hCont (.slice Ao97 t165.length co97, .slice Ao96 t168.length co96, gb171) _ ⟨hHeld, (by exact Kd.R_mono HO167.out (fun _ hk => hk.2)), (by exact Kd.R_mono HO170.out (fun _ hk => hk.2)), (bk BK161), (bk BK162), (bk BK163), (bk BK171), GW171.out, GE171.out, NB161_171.out, NB171_161.out, NB162_171.out, NB171_162.out, NB163_171.out, NB171_163.out, (bw HB)⟩)
  rintro ⟨v166, v169, gb171⟩ w98 ⟨hS_, h0_, h1_, h2_, h3_, h4_, h5_, h6_, h7_, h8_, h9_, h10_, h11_, h12_, h13_, h14_⟩
  have HO167 := Aside0.mk h0_
  have HO170 := Aside0.mk h1_
  replace BK161 := Aside0.mk h2_
  replace BK162 := Aside0.mk h3_
  replace BK163 := Aside0.mk h4_
  have BK171 := Aside0.mk h5_
  have GW171 := GeC.mk h6_
  have GE171 := GeC.mk h7_
  have NB161_171 := NeC.mk h8_
  have NB171_161 := NeC.mk h9_
  have NB162_171 := NeC.mk h10_
  have NB171_162 := NeC.mk h11_
  have NB163_171 := NeC.mk h12_
  have NB171_163 := NeC.mk h13_
  replace HB := Aside0.mk h14_
  clear h0_ h1_ h2_ h3_ h4_ h5_ h6_ h7_ h8_ h9_ h10_ h11_ h12_ h13_ h14_
  have hHeld : w98.cell? ⟨gb161, 0, none⟩ = some (.slice A0_0 l0_0.length c0_0) ∧ w98.cell? ⟨gb161, 1, none⟩ = some (.slice A0_1 l0_1.length c0_1) := hS_
  obtain ⟨Ao99, co99, eo99⟩ := Kd.R_slice HO170.out
  (first | subst eo99 | (injection eo99 with f1_ f2_ f3_; have f4_ := f1_.symm; have f5_ := f3_.symm; clear f1_ f2_ f3_; subst f4_; subst f5_))
  obtain ⟨Ao100, co100, eo100⟩ := Kd.R_slice HO167.out
  (first | subst eo100 | (injection eo100 with f1_ f2_ f3_; have f4_ := f1_.symm; have f5_ := f3_.symm; clear f1_ f2_ f3_; subst f4_; subst f5_))
  refine norm_ (a' := ?_) ?_ ?_
  rotate_left
  ·simp only [putAll, Act.put, List.setIfInBounds_toArray, List.set_cons_zero, List.set_cons_succ]
   rfl
  refine one_ (i := 8) (N := none) (bl 9 511) rfl rfl (one_of HT_.out (by kernel_rfl)) (by decide) (fun K hK => ?_)
  have hs101 : w98.cell? ⟨gb171, 0, none⟩ = some (.slice none 0 0) := bc0 BK171
  have hfs101 := blk_frozen BK171.out 0
  have hns101_0 := NB161_171.out
  have hns101_1 := NB162_171.out
  have hns101_2 := NB163_171.out
  have hms101_0 := NB171_161.out
  have hms101_1 := NB171_162.out
  have hms101_2 := NB171_163.out
  have hs102 : w98.cell? ⟨gb171, 1, none⟩ = some (.slice none 0 0) := bc1 BK171
  have hfs102 := blk_frozen BK171.out 1
  have hns102_0 := NB161_171.out
  have hns102_1 := NB162_171.out
  have hns102_2 := NB163_171.out
  have hms102_0 := NB171_161.out
  have hms102_1 := NB171_162.out
  have hms102_2 := NB171_163.out
  refine skip_ (w1 := ?_) (by rfl) rfl ?_ ?_
  rotate_left
  ·go_simp
   rfl
  refine hK.out _ _ ⟨((cell_far (p := ⟨gb171, _, none⟩) NB161_171.out _).trans (((cell_far (p := ⟨gb171, _, none⟩) NB161_171.out _).trans (hHeld.1)))), ((cell_far (p := ⟨gb171, _, none⟩) NB161_171.out _).trans (((cell_far (p := ⟨gb171, _, none⟩) NB161_171.out _).trans (hHeld.2))))⟩ (fun hHeld => ?_)
  clear hK K
  refine done_ (done_of HT_.out (by kernel_rfl)) ?_
  have n0_ : Aside0 (Kd.R (Kd.int .i64) 3 ((w98.setCell ⟨gb171, 0, none⟩ (.slice Ao100 t165.length co100)).setCell ⟨gb171, 1, none⟩ (.slice Ao99 t168.length co99)) w.heap.size (fun k_ => some k_ ≠ (.slice Ao99 t168.length co99 : Value).ownBlock) (.slice Ao100 t165.length co100) t165) := ⟨by exact Kd.R_mono (Kd.R_far (p := ⟨gb171, 1, none⟩) (Kd.R_far (p := ⟨gb171, 0, none⟩) (Kd.R_types HO167.out BK171.out (by decide)) (fun _ hk => hk.2) (.slice Ao100 t165.length co100)) (fun _ hk => hk.2) (.slice Ao99 t168.length co99)) (fun _ hk => hk.1)⟩
  have n1_ : Aside0 (Kd.R (Kd.int .i64) 3 ((w98.setCell ⟨gb171, 0, none⟩ (.slice Ao100 t165.length co100)).setCell ⟨gb171, 1, none⟩ (.slice Ao99 t168.length co99)) w.heap.size (fun k_ => some k_ ≠ (.slice Ao100 t165.length co100 : Value).ownBlock) (.slice Ao99 t168.length co99) t168) := ⟨by exact Kd.R_mono (Kd.R_far (p := ⟨gb171, 1, none⟩) (Kd.R_far (p := ⟨gb171, 0, none⟩) (Kd.R_types HO170.out BK171.out (by decide)) (fun _ hk => hk.2) (.slice Ao100 t165.length co100)) (fun _ hk => hk.2) (.slice Ao99 t168.length co99)) (fun _ hk => hk.1)⟩
  have n2_ : Aside0 (((w98.setCell ⟨gb171, 0, none⟩ (.slice Ao100 t165.length co100)).setCell ⟨gb171, 1, none⟩ (.slice Ao99 t168.length co99)).heap[gb161]? = some (.cells #[.slice A0_0 l0_0.length c0_0, .slice A0_1 l0_1.length c0_1] 29 (0, 0))) := ⟨bk BK161⟩
  have n3_ : Aside0 (((w98.setCell ⟨gb171, 0, none⟩ (.slice Ao100 t165.length co100)).setCell ⟨gb171, 1, none⟩ (.slice Ao99 t168.length co99)).heap[gb162]? = some (.cells #[.int .i64 a1_0, .int .i64 a1_1] 49 (0, 0))) := ⟨bk BK162⟩
  have n4_ : Aside0 (((w98.setCell ⟨gb171, 0, none⟩ (.slice Ao100 t165.length co100)).setCell ⟨gb171, 1, none⟩ (.slice Ao99 t168.length co99)).heap[gb163]? = some (.cells #[.slice none 0 0, .slice none 0 0] 29 (0, 0))) := ⟨bk BK163⟩
  have n5_ : Aside0 (((w98.setCell ⟨gb171, 0, none⟩ (.slice Ao100 t165.length co100)).setCell ⟨gb171, 1, none⟩ (.slice Ao99 t168.length co99)).heap[gb171]? = some (.cells #[.slice Ao100 t165.length co100, .slice Ao99 t168.length co99] 29 (0, 0))) := ⟨by refine blk_put (cs := #[.slice Ao100 t165.length co100, .slice none 0 0]) ?_ 1 _ rfl; refine blk_put (cs := #[.slice none 0 0, .slice none 0 0]) ?_ 0 _ rfl; exact bk BK171⟩
  have n6_ : Aside0 (Below w.heap.size w ((w98.setCell ⟨gb171, 0, none⟩ (.slice Ao100 t165.length co100)).setCell ⟨gb171, 1, none⟩ (.slice Ao99 t168.length co99))) := ⟨bw HB⟩
  (try clear HO167); (try clear HO170); (try clear BK161); (try clear BK162); (try clear BK163); (try clear BK171); (try clear HB)
  generalize ((w98.setCell ⟨gb171, 0, none⟩ (.slice Ao100 t165.length co100)).setCell ⟨gb171, 1, none⟩ (.slice Ao99 t168.length co99)) = w103 at n0_ n1_ n2_ n3_ n4_ n5_ n6_ ⊢
  have HO167 := n0_
  have HO170 := n1_
  have BK161 := n2_
  have BK162 := n3_
  have BK163 := n4_
  have BK171 := n5_
  have HB := n6_
  clear n0_ n1_ n2_ n3_ n4_ n5_ n6_
  have hnb104 := NB162_171.out
  have hnc104 := NB171_162.out
  have hcz105_0 := bc0 BK162
  have hcz105_1 := bc1 BK162
  have hfz105_0 := blk_frozen BK162.out 0
  have hfz105_1 := blk_frozen BK162.out 1
  have hnb106 := NB171_161.out
  have hnc106 := NB161_171.out
  have hnb107 := NB171_163.out
  have hnc107 := NB163_171.out
  have hcz108_0 := bc0 BK171
  have hcz108_1 := bc1 BK171
  have hfz108_0 := blk_frozen BK171.out 0
  have hfz108_1 := blk_frozen BK171.out 1
  have p176 : 0 ≤ (a1_1 : Int) := of_decide_eq_true ‹_›
  have q176 : a1_1 < (t168.length : Int) := of_decide_eq_true ‹_›
  obtain ⟨ad176, e176, hx176_0⟩ := Kd.at_int (Kd.R_reads' HO170.out).2.2 a1_1 p176 q176
  cases e176
  replace p176 := eq_true p176
  replace q176 := eq_true q176
  have p82 : 0 ≤ (a1_1 : Int) := of_decide_eq_true ‹_›
  have q82 : (a1_1 : Int) < ((t168.length : Int) : Int) := of_decide_eq_true ‹_›
  obtain ⟨go82, co82, eo82, gb82, gl82, cl82, HG82⟩ := Kd.R_form HO170.out (by omega)
  (first | cases eo82 | (injection eo82 with ea_ en_ ec_; (first | subst ea_ | (injection ea_ with ea_; subst ea_)); subst ec_; clear en_))
  have GB82 := Aside0.mk gb82
  have GG82 := Aside0.mk HG82
  clear gb82 gl82 HG82
  (first | simp only [add_plain] at hx176_0 | skip)
  obtain ⟨hx82_0, hf82_0⟩ := Kd.R_celln 0 HO170.out (a1_1 : Int) p82 q82
  replace p82 := eq_true p82
  replace q82 := eq_true q82
  obtain ⟨hy109_, hz109_⟩ := Kd.R_celln 0 HO170.out (a1_1 : Int) (of_decide_eq_true ‹_›) (of_decide_eq_true ‹_›)
  have HP109 := Kd.R_putg HO170.out (a1_1 : Int) (wrap64 ((rd t168 a1_1) + t164))
  try go_wp2_with (first | ((with_reducible refine gate_store (t := 3) (p := 40) rfl ?_); refine store_event (t := 3) (p := 40) (v := ?vo_w110) (w1 := (w103.setCell ⟨go82, (a1_1 : Int).toNat, none⟩ (.int .i64 (wrap64 ((rd t168 a1_1) + t164))))) ?hg ?ho ?hn ?hr ?_; (case ho => rfl); (case hg => rfl); (case hn => rfl); (case hr => first | (go_simp; done) | (go_simp; rfl)); intro w110 hw; have hg : w103.grownBy w110 (some go82) := (by rw [hw]; exact HP109.2); have hp_ : Kd.R (Kd.int .i64) 3 w110 w.heap.size (fun k_ => some k_ ≠ (.slice Ao100 t165.length co100 : Value).ownBlock) (.slice (some ⟨go82, 0, none⟩) t168.length co99) y177 := (by rw [hw, Ny177.out]; exact HP109.1); clear HP109; replace BK161 := Aside0.mk (blk_grown (g := gb161) (o := .cells #[.slice A0_0 l0_0.length c0_0, .slice A0_1 l0_1.length c0_1] 29 (0, 0)) (bk BK161) hg (Kd.R_ne HO170.out BK161.out (by decide))); replace BK162 := Aside0.mk (blk_grown (g := gb162) (o := .cells #[.int .i64 a1_0, .int .i64 a1_1] 49 (0, 0)) (bk BK162) hg (Kd.R_ne HO170.out BK162.out (by decide))); replace BK163 := Aside0.mk (blk_grown (g := gb163) (o := .cells #[.slice none 0 0, .slice none 0 0] 29 (0, 0)) (bk BK163) hg (Kd.R_ne HO170.out BK163.out (by decide))); replace HO167 := Aside0.mk (Kd.R_after (v := (.slice (some ⟨go82, 0, none⟩) t168.length co99)) (v1 := (.slice (some ⟨go82, 0, none⟩) t168.length co99)) (ok := (fun _ => True)) (by exact Kd.R_mono HO167.out (fun _ hk => ⟨trivial, hk⟩)) hg (.inl rfl)); replace BK171 := Aside0.mk (blk_grown (g := gb171) (o := .cells #[.slice Ao100 t165.length co100, .slice (some ⟨go82, 0, none⟩) t168.length co99] 29 (0, 0)) (bk BK171) hg (Kd.R_ne HO170.out BK171.out (by decide))); replace HO170 := Aside0.mk (hp_); replace HB := Aside0.mk ((by rw [hw]; exact below_set (HB.out) GB82.out : Below w.heap.size w w110)); clear hg hw hp_; have hcz111_0 := bc0 BK171; have hcz111_1 := bc1 BK171; have hfz111_0 := blk_frozen BK171.out 0; have hfz111_1 := blk_frozen BK171.out 1; have hcz112_0 := bc0 BK163; have hcz112_1 := bc1 BK163; have hfz112_0 := blk_frozen BK163.out 0; have hfz112_1 := blk_frozen BK163.out 1))
  refine bodyPost_ret (results_cell_row rfl _ _ gb163 29 #[.slice Ao100 t165.length co100, .slice (some ⟨go82, 0, none⟩) t168.length co99] (0, 0) _ rfl (by refine blk_put (cs := #[.slice Ao100 t165.length co100, .slice none 0 0]) ?_ 1 _ rfl; refine blk_put (cs := #[.slice none 0 0, .slice none 0 0]) ?_ 0 _ rfl; exact bk BK163) Try.underlying29 rfl (by kernel_rfl)) rfl ?_
  exact ⟨_, _, by first | rfl | (simp [errW_none, errW_some] <;> rfl) | (simp [*, errW_none, errW_some] <;> rfl), by exact Kd.R_mono (Kd.R_far (p := ⟨gb163, 1, none⟩) (Kd.R_far (p := ⟨gb163, 0, none⟩) (Kd.R_types HO167.out BK163.out (by decide)) (fun _ hk => hk.2) (.slice Ao100 t165.length co100)) (fun _ hk => hk.2) (.slice (some ⟨go82, 0, none⟩) t168.length co99)) (fun _ hk => hk.1.2), by exact Kd.R_mono (Kd.R_far (p := ⟨gb163, 1, none⟩) (Kd.R_far (p := ⟨gb163, 0, none⟩) (Kd.R_types HO170.out BK163.out (by decide)) (fun _ hk => hk.2) (.slice Ao100 t165.length co100)) (fun _ hk => hk.2) (.slice (some ⟨go82, 0, none⟩) t168.length co99)) (fun _ hk => hk.1), bw HB⟩
 rw [if_pos c6] at H
 have c6b0 : decide (0 ≤ a1_0) = true := decide_eq_true c6
 clear c6
 by_cases c7 : 0 ≤ a1_0
 rotate_left
 ·rw [if_neg c7] at H
  exact absurd H (by simp)
 rw [if_pos c7] at H
 have c7b0 : decide (0 ≤ a1_0) = true := decide_eq_true c7
 clear c7
 by_cases c8 : a1_0 < (t168.length : Int)
 rotate_left
 ·rw [if_neg c8] at H
  exact absurd H (by simp)
 rw [if_pos c8] at H
 have c8b0 : decide (a1_0 < (t168.length : Int)) = true := decide_eq_true c8
 clear c8
 obtain ⟨y173, hy173⟩ : ∃ y_ : List Int, y_ = (t168.set (a1_0 : Int).toNat (wrap64 ((rd t168 a1_0) - t164))) := ⟨_, rfl⟩
 replace H : (if a1_1 ≥ 0 then (if 0 ≤ a1_1 then (if a1_1 < (t168.length : Int) then (some (t165, (y173.set (a1_1 : Int).toNat (wrap64 ((rd y173 a1_1) + t164))))) else (none)) else (none)) else (some (t165, y173))) = some (r1, r2) := by first | (rw [hy173]; with_reducible exact H) | (have H2_ := (Option.bind_some _ _).symm.trans H; rw [hy173]; with_reducible exact H2_) | (have H2_ := (Option.bind_some _ _).symm.trans H; with_reducible exact H2_) | with_reducible exact H | (rw [hy173]; exact H) | exact H
 have Ny173 := Aside0.mk hy173
 clear hy173
 by_cases c10 : a1_1 ≥ 0
 rotate_left
 ·rw [if_neg c10] at H
  have c10b0 : decide (0 ≤ a1_1) = false := decide_eq_false c10
  clear c10
  simp only [Option.some.injEq, Prod.mk.injEq] at H
  obtain ⟨rfl, rfl⟩ := H
  go_enter Try.func55, Try.ntmps55
  try go_wp2_with (first | ((with_reducible refine gate_dst (N := 2) rfl ?_); refine bx 2 #[.slice A0_0 l0_0.length c0_0, .slice A0_1 l0_1.length c0_1] 29 ?_; intro gb161 hg w48 hbox hb; have BK161 := Aside0.mk (hbox); have GW161 := ge HB hg; have GE161 := ge HB hg; replace HB := bs HB hb; clear hb hbox hg) | ((with_reducible refine gate_dst (N := 3) rfl ?_); refine bx 3 #[.int .i64 a1_0, .int .i64 a1_1] 49 ?_; intro gb162 hg w49 hbox hb; have BK162 := Aside0.mk (hbox); have GW162 := ge HB hg; have GE162 := ge HB hg; replace HB := bs HB hb; have NB161_162 := nl BK161 hg; have NB162_161 := nr BK161 hg; replace BK161 := bb BK161 hb; clear hb hbox hg) | ((with_reducible refine gate_dst (N := 4) rfl ?_); refine bx 4 #[.slice none 0 0, .slice none 0 0] 29 ?_; intro gb163 hg w50 hbox hb; have BK163 := Aside0.mk (hbox); have GW163 := ge HB hg; have GE163 := ge HB hg; replace HB := bs HB hb; have NB161_163 := nl BK161 hg; have NB163_161 := nr BK161 hg; replace BK161 := bb BK161 hb; have NB162_163 := nl BK162 hg; have NB163_162 := nr BK162 hg; replace BK162 := bb BK162 hb; clear hb hbox hg; have hnb51 := NB161_162.out; have hnc51 := NB162_161.out; have hnb52 := NB161_163.out; have hnc52 := NB163_161.out; have hcz53_0 := bc0 BK161; have hcz53_1 := bc1 BK161; have hfz53_0 := blk_frozen BK161.out 0; have hfz53_1 := blk_frozen BK161.out 1; have hnb54 := NB162_163.out; have hnc54 := NB163_162.out; have hcz55_0 := bc0 BK162; have hcz55_1 := bc1 BK162; have hfz55_0 := blk_frozen BK162.out 0; have hfz55_1 := blk_frozen BK162.out 1) | ((with_reducible refine gate_callee (f := 78) rfl ?_); refine gl 9 Try.func78 #[.agg #[.slice A0_0 l0_0.length c0_0, .slice A0_1 l0_1.length c0_1], .agg #[.int .i64 a1_0, .int .i64 a1_1]] ?_; (with_reducible refine (spec_veAmount.calls _ _ l0_0 _ _ l0_1 a1_0 a1_1 t164 _ ?side1 ?side2 ?side3 ?side4 A3.out).mono ?_); (case side1 => exact ck HR0_0 HB); (case side2 => exact HC0_0.out); (case side3 => exact ck HR0_1 HB); (case side4 => exact HC0_1.out); rintro e w56 ⟨rfl, hb⟩; refine ⟨_, rfl, ?_⟩; replace BK161 := bb BK161 hb; replace BK162 := bb BK162 hb; replace BK163 := bb BK163 hb; replace HB := bs HB hb; (try clear hb)))
  replace BK161 := Aside0.mk (blk_drew BK161.out)
  replace BK162 := Aside0.mk (blk_drew BK162.out)
  replace BK163 := Aside0.mk (blk_drew BK163.out)
  replace HB := Aside0.mk (below_drew1 HB.out)
  refine start_ (n := 9) (S := fun w' => w'.cell? ⟨gb161, 0, none⟩ = some (.slice A0_0 l0_0.length c0_0) ∧ w'.cell? ⟨gb161, 1, none⟩ = some (.slice A0_1 l0_1.length c0_1)) (ds := []) (bl 9 0) (by kernel_rfl) rfl rfl ⟨bc0 BK161, bc1 BK161⟩ (fun hHeld => ?_); refine with_tabW spec_veMake.tab2 spec_veMake.bits2 (fun HT_ HW_ => ?_)
  generalize w56.drew = w57 at BK161 BK162 BK163 HB hHeld ⊢
  refine pu 0 10 (bl 9 1) HT_.out (v := ?_) (a' := ?_) ?_ ?_ ?_
  rotate_left; (intro w'; go_simp; with_reducible rfl); rotate_left; (simp only [sqa, sqb, sqc, sqd, i64_w, i32_w]; rfl)
  refine pu 3 13 (bl 9 9) HT_.out (v := ?_) (a' := ?_) ?_ ?_ ?_
  rotate_left; (intro w'; go_simp; with_reducible rfl); rotate_left; (simp only [sqa, sqb, sqc, sqd, i64_w, i32_w]; rfl)
  refine tk 1 11 (bl 9 11) HT_.out HW_.out hHeld (v := ?_) (a' := ?_) ?_ ?_ ?_
  rotate_left; (rintro w' ⟨s0, s1⟩; go_simp; with_reducible rfl); rotate_left; (simp only [sqa, sqb, sqc, sqd, i64_w, i32_w]; rfl)
  refine tk 4 14 (bl 9 27) HT_.out HW_.out hHeld (v := ?_) (a' := ?_) ?_ ?_ ?_
  rotate_left; (rintro w' ⟨s0, s1⟩; go_simp; with_reducible rfl); rotate_left; (simp only [sqa, sqb, sqc, sqd, i64_w, i32_w]; rfl)
  refine join_ (σ := Value × Value × Nat) 1 (bl 9 255) (fun s_ => [(12, s_.1), (15, s_.2.1), (6, .pointer (some ⟨s_.2.2, 0, none⟩)), (16, .agg #[s_.1, s_.2.1])]) (fun s_ w' => (w'.cell? ⟨gb161, 0, none⟩ = some (.slice A0_0 l0_0.length c0_0) ∧ w'.cell? ⟨gb161, 1, none⟩ = some (.slice A0_1 l0_1.length c0_1)) ∧ (Kd.R (Kd.int .i64) 3 w' w.heap.size (fun k_ => some k_ ≠ (s_.2.1 : Value).ownBlock) s_.1 t165) ∧ (Kd.R (Kd.int .i64) 3 w' w.heap.size (fun k_ => some k_ ≠ (s_.1 : Value).ownBlock) s_.2.1 t168) ∧ (w'.heap[gb161]? = some (.cells #[.slice A0_0 l0_0.length c0_0, .slice A0_1 l0_1.length c0_1] 29 (0, 0))) ∧ (w'.heap[gb162]? = some (.cells #[.int .i64 a1_0, .int .i64 a1_1] 49 (0, 0))) ∧ (w'.heap[gb163]? = some (.cells #[.slice none 0 0, .slice none 0 0] 29 (0, 0))) ∧ (w'.heap[s_.2.2]? = some (.cells #[.slice none 0 0, .slice none 0 0] 29 (0, 0))) ∧ (w.heap.size ≤ s_.2.2) ∧ (w.heap.size ≤ s_.2.2) ∧ (gb161 ≠ s_.2.2) ∧ (s_.2.2 ≠ gb161) ∧ (gb162 ≠ s_.2.2) ∧ (s_.2.2 ≠ gb162) ∧ (gb163 ≠ s_.2.2) ∧ (s_.2.2 ≠ gb163) ∧ (Below w.heap.size w w')) ?_ ?_
  rotate_left
  ·intro hCont
   refine two_ (i := 2) (j := 7) (Ni := some 12) (Nj := some 6) (bl 9 31) (bl 9 155) rfl rfl rfl rfl (two_of HT_.out (by kernel_rfl)) (by decide) (by decide) (fun K hK => ?_) (fun K hK => ?_)
   ·skip
    refine gs Try.func71 #[.slice A0_0 l0_0.length c0_0] ?_
    with_reducible refine (spec_l1Own.calls _ _ l0_0 t165 _ ?side1 ?side2 A4.out).mono ?_
    (case side1 => exact ck HR0_0 HB)
    (case side2 => exact HC0_0.out)
    rintro e w58 ⟨v166, rfl, ho0, hb⟩
    refine ⟨_, rfl, ?_⟩
    have HO167 := lo ho0 HB
    replace BK161 := bb BK161 hb
    replace BK162 := bb BK162 hb
    replace BK163 := bb BK163 hb
    replace HB := bs HB hb
    (try clear hb); (try clear hb2); (try clear hk); (try clear hi); (try clear ho0)
    refine hK.out _ _ ⟨bc0 BK161, bc1 BK161⟩ (fun hHeld => ?_)
    clear hK K
    refine norm_ (a' := ?_) ?_ ?_; rotate_left; (show Act.put _ (some 12) _ = _; simp only [sqa, sqb, sqc, sqd, i64_w, i32_w]; rfl)
    refine two_ (i := 5) (j := 7) (Ni := some 15) (Nj := some 6) (bl 9 63) (bl 9 159) rfl rfl rfl rfl (two_of HT_.out (by kernel_rfl)) (by decide) (by decide) (fun K hK => ?_) (fun K hK => ?_)
    ·skip
     refine gs Try.func71 #[.slice A0_1 l0_1.length c0_1] ?_
     with_reducible refine (spec_l1Own.calls _ _ l0_1 t168 _ ?side1 ?side2 A5.out).mono ?_
     (case side1 => exact ck HR0_1 HB)
     (case side2 => exact HC0_1.out)
     rintro e w59 ⟨v169, rfl, ho0, hb⟩
     refine ⟨_, rfl, ?_⟩
     have HO170 := Aside0.mk (Kd.R_lower (Kd.R_new' ho0 (Kd.R_lt (rk HO167))) (below_size (bw HB)))
     replace HO167 := Aside0.mk (Kd.R_elder' (rk HO167) (Kd.R_base ho0) hb)
     replace BK161 := bb BK161 hb
     replace BK162 := bb BK162 hb
     replace BK163 := bb BK163 hb
     replace HB := bs HB hb
     (try clear hb); (try clear hb2); (try clear hk); (try clear hi); (try clear ho0)
     obtain ⟨Ao60, co60, eo60⟩ := Kd.R_slice HO170.out
     (first | subst eo60 | (injection eo60 with f1_ f2_ f3_; have f4_ := f1_.symm; have f5_ := f3_.symm; clear f1_ f2_ f3_; subst f4_; subst f5_))
     obtain ⟨Ao61, co61, eo61⟩ := Kd.R_slice HO167.out
     (first | subst eo61 | (injection eo61 with f1_ f2_ f3_; have f4_ := f1_.symm; have f5_ := f3_.symm; clear f1_ f2_ f3_; subst f4_; subst f5_))
     refine hK.out _ _ ⟨bc0 BK161, bc1 BK161⟩ (fun hHeld => ?_)
     clear hK K
     refine norm_ (a' := ?_) ?_ ?_; rotate_left; (show Act.put _ (some 15) _ = _; simp only [sqa, sqb, sqc, sqd, i64_w, i32_w]; rfl)
     refine pu 6 16 (bl 9 127) HT_.out (v := ?_) (a' := ?_) ?_ ?_ ?_
     rotate_left; (intro w'; go_simp; with_reducible rfl); rotate_left; (simp only [sqa, sqb, sqc, sqd, i64_w, i32_w]; rfl)
     refine on 7 6 (bl 9 255) HT_.out (fun K hK => ?_)
     refine box_step ?hg (N := 6) ?hd (cs := #[.slice none 0 0, .slice none 0 0]) (t := 29) ?hr ?_; (case hd => rfl); (case hg => rfl); (case hr => first | (go_simp; done) | (go_simp; rfl))
     intro gb171 hg w62 hbox hb
     replace HO167 := rb HO167 hb
     replace HO170 := rb HO170 hb
     have BK171 := Aside0.mk (hbox)
     have GW171 := ge HB hg
     have GE171 := ge HB hg
     replace HB := bs HB hb
     have NB161_171 := nl BK161 hg
     have NB171_161 := nr BK161 hg
     replace BK161 := bb BK161 hb
     have NB162_171 := nl BK162 hg
     have NB171_162 := nr BK162 hg
     replace BK162 := bb BK162 hb
     have NB163_171 := nl BK163 hg
     have NB171_163 := nr BK163 hg
     replace BK163 := bb BK163 hb
     clear hb hbox hg
     refine hK.out _ _ ⟨bc0 BK161, bc1 BK161⟩ (fun hHeld => ?_)
     clear hK K
     refine norm_ (a' := ?_) ?_ ?_; rotate_left; (show Act.put _ (some 6) _ = _; simp only [sqa, sqb, sqc, sqd, i64_w, i32_w]; rfl)
     exact norm_ (by simp only [putAll, Act.put, List.setIfInBounds_toArray, List.set_cons_zero, List.set_cons_succ]) (hCont (.slice Ao61 t165.length co61, .slice Ao60 t168.length co60, gb171) _ ⟨hHeld, (by exact Kd.R_mono HO167.out (fun _ hk => hk.2)), (by exact Kd.R_mono HO170.out (fun _ hk => hk.2)), (bk BK161), (bk BK162), (bk BK163), (bk BK171), GW171.out, GE171.out, NB161_171.out, NB171_161.out, NB162_171.out, NB171_162.out, NB163_171.out, NB171_163.out, (bw HB)⟩)
    ·skip
     refine box_step ?hg (N := 6) ?hd (cs := #[.slice none 0 0, .slice none 0 0]) (t := 29) ?hr ?_; (case hd => rfl); (case hg => rfl); (case hr => first | (go_simp; done) | (go_simp; rfl))
     intro gb171 hg w59 hbox hb
     replace HO167 := rb HO167 hb
     have BK171 := Aside0.mk (hbox)
     have GW171 := ge HB hg
     have GE171 := ge HB hg
     replace HB := bs HB hb
     have NB161_171 := nl BK161 hg
     have NB171_161 := nr BK161 hg
     replace BK161 := bb BK161 hb
     have NB162_171 := nl BK162 hg
     have NB171_162 := nr BK162 hg
     replace BK162 := bb BK162 hb
     have NB163_171 := nl BK163 hg
     have NB171_163 := nr BK163 hg
     replace BK163 := bb BK163 hb
     clear hb hbox hg
     refine hK.out _ _ ⟨bc0 BK161, bc1 BK161⟩ (fun hHeld => ?_)
     clear hK K
     refine norm_ (a' := ?_) ?_ ?_; rotate_left; (show Act.put _ (some 6) _ = _; simp only [sqa, sqb, sqc, sqd, i64_w, i32_w]; rfl)
     refine on 5 15 (bl 9 191) HT_.out (fun K hK => ?_)
     refine gs Try.func71 #[.slice A0_1 l0_1.length c0_1] ?_
     with_reducible refine (spec_l1Own.calls _ _ l0_1 t168 _ ?side1 ?side2 A5.out).mono ?_
     (case side1 => exact ck HR0_1 HB)
     (case side2 => exact HC0_1.out)
     rintro e w60 ⟨v169, rfl, ho0, hb⟩
     refine ⟨_, rfl, ?_⟩
     have HO170 := Aside0.mk (Kd.R_lower (Kd.R_new' ho0 (Kd.R_lt (rk HO167))) (below_size (bw HB)))
     replace HO167 := Aside0.mk (Kd.R_elder' (rk HO167) (Kd.R_base ho0) hb)
     replace BK161 := bb BK161 hb
     replace BK162 := bb BK162 hb
     replace BK163 := bb BK163 hb
     replace BK171 := bb BK171 hb
     replace HB := bs HB hb
     (try clear hb); (try clear hb2); (try clear hk); (try clear hi); (try clear ho0)
     obtain ⟨Ao61, co61, eo61⟩ := Kd.R_slice HO170.out
     (first | subst eo61 | (injection eo61 with f1_ f2_ f3_; have f4_ := f1_.symm; have f5_ := f3_.symm; clear f1_ f2_ f3_; subst f4_; subst f5_))
     obtain ⟨Ao62, co62, eo62⟩ := Kd.R_slice HO167.out
     (first | subst eo62 | (injection eo62 with f1_ f2_ f3_; have f4_ := f1_.symm; have f5_ := f3_.symm; clear f1_ f2_ f3_; subst f4_; subst f5_))
     refine hK.out _ _ ⟨bc0 BK161, bc1 BK161⟩ (fun hHeld => ?_)
     clear hK K
     refine norm_ (a' := ?_) ?_ ?_; rotate_left; (show Act.put _ (some 15) _ = _; simp only [sqa, sqb, sqc, sqd, i64_w, i32_w]; rfl)
     refine pu 6 16 (bl 9 255) HT_.out (v := ?_) (a' := ?_) ?_ ?_ ?_
     rotate_left; (intro w'; go_simp; with_reducible rfl); rotate_left; (simp only [sqa, sqb, sqc, sqd, i64_w, i32_w]; rfl)
     exact norm_ (by simp only [putAll, Act.put, List.setIfInBounds_toArray, List.set_cons_zero, List.set_cons_succ]) (hCont (.slice Ao62 t165.length co62, .slice Ao61 t168.length co61, gb171) _ ⟨hHeld, (by exact Kd.R_mono HO167.out (fun _ hk => hk.2)), (by exact Kd.R_mono HO170.out (fun _ hk => hk.2)), (bk BK161), (bk BK162), (bk BK163), (bk BK171), GW171.out, GE171.out, NB161_171.out, NB171_161.out, NB162_171.out, NB171_162.out, NB163_171.out, NB171_163.out, (bw HB)⟩)
   ·skip
    refine box_step ?hg (N := 6) ?hd (cs := #[.slice none 0 0, .slice none 0 0]) (t := 29) ?hr ?_; (case hd => rfl); (case hg => rfl); (case hr => first | (go_simp; done) | (go_simp; rfl))
    intro gb171 hg w58 hbox hb
    have BK171 := Aside0.mk (hbox)
    have GW171 := ge HB hg
    have GE171 := ge HB hg
    replace HB := bs HB hb
    have NB161_171 := nl BK161 hg
    have NB171_161 := nr BK161 hg
    replace BK161 := bb BK161 hb
    have NB162_171 := nl BK162 hg
    have NB171_162 := nr BK162 hg
    replace BK162 := bb BK162 hb
    have NB163_171 := nl BK163 hg
    have NB171_163 := nr BK163 hg
    replace BK163 := bb BK163 hb
    clear hb hbox hg
    refine hK.out _ _ ⟨bc0 BK161, bc1 BK161⟩ (fun hHeld => ?_)
    clear hK K
    refine norm_ (a' := ?_) ?_ ?_; rotate_left; (show Act.put _ (some 6) _ = _; simp only [sqa, sqb, sqc, sqd, i64_w, i32_w]; rfl)
    refine on 2 12 (bl 9 159) HT_.out (fun K hK => ?_)
    refine gs Try.func71 #[.slice A0_0 l0_0.length c0_0] ?_
    with_reducible refine (spec_l1Own.calls _ _ l0_0 t165 _ ?side1 ?side2 A4.out).mono ?_
    (case side1 => exact ck HR0_0 HB)
    (case side2 => exact HC0_0.out)
    rintro e w59 ⟨v166, rfl, ho0, hb⟩
    refine ⟨_, rfl, ?_⟩
    have HO167 := lo ho0 HB
    replace BK161 := bb BK161 hb
    replace BK162 := bb BK162 hb
    replace BK163 := bb BK163 hb
    replace BK171 := bb BK171 hb
    replace HB := bs HB hb
    (try clear hb); (try clear hb2); (try clear hk); (try clear hi); (try clear ho0)
    refine hK.out _ _ ⟨bc0 BK161, bc1 BK161⟩ (fun hHeld => ?_)
    clear hK K
    refine norm_ (a' := ?_) ?_ ?_; rotate_left; (show Act.put _ (some 12) _ = _; simp only [sqa, sqb, sqc, sqd, i64_w, i32_w]; rfl)
    refine on 5 15 (bl 9 191) HT_.out (fun K hK => ?_)
    refine gs Try.func71 #[.slice A0_1 l0_1.length c0_1] ?_
    with_reducible refine (spec_l1Own.calls _ _ l0_1 t168 _ ?side1 ?side2 A5.out).mono ?_
    (case side1 => exact ck HR0_1 HB)
    (case side2 => exact HC0_1.out)
    rintro e w60 ⟨v169, rfl, ho0, hb⟩
    refine ⟨_, rfl, ?_⟩
    have HO170 := Aside0.mk (Kd.R_lower (Kd.R_new' ho0 (Kd.R_lt (rk HO167))) (below_size (bw HB)))
    replace HO167 := Aside0.mk (Kd.R_elder' (rk HO167) (Kd.R_base ho0) hb)
    replace BK161 := bb BK161 hb
    replace BK162 := bb BK162 hb
    replace BK163 := bb BK163 hb
    replace BK171 := bb BK171 hb
    replace HB := bs HB hb
    (try clear hb); (try clear hb2); (try clear hk); (try clear hi); (try clear ho0)
    obtain ⟨Ao61, co61, eo61⟩ := Kd.R_slice HO170.out
    (first | subst eo61 | (injection eo61 with f1_ f2_ f3_; have f4_ := f1_.symm; have f5_ := f3_.symm; clear f1_ f2_ f3_; subst f4_; subst f5_))
    obtain ⟨Ao62, co62, eo62⟩ := Kd.R_slice HO167.out
    (first | subst eo62 | (injection eo62 with f1_ f2_ f3_; have f4_ := f1_.symm; have f5_ := f3_.symm; clear f1_ f2_ f3_; subst f4_; subst f5_))
    refine hK.out _ _ ⟨bc0 BK161, bc1 BK161⟩ (fun hHeld => ?_)
    clear hK K
    refine norm_ (a' := ?_) ?_ ?_; rotate_left; (show Act.put _ (some 15) _ = _; simp only [sqa, sqb, sqc, sqd, i64_w, i32_w]; rfl)
    refine pu 6 16 (bl 9 255) HT_.out (v := ?_) (a' := ?_) ?_ ?_ ?_
    rotate_left; (intro w'; go_simp; with_reducible rfl); rotate_left; (simp only [sqa, sqb, sqc, sqd, i64_w, i32_w]; rfl)
    exact norm_ (by simp only [putAll, Act.put, List.setIfInBounds_toArray, List.set_cons_zero, List.set_cons_succ]) (hCont (.slice Ao62 t165.length co62, .slice Ao61 t168.length co61, gb171) _ ⟨hHeld, (by exact Kd.R_mono HO167.out (fun _ hk => hk.2)), (by exact Kd.R_mono HO170.out (fun _ hk => hk.2)), (bk BK161), (bk BK162), (bk BK163), (bk BK171), GW171.out, GE171.out, NB161_171.out, NB171_161.out, NB162_171.out, NB171_162.out, NB163_171.out, NB171_163.out, (bw HB)⟩)
  rintro ⟨v166, v169, gb171⟩ w63 ⟨hS_, h0_, h1_, h2_, h3_, h4_, h5_, h6_, h7_, h8_, h9_, h10_, h11_, h12_, h13_, h14_⟩
  have HO167 := Aside0.mk h0_
  have HO170 := Aside0.mk h1_
  replace BK161 := Aside0.mk h2_
  replace BK162 := Aside0.mk h3_
  replace BK163 := Aside0.mk h4_
  have BK171 := Aside0.mk h5_
  have GW171 := GeC.mk h6_
  have GE171 := GeC.mk h7_
  have NB161_171 := NeC.mk h8_
  have NB171_161 := NeC.mk h9_
  have NB162_171 := NeC.mk h10_
  have NB171_162 := NeC.mk h11_
  have NB163_171 := NeC.mk h12_
  have NB171_163 := NeC.mk h13_
  replace HB := Aside0.mk h14_
  clear h0_ h1_ h2_ h3_ h4_ h5_ h6_ h7_ h8_ h9_ h10_ h11_ h12_ h13_ h14_
  have hHeld : w63.cell? ⟨gb161, 0, none⟩ = some (.slice A0_0 l0_0.length c0_0) ∧ w63.cell? ⟨gb161, 1, none⟩ = some (.slice A0_1 l0_1.length c0_1) := hS_
  obtain ⟨Ao64, co64, eo64⟩ := Kd.R_slice HO170.out
  (first | subst eo64 | (injection eo64 with f1_ f2_ f3_; have f4_ := f1_.symm; have f5_ := f3_.symm; clear f1_ f2_ f3_; subst f4_; subst f5_))
  obtain ⟨Ao65, co65, eo65⟩ := Kd.R_slice HO167.out
  (first | subst eo65 | (injection eo65 with f1_ f2_ f3_; have f4_ := f1_.symm; have f5_ := f3_.symm; clear f1_ f2_ f3_; subst f4_; subst f5_))
  refine norm_ (a' := ?_) ?_ ?_
  rotate_left
  ·simp only [putAll, Act.put, List.setIfInBounds_toArray, List.set_cons_zero, List.set_cons_succ]
   rfl
  refine one_ (i := 8) (N := none) (bl 9 511) rfl rfl (one_of HT_.out (by kernel_rfl)) (by decide) (fun K hK => ?_)
  have hs66 : w63.cell? ⟨gb171, 0, none⟩ = some (.slice none 0 0) := bc0 BK171
  have hfs66 := blk_frozen BK171.out 0
  have hns66_0 := NB161_171.out
  have hns66_1 := NB162_171.out
  have hns66_2 := NB163_171.out
  have hms66_0 := NB171_161.out
  have hms66_1 := NB171_162.out
  have hms66_2 := NB171_163.out
  have hs67 : w63.cell? ⟨gb171, 1, none⟩ = some (.slice none 0 0) := bc1 BK171
  have hfs67 := blk_frozen BK171.out 1
  have hns67_0 := NB161_171.out
  have hns67_1 := NB162_171.out
  have hns67_2 := NB163_171.out
  have hms67_0 := NB171_161.out
  have hms67_1 := NB171_162.out
  have hms67_2 := NB171_163.out
  refine skip_ (w1 := ?_) (by rfl) rfl ?_ ?_
  rotate_left
  ·go_simp
   rfl
  refine hK.out _ _ ⟨((cell_far (p := ⟨gb171, _, none⟩) NB161_171.out _).trans (((cell_far (p := ⟨gb171, _, none⟩) NB161_171.out _).trans (hHeld.1)))), ((cell_far (p := ⟨gb171, _, none⟩) NB161_171.out _).trans (((cell_far (p := ⟨gb171, _, none⟩) NB161_171.out _).trans (hHeld.2))))⟩ (fun hHeld => ?_)
  clear hK K
  refine done_ (done_of HT_.out (by kernel_rfl)) ?_
  have n0_ : Aside0 (Kd.R (Kd.int .i64) 3 ((w63.setCell ⟨gb171, 0, none⟩ (.slice Ao65 t165.length co65)).setCell ⟨gb171, 1, none⟩ (.slice Ao64 t168.length co64)) w.heap.size (fun k_ => some k_ ≠ (.slice Ao64 t168.length co64 : Value).ownBlock) (.slice Ao65 t165.length co65) t165) := ⟨by exact Kd.R_mono (Kd.R_far (p := ⟨gb171, 1, none⟩) (Kd.R_far (p := ⟨gb171, 0, none⟩) (Kd.R_types HO167.out BK171.out (by decide)) (fun _ hk => hk.2) (.slice Ao65 t165.length co65)) (fun _ hk => hk.2) (.slice Ao64 t168.length co64)) (fun _ hk => hk.1)⟩
  have n1_ : Aside0 (Kd.R (Kd.int .i64) 3 ((w63.setCell ⟨gb171, 0, none⟩ (.slice Ao65 t165.length co65)).setCell ⟨gb171, 1, none⟩ (.slice Ao64 t168.length co64)) w.heap.size (fun k_ => some k_ ≠ (.slice Ao65 t165.length co65 : Value).ownBlock) (.slice Ao64 t168.length co64) t168) := ⟨by exact Kd.R_mono (Kd.R_far (p := ⟨gb171, 1, none⟩) (Kd.R_far (p := ⟨gb171, 0, none⟩) (Kd.R_types HO170.out BK171.out (by decide)) (fun _ hk => hk.2) (.slice Ao65 t165.length co65)) (fun _ hk => hk.2) (.slice Ao64 t168.length co64)) (fun _ hk => hk.1)⟩
  have n2_ : Aside0 (((w63.setCell ⟨gb171, 0, none⟩ (.slice Ao65 t165.length co65)).setCell ⟨gb171, 1, none⟩ (.slice Ao64 t168.length co64)).heap[gb161]? = some (.cells #[.slice A0_0 l0_0.length c0_0, .slice A0_1 l0_1.length c0_1] 29 (0, 0))) := ⟨bk BK161⟩
  have n3_ : Aside0 (((w63.setCell ⟨gb171, 0, none⟩ (.slice Ao65 t165.length co65)).setCell ⟨gb171, 1, none⟩ (.slice Ao64 t168.length co64)).heap[gb162]? = some (.cells #[.int .i64 a1_0, .int .i64 a1_1] 49 (0, 0))) := ⟨bk BK162⟩
  have n4_ : Aside0 (((w63.setCell ⟨gb171, 0, none⟩ (.slice Ao65 t165.length co65)).setCell ⟨gb171, 1, none⟩ (.slice Ao64 t168.length co64)).heap[gb163]? = some (.cells #[.slice none 0 0, .slice none 0 0] 29 (0, 0))) := ⟨bk BK163⟩
  have n5_ : Aside0 (((w63.setCell ⟨gb171, 0, none⟩ (.slice Ao65 t165.length co65)).setCell ⟨gb171, 1, none⟩ (.slice Ao64 t168.length co64)).heap[gb171]? = some (.cells #[.slice Ao65 t165.length co65, .slice Ao64 t168.length co64] 29 (0, 0))) := ⟨by refine blk_put (cs := #[.slice Ao65 t165.length co65, .slice none 0 0]) ?_ 1 _ rfl; refine blk_put (cs := #[.slice none 0 0, .slice none 0 0]) ?_ 0 _ rfl; exact bk BK171⟩
  have n6_ : Aside0 (Below w.heap.size w ((w63.setCell ⟨gb171, 0, none⟩ (.slice Ao65 t165.length co65)).setCell ⟨gb171, 1, none⟩ (.slice Ao64 t168.length co64))) := ⟨bw HB⟩
  (try clear HO167); (try clear HO170); (try clear BK161); (try clear BK162); (try clear BK163); (try clear BK171); (try clear HB)
  generalize ((w63.setCell ⟨gb171, 0, none⟩ (.slice Ao65 t165.length co65)).setCell ⟨gb171, 1, none⟩ (.slice Ao64 t168.length co64)) = w68 at n0_ n1_ n2_ n3_ n4_ n5_ n6_ ⊢
  have HO167 := n0_
  have HO170 := n1_
  have BK161 := n2_
  have BK162 := n3_
  have BK163 := n4_
  have BK171 := n5_
  have HB := n6_
  clear n0_ n1_ n2_ n3_ n4_ n5_ n6_
  have hnb69 := NB162_171.out
  have hnc69 := NB171_162.out
  have hcz70_0 := bc0 BK162
  have hcz70_1 := bc1 BK162
  have hfz70_0 := blk_frozen BK162.out 0
  have hfz70_1 := blk_frozen BK162.out 1
  have hnb71 := NB171_161.out
  have hnc71 := NB161_171.out
  have hnb72 := NB171_163.out
  have hnc72 := NB163_171.out
  have hcz73_0 := bc0 BK171
  have hcz73_1 := bc1 BK171
  have hfz73_0 := blk_frozen BK171.out 0
  have hfz73_1 := blk_frozen BK171.out 1
  have p172 : 0 ≤ (a1_0 : Int) := of_decide_eq_true ‹_›
  have q172 : a1_0 < (t168.length : Int) := of_decide_eq_true ‹_›
  obtain ⟨ad172, e172, hx172_0⟩ := Kd.at_int (Kd.R_reads' HO170.out).2.2 a1_0 p172 q172
  cases e172
  replace p172 := eq_true p172
  replace q172 := eq_true q172
  have p9 : 0 ≤ (a1_0 : Int) := of_decide_eq_true ‹_›
  have q9 : (a1_0 : Int) < ((t168.length : Int) : Int) := of_decide_eq_true ‹_›
  obtain ⟨go9, co9, eo9, gb9, gl9, cl9, HG9⟩ := Kd.R_form HO170.out (by omega)
  (first | cases eo9 | (injection eo9 with ea_ en_ ec_; (first | subst ea_ | (injection ea_ with ea_; subst ea_)); subst ec_; clear en_))
  have GB9 := Aside0.mk gb9
  have GG9 := Aside0.mk HG9
  clear gb9 gl9 HG9
  (first | simp only [add_plain] at hx172_0 | skip)
  obtain ⟨hx9_0, hf9_0⟩ := Kd.R_celln 0 HO170.out (a1_0 : Int) p9 q9
  replace p9 := eq_true p9
  replace q9 := eq_true q9
  obtain ⟨hy74_, hz74_⟩ := Kd.R_celln 0 HO170.out (a1_0 : Int) (of_decide_eq_true ‹_›) (of_decide_eq_true ‹_›)
  have HP74 := Kd.R_putg HO170.out (a1_0 : Int) (wrap64 ((rd t168 a1_0) - t164))
  try go_wp2_with (first | ((with_reducible refine gate_store (t := 3) (p := 28) rfl ?_); refine store_event (t := 3) (p := 28) (v := ?vo_w75) (w1 := (w68.setCell ⟨go9, (a1_0 : Int).toNat, none⟩ (.int .i64 (wrap64 ((rd t168 a1_0) - t164))))) ?hg ?ho ?hn ?hr ?_; (case ho => rfl); (case hg => rfl); (case hn => rfl); (case hr => first | (go_simp; done) | (go_simp; rfl)); intro w75 hw; have hg : w68.grownBy w75 (some go9) := (by rw [hw]; exact HP74.2); have hp_ : Kd.R (Kd.int .i64) 3 w75 w.heap.size (fun k_ => some k_ ≠ (.slice Ao65 t165.length co65 : Value).ownBlock) (.slice (some ⟨go9, 0, none⟩) t168.length co64) y173 := (by rw [hw, Ny173.out]; exact HP74.1); clear HP74; replace BK161 := Aside0.mk (blk_grown (g := gb161) (o := .cells #[.slice A0_0 l0_0.length c0_0, .slice A0_1 l0_1.length c0_1] 29 (0, 0)) (bk BK161) hg (Kd.R_ne HO170.out BK161.out (by decide))); replace BK162 := Aside0.mk (blk_grown (g := gb162) (o := .cells #[.int .i64 a1_0, .int .i64 a1_1] 49 (0, 0)) (bk BK162) hg (Kd.R_ne HO170.out BK162.out (by decide))); replace BK163 := Aside0.mk (blk_grown (g := gb163) (o := .cells #[.slice none 0 0, .slice none 0 0] 29 (0, 0)) (bk BK163) hg (Kd.R_ne HO170.out BK163.out (by decide))); replace HO167 := Aside0.mk (Kd.R_after (v := (.slice (some ⟨go9, 0, none⟩) t168.length co64)) (v1 := (.slice (some ⟨go9, 0, none⟩) t168.length co64)) (ok := (fun _ => True)) (by exact Kd.R_mono HO167.out (fun _ hk => ⟨trivial, hk⟩)) hg (.inl rfl)); replace BK171 := Aside0.mk (blk_grown (g := gb171) (o := .cells #[.slice Ao65 t165.length co65, .slice (some ⟨go9, 0, none⟩) t168.length co64] 29 (0, 0)) (bk BK171) hg (Kd.R_ne HO170.out BK171.out (by decide))); replace HO170 := Aside0.mk (hp_); replace HB := Aside0.mk ((by rw [hw]; exact below_set (HB.out) GB9.out : Below w.heap.size w w75)); clear hg hw hp_; have hcz76_0 := bc0 BK162; have hcz76_1 := bc1 BK162; have hfz76_0 := blk_frozen BK162.out 0; have hfz76_1 := blk_frozen BK162.out 1; have hcz77_0 := bc0 BK171; have hcz77_1 := bc1 BK171; have hfz77_0 := blk_frozen BK171.out 0; have hfz77_1 := blk_frozen BK171.out 1; have hcz78_0 := bc0 BK163; have hcz78_1 := bc1 BK163; have hfz78_0 := blk_frozen BK163.out 0; have hfz78_1 := blk_frozen BK163.out 1))
  refine bodyPost_ret (results_cell_row rfl _ _ gb163 29 #[.slice Ao65 t165.length co65, .slice (some ⟨go9, 0, none⟩) t168.length co64] (0, 0) _ rfl (by refine blk_put (cs := #[.slice Ao65 t165.length co65, .slice none 0 0]) ?_ 1 _ rfl; refine blk_put (cs := #[.slice none 0 0, .slice none 0 0]) ?_ 0 _ rfl; exact bk BK163) Try.underlying29 rfl (by kernel_rfl)) rfl ?_
  exact ⟨_, _, by first | rfl | (simp [errW_none, errW_some] <;> rfl) | (simp [*, errW_none, errW_some] <;> rfl), by exact Kd.R_mono (Kd.R_far (p := ⟨gb163, 1, none⟩) (Kd.R_far (p := ⟨gb163, 0, none⟩) (Kd.R_types HO167.out BK163.out (by decide)) (fun _ hk => hk.2) (.slice Ao65 t165.length co65)) (fun _ hk => hk.2) (.slice (some ⟨go9, 0, none⟩) t168.length co64)) (fun _ hk => hk.1.2), by exact Kd.R_mono (Kd.R_far (p := ⟨gb163, 1, none⟩) (Kd.R_far (p := ⟨gb163, 0, none⟩) (Kd.R_types HO170.out BK163.out (by decide)) (fun _ hk => hk.2) (.slice Ao65 t165.length co65)) (fun _ hk => hk.2) (.slice (some ⟨go9, 0, none⟩) t168.length co64)) (fun _ hk => hk.1), bw HB⟩
 rw [if_pos c10] at H
 have c10b0 : decide (0 ≤ a1_1) = true := decide_eq_true c10
 clear c10
 by_cases c11 : 0 ≤ a1_1
 rotate_left
 ·rw [if_neg c11] at H
  exact absurd H (by simp)
 rw [if_pos c11] at H
 have c11b0 : decide (0 ≤ a1_1) = true := decide_eq_true c11
 clear c11
 by_cases c12 : a1_1 < (t168.length : Int)
 rotate_left
 ·rw [if_neg c12] at H
  exact absurd H (by simp)
 rw [if_pos c12] at H
 have c12b0 : decide (a1_1 < (t168.length : Int)) = true := decide_eq_true c12
 clear c12
 obtain ⟨y175, hy175⟩ : ∃ y_ : List Int, y_ = (y173.set (a1_1 : Int).toNat (wrap64 ((rd y173 a1_1) + t164))) := ⟨_, rfl⟩
 replace H : (some (t165, y175)) = some (r1, r2) := by first | (rw [hy175]; with_reducible exact H) | (have H2_ := (Option.bind_some _ _).symm.trans H; rw [hy175]; with_reducible exact H2_) | (have H2_ := (Option.bind_some _ _).symm.trans H; with_reducible exact H2_) | with_reducible exact H | (rw [hy175]; exact H) | exact H
 have Ny175 := Aside0.mk hy175
 clear hy175
 simp only [Option.some.injEq, Prod.mk.injEq] at H
 obtain ⟨rfl, rfl⟩ := H
 go_enter Try.func55, Try.ntmps55
 try go_wp2_with (first | ((with_reducible refine gate_dst (N := 2) rfl ?_); refine bx 2 #[.slice A0_0 l0_0.length c0_0, .slice A0_1 l0_1.length c0_1] 29 ?_; intro gb161 hg w14 hbox hb; have BK161 := Aside0.mk (hbox); have GW161 := ge HB hg; have GE161 := ge HB hg; replace HB := bs HB hb; clear hb hbox hg) | ((with_reducible refine gate_dst (N := 3) rfl ?_); refine bx 3 #[.int .i64 a1_0, .int .i64 a1_1] 49 ?_; intro gb162 hg w15 hbox hb; have BK162 := Aside0.mk (hbox); have GW162 := ge HB hg; have GE162 := ge HB hg; replace HB := bs HB hb; have NB161_162 := nl BK161 hg; have NB162_161 := nr BK161 hg; replace BK161 := bb BK161 hb; clear hb hbox hg) | ((with_reducible refine gate_dst (N := 4) rfl ?_); refine bx 4 #[.slice none 0 0, .slice none 0 0] 29 ?_; intro gb163 hg w16 hbox hb; have BK163 := Aside0.mk (hbox); have GW163 := ge HB hg; have GE163 := ge HB hg; replace HB := bs HB hb; have NB161_163 := nl BK161 hg; have NB163_161 := nr BK161 hg; replace BK161 := bb BK161 hb; have NB162_163 := nl BK162 hg; have NB163_162 := nr BK162 hg; replace BK162 := bb BK162 hb; clear hb hbox hg; have hnb17 := NB161_162.out; have hnc17 := NB162_161.out; have hnb18 := NB161_163.out; have hnc18 := NB163_161.out; have hcz19_0 := bc0 BK161; have hcz19_1 := bc1 BK161; have hfz19_0 := blk_frozen BK161.out 0; have hfz19_1 := blk_frozen BK161.out 1; have hnb20 := NB162_163.out; have hnc20 := NB163_162.out; have hcz21_0 := bc0 BK162; have hcz21_1 := bc1 BK162; have hfz21_0 := blk_frozen BK162.out 0; have hfz21_1 := blk_frozen BK162.out 1) | ((with_reducible refine gate_callee (f := 78) rfl ?_); refine gl 9 Try.func78 #[.agg #[.slice A0_0 l0_0.length c0_0, .slice A0_1 l0_1.length c0_1], .agg #[.int .i64 a1_0, .int .i64 a1_1]] ?_; (with_reducible refine (spec_veAmount.calls _ _ l0_0 _ _ l0_1 a1_0 a1_1 t164 _ ?side1 ?side2 ?side3 ?side4 A3.out).mono ?_); (case side1 => exact ck HR0_0 HB); (case side2 => exact HC0_0.out); (case side3 => exact ck HR0_1 HB); (case side4 => exact HC0_1.out); rintro e w22 ⟨rfl, hb⟩; refine ⟨_, rfl, ?_⟩; replace BK161 := bb BK161 hb; replace BK162 := bb BK162 hb; replace BK163 := bb BK163 hb; replace HB := bs HB hb; (try clear hb)))
 replace BK161 := Aside0.mk (blk_drew BK161.out)
 replace BK162 := Aside0.mk (blk_drew BK162.out)
 replace BK163 := Aside0.mk (blk_drew BK163.out)
 replace HB := Aside0.mk (below_drew1 HB.out)
 refine start_ (n := 9) (S := fun w' => w'.cell? ⟨gb161, 0, none⟩ = some (.slice A0_0 l0_0.length c0_0) ∧ w'.cell? ⟨gb161, 1, none⟩ = some (.slice A0_1 l0_1.length c0_1)) (ds := []) (bl 9 0) (by kernel_rfl) rfl rfl ⟨bc0 BK161, bc1 BK161⟩ (fun hHeld => ?_); refine with_tabW spec_veMake.tab2 spec_veMake.bits2 (fun HT_ HW_ => ?_)
 generalize w22.drew = w23 at BK161 BK162 BK163 HB hHeld ⊢
 refine pu 0 10 (bl 9 1) HT_.out (v := ?_) (a' := ?_) ?_ ?_ ?_
 rotate_left; (intro w'; go_simp; with_reducible rfl); rotate_left; (simp only [sqa, sqb, sqc, sqd, i64_w, i32_w]; rfl)
 refine pu 3 13 (bl 9 9) HT_.out (v := ?_) (a' := ?_) ?_ ?_ ?_
 rotate_left; (intro w'; go_simp; with_reducible rfl); rotate_left; (simp only [sqa, sqb, sqc, sqd, i64_w, i32_w]; rfl)
 refine tk 1 11 (bl 9 11) HT_.out HW_.out hHeld (v := ?_) (a' := ?_) ?_ ?_ ?_
 rotate_left; (rintro w' ⟨s0, s1⟩; go_simp; with_reducible rfl); rotate_left; (simp only [sqa, sqb, sqc, sqd, i64_w, i32_w]; rfl)
 refine tk 4 14 (bl 9 27) HT_.out HW_.out hHeld (v := ?_) (a' := ?_) ?_ ?_ ?_
 rotate_left; (rintro w' ⟨s0, s1⟩; go_simp; with_reducible rfl); rotate_left; (simp only [sqa, sqb, sqc, sqd, i64_w, i32_w]; rfl)
 refine join_ (σ := Value × Value × Nat) 1 (bl 9 255) (fun s_ => [(12, s_.1), (15, s_.2.1), (6, .pointer (some ⟨s_.2.2, 0, none⟩)), (16, .agg #[s_.1, s_.2.1])]) (fun s_ w' => (w'.cell? ⟨gb161, 0, none⟩ = some (.slice A0_0 l0_0.length c0_0) ∧ w'.cell? ⟨gb161, 1, none⟩ = some (.slice A0_1 l0_1.length c0_1)) ∧ (Kd.R (Kd.int .i64) 3 w' w.heap.size (fun k_ => some k_ ≠ (s_.2.1 : Value).ownBlock) s_.1 t165) ∧ (Kd.R (Kd.int .i64) 3 w' w.heap.size (fun k_ => some k_ ≠ (s_.1 : Value).ownBlock) s_.2.1 t168) ∧ (w'.heap[gb161]? = some (.cells #[.slice A0_0 l0_0.length c0_0, .slice A0_1 l0_1.length c0_1] 29 (0, 0))) ∧ (w'.heap[gb162]? = some (.cells #[.int .i64 a1_0, .int .i64 a1_1] 49 (0, 0))) ∧ (w'.heap[gb163]? = some (.cells #[.slice none 0 0, .slice none 0 0] 29 (0, 0))) ∧ (w'.heap[s_.2.2]? = some (.cells #[.slice none 0 0, .slice none 0 0] 29 (0, 0))) ∧ (w.heap.size ≤ s_.2.2) ∧ (w.heap.size ≤ s_.2.2) ∧ (gb161 ≠ s_.2.2) ∧ (s_.2.2 ≠ gb161) ∧ (gb162 ≠ s_.2.2) ∧ (s_.2.2 ≠ gb162) ∧ (gb163 ≠ s_.2.2) ∧ (s_.2.2 ≠ gb163) ∧ (Below w.heap.size w w')) ?_ ?_
 rotate_left
 ·intro hCont
  refine two_ (i := 2) (j := 7) (Ni := some 12) (Nj := some 6) (bl 9 31) (bl 9 155) rfl rfl rfl rfl (two_of HT_.out (by kernel_rfl)) (by decide) (by decide) (fun K hK => ?_) (fun K hK => ?_)
  ·skip
   refine gs Try.func71 #[.slice A0_0 l0_0.length c0_0] ?_
   with_reducible refine (spec_l1Own.calls _ _ l0_0 t165 _ ?side1 ?side2 A4.out).mono ?_
   (case side1 => exact ck HR0_0 HB)
   (case side2 => exact HC0_0.out)
   rintro e w24 ⟨v166, rfl, ho0, hb⟩
   refine ⟨_, rfl, ?_⟩
   have HO167 := lo ho0 HB
   replace BK161 := bb BK161 hb
   replace BK162 := bb BK162 hb
   replace BK163 := bb BK163 hb
   replace HB := bs HB hb
   (try clear hb); (try clear hb2); (try clear hk); (try clear hi); (try clear ho0)
   refine hK.out _ _ ⟨bc0 BK161, bc1 BK161⟩ (fun hHeld => ?_)
   clear hK K
   refine norm_ (a' := ?_) ?_ ?_; rotate_left; (show Act.put _ (some 12) _ = _; simp only [sqa, sqb, sqc, sqd, i64_w, i32_w]; rfl)
   refine two_ (i := 5) (j := 7) (Ni := some 15) (Nj := some 6) (bl 9 63) (bl 9 159) rfl rfl rfl rfl (two_of HT_.out (by kernel_rfl)) (by decide) (by decide) (fun K hK => ?_) (fun K hK => ?_)
   ·skip
    refine gs Try.func71 #[.slice A0_1 l0_1.length c0_1] ?_
    with_reducible refine (spec_l1Own.calls _ _ l0_1 t168 _ ?side1 ?side2 A5.out).mono ?_
    (case side1 => exact ck HR0_1 HB)
    (case side2 => exact HC0_1.out)
    rintro e w25 ⟨v169, rfl, ho0, hb⟩
    refine ⟨_, rfl, ?_⟩
    have HO170 := Aside0.mk (Kd.R_lower (Kd.R_new' ho0 (Kd.R_lt (rk HO167))) (below_size (bw HB)))
    replace HO167 := Aside0.mk (Kd.R_elder' (rk HO167) (Kd.R_base ho0) hb)
    replace BK161 := bb BK161 hb
    replace BK162 := bb BK162 hb
    replace BK163 := bb BK163 hb
    replace HB := bs HB hb
    (try clear hb); (try clear hb2); (try clear hk); (try clear hi); (try clear ho0)
    obtain ⟨Ao26, co26, eo26⟩ := Kd.R_slice HO170.out
    (first | subst eo26 | (injection eo26 with f1_ f2_ f3_; have f4_ := f1_.symm; have f5_ := f3_.symm; clear f1_ f2_ f3_; subst f4_; subst f5_))
    obtain ⟨Ao27, co27, eo27⟩ := Kd.R_slice HO167.out
    (first | subst eo27 | (injection eo27 with f1_ f2_ f3_; have f4_ := f1_.symm; have f5_ := f3_.symm; clear f1_ f2_ f3_; subst f4_; subst f5_))
    refine hK.out _ _ ⟨bc0 BK161, bc1 BK161⟩ (fun hHeld => ?_)
    clear hK K
    refine norm_ (a' := ?_) ?_ ?_; rotate_left; (show Act.put _ (some 15) _ = _; simp only [sqa, sqb, sqc, sqd, i64_w, i32_w]; rfl)
    refine pu 6 16 (bl 9 127) HT_.out (v := ?_) (a' := ?_) ?_ ?_ ?_
    rotate_left; (intro w'; go_simp; with_reducible rfl); rotate_left; (simp only [sqa, sqb, sqc, sqd, i64_w, i32_w]; rfl)
    refine on 7 6 (bl 9 255) HT_.out (fun K hK => ?_)
    refine box_step ?hg (N := 6) ?hd (cs := #[.slice none 0 0, .slice none 0 0]) (t := 29) ?hr ?_; (case hd => rfl); (case hg => rfl); (case hr => first | (go_simp; done) | (go_simp; rfl))
    intro gb171 hg w28 hbox hb
    replace HO167 := rb HO167 hb
    replace HO170 := rb HO170 hb
    have BK171 := Aside0.mk (hbox)
    have GW171 := ge HB hg
    have GE171 := ge HB hg
    replace HB := bs HB hb
    have NB161_171 := nl BK161 hg
    have NB171_161 := nr BK161 hg
    replace BK161 := bb BK161 hb
    have NB162_171 := nl BK162 hg
    have NB171_162 := nr BK162 hg
    replace BK162 := bb BK162 hb
    have NB163_171 := nl BK163 hg
    have NB171_163 := nr BK163 hg
    replace BK163 := bb BK163 hb
    clear hb hbox hg
    refine hK.out _ _ ⟨bc0 BK161, bc1 BK161⟩ (fun hHeld => ?_)
    clear hK K
    refine norm_ (a' := ?_) ?_ ?_; rotate_left; (show Act.put _ (some 6) _ = _; simp only [sqa, sqb, sqc, sqd, i64_w, i32_w]; rfl)
    exact norm_ (by simp only [putAll, Act.put, List.setIfInBounds_toArray, List.set_cons_zero, List.set_cons_succ]) (hCont (.slice Ao27 t165.length co27, .slice Ao26 t168.length co26, gb171) _ ⟨hHeld, (by exact Kd.R_mono HO167.out (fun _ hk => hk.2)), (by exact Kd.R_mono HO170.out (fun _ hk => hk.2)), (bk BK161), (bk BK162), (bk BK163), (bk BK171), GW171.out, GE171.out, NB161_171.out, NB171_161.out, NB162_171.out, NB171_162.out, NB163_171.out, NB171_163.out, (bw HB)⟩)
   ·skip
    refine box_step ?hg (N := 6) ?hd (cs := #[.slice none 0 0, .slice none 0 0]) (t := 29) ?hr ?_; (case hd => rfl); (case hg => rfl); (case hr => first | (go_simp; done) | (go_simp; rfl))
    intro gb171 hg w25 hbox hb
    replace HO167 := rb HO167 hb
    have BK171 := Aside0.mk (hbox)
    have GW171 := ge HB hg
    have GE171 := ge HB hg
    replace HB := bs HB hb
    have NB161_171 := nl BK161 hg
    have NB171_161 := nr BK161 hg
    replace BK161 := bb BK161 hb
    have NB162_171 := nl BK162 hg
    have NB171_162 := nr BK162 hg
    replace BK162 := bb BK162 hb
    have NB163_171 := nl BK163 hg
    have NB171_163 := nr BK163 hg
    replace BK163 := bb BK163 hb
    clear hb hbox hg
    refine hK.out _ _ ⟨bc0 BK161, bc1 BK161⟩ (fun hHeld => ?_)
    clear hK K
    refine norm_ (a' := ?_) ?_ ?_; rotate_left; (show Act.put _ (some 6) _ = _; simp only [sqa, sqb, sqc, sqd, i64_w, i32_w]; rfl)
    refine on 5 15 (bl 9 191) HT_.out (fun K hK => ?_)
    refine gs Try.func71 #[.slice A0_1 l0_1.length c0_1] ?_
    with_reducible refine (spec_l1Own.calls _ _ l0_1 t168 _ ?side1 ?side2 A5.out).mono ?_
    (case side1 => exact ck HR0_1 HB)
    (case side2 => exact HC0_1.out)
    rintro e w26 ⟨v169, rfl, ho0, hb⟩
    refine ⟨_, rfl, ?_⟩
    have HO170 := Aside0.mk (Kd.R_lower (Kd.R_new' ho0 (Kd.R_lt (rk HO167))) (below_size (bw HB)))
    replace HO167 := Aside0.mk (Kd.R_elder' (rk HO167) (Kd.R_base ho0) hb)
    replace BK161 := bb BK161 hb
    replace BK162 := bb BK162 hb
    replace BK163 := bb BK163 hb
    replace BK171 := bb BK171 hb
    replace HB := bs HB hb
    (try clear hb); (try clear hb2); (try clear hk); (try clear hi); (try clear ho0)
    obtain ⟨Ao27, co27, eo27⟩ := Kd.R_slice HO170.out
    (first | subst eo27 | (injection eo27 with f1_ f2_ f3_; have f4_ := f1_.symm; have f5_ := f3_.symm; clear f1_ f2_ f3_; subst f4_; subst f5_))
    obtain ⟨Ao28, co28, eo28⟩ := Kd.R_slice HO167.out
    (first | subst eo28 | (injection eo28 with f1_ f2_ f3_; have f4_ := f1_.symm; have f5_ := f3_.symm; clear f1_ f2_ f3_; subst f4_; subst f5_))
    refine hK.out _ _ ⟨bc0 BK161, bc1 BK161⟩ (fun hHeld => ?_)
    clear hK K
    refine norm_ (a' := ?_) ?_ ?_; rotate_left; (show Act.put _ (some 15) _ = _; simp only [sqa, sqb, sqc, sqd, i64_w, i32_w]; rfl)
    refine pu 6 16 (bl 9 255) HT_.out (v := ?_) (a' := ?_) ?_ ?_ ?_
    rotate_left; (intro w'; go_simp; with_reducible rfl); rotate_left; (simp only [sqa, sqb, sqc, sqd, i64_w, i32_w]; rfl)
    exact norm_ (by simp only [putAll, Act.put, List.setIfInBounds_toArray, List.set_cons_zero, List.set_cons_succ]) (hCont (.slice Ao28 t165.length co28, .slice Ao27 t168.length co27, gb171) _ ⟨hHeld, (by exact Kd.R_mono HO167.out (fun _ hk => hk.2)), (by exact Kd.R_mono HO170.out (fun _ hk => hk.2)), (bk BK161), (bk BK162), (bk BK163), (bk BK171), GW171.out, GE171.out, NB161_171.out, NB171_161.out, NB162_171.out, NB171_162.out, NB163_171.out, NB171_163.out, (bw HB)⟩)
  ·skip
   refine box_step ?hg (N := 6) ?hd (cs := #[.slice none 0 0, .slice none 0 0]) (t := 29) ?hr ?_; (case hd => rfl); (case hg => rfl); (case hr => first | (go_simp; done) | (go_simp; rfl))
   intro gb171 hg w24 hbox hb
   have BK171 := Aside0.mk (hbox)
   have GW171 := ge HB hg
   have GE171 := ge HB hg
   replace HB := bs HB hb
   have NB161_171 := nl BK161 hg
   have NB171_161 := nr BK161 hg
   replace BK161 := bb BK161 hb
   have NB162_171 := nl BK162 hg
   have NB171_162 := nr BK162 hg
   replace BK162 := bb BK162 hb
   have NB163_171 := nl BK163 hg
   have NB171_163 := nr BK163 hg
   replace BK163 := bb BK163 hb
   clear hb hbox hg
   refine hK.out _ _ ⟨bc0 BK161, bc1 BK161⟩ (fun hHeld => ?_)
   clear hK K
   refine norm_ (a' := ?_) ?_ ?_; rotate_left; (show Act.put _ (some 6) _ = _; simp only [sqa, sqb, sqc, sqd, i64_w, i32_w]; rfl)
   refine on 2 12 (bl 9 159) HT_.out (fun K hK => ?_)
   refine gs Try.func71 #[.slice A0_0 l0_0.length c0_0] ?_
   with_reducible refine (spec_l1Own.calls _ _ l0_0 t165 _ ?side1 ?side2 A4.out).mono ?_
   (case side1 => exact ck HR0_0 HB)
   (case side2 => exact HC0_0.out)
   rintro e w25 ⟨v166, rfl, ho0, hb⟩
   refine ⟨_, rfl, ?_⟩
   have HO167 := lo ho0 HB
   replace BK161 := bb BK161 hb
   replace BK162 := bb BK162 hb
   replace BK163 := bb BK163 hb
   replace BK171 := bb BK171 hb
   replace HB := bs HB hb
   (try clear hb); (try clear hb2); (try clear hk); (try clear hi); (try clear ho0)
   refine hK.out _ _ ⟨bc0 BK161, bc1 BK161⟩ (fun hHeld => ?_)
   clear hK K
   refine norm_ (a' := ?_) ?_ ?_; rotate_left; (show Act.put _ (some 12) _ = _; simp only [sqa, sqb, sqc, sqd, i64_w, i32_w]; rfl)
   refine on 5 15 (bl 9 191) HT_.out (fun K hK => ?_)
   refine gs Try.func71 #[.slice A0_1 l0_1.length c0_1] ?_
   with_reducible refine (spec_l1Own.calls _ _ l0_1 t168 _ ?side1 ?side2 A5.out).mono ?_
   (case side1 => exact ck HR0_1 HB)
   (case side2 => exact HC0_1.out)
   rintro e w26 ⟨v169, rfl, ho0, hb⟩
   refine ⟨_, rfl, ?_⟩
   have HO170 := Aside0.mk (Kd.R_lower (Kd.R_new' ho0 (Kd.R_lt (rk HO167))) (below_size (bw HB)))
   replace HO167 := Aside0.mk (Kd.R_elder' (rk HO167) (Kd.R_base ho0) hb)
   replace BK161 := bb BK161 hb
   replace BK162 := bb BK162 hb
   replace BK163 := bb BK163 hb
   replace BK171 := bb BK171 hb
   replace HB := bs HB hb
   (try clear hb); (try clear hb2); (try clear hk); (try clear hi); (try clear ho0)
   obtain ⟨Ao27, co27, eo27⟩ := Kd.R_slice HO170.out
   (first | subst eo27 | (injection eo27 with f1_ f2_ f3_; have f4_ := f1_.symm; have f5_ := f3_.symm; clear f1_ f2_ f3_; subst f4_; subst f5_))
   obtain ⟨Ao28, co28, eo28⟩ := Kd.R_slice HO167.out
   (first | subst eo28 | (injection eo28 with f1_ f2_ f3_; have f4_ := f1_.symm; have f5_ := f3_.symm; clear f1_ f2_ f3_; subst f4_; subst f5_))
   refine hK.out _ _ ⟨bc0 BK161, bc1 BK161⟩ (fun hHeld => ?_)
   clear hK K
   refine norm_ (a' := ?_) ?_ ?_; rotate_left; (show Act.put _ (some 15) _ = _; simp only [sqa, sqb, sqc, sqd, i64_w, i32_w]; rfl)
   refine pu 6 16 (bl 9 255) HT_.out (v := ?_) (a' := ?_) ?_ ?_ ?_
   rotate_left; (intro w'; go_simp; with_reducible rfl); rotate_left; (simp only [sqa, sqb, sqc, sqd, i64_w, i32_w]; rfl)
   exact norm_ (by simp only [putAll, Act.put, List.setIfInBounds_toArray, List.set_cons_zero, List.set_cons_succ]) (hCont (.slice Ao28 t165.length co28, .slice Ao27 t168.length co27, gb171) _ ⟨hHeld, (by exact Kd.R_mono HO167.out (fun _ hk => hk.2)), (by exact Kd.R_mono HO170.out (fun _ hk => hk.2)), (bk BK161), (bk BK162), (bk BK163), (bk BK171), GW171.out, GE171.out, NB161_171.out, NB171_161.out, NB162_171.out, NB171_162.out, NB163_171.out, NB171_163.out, (bw HB)⟩)
 rintro ⟨v166, v169, gb171⟩ w29 ⟨hS_, h0_, h1_, h2_, h3_, h4_, h5_, h6_, h7_, h8_, h9_, h10_, h11_, h12_, h13_, h14_⟩
 have HO167 := Aside0.mk h0_
 have HO170 := Aside0.mk h1_
 replace BK161 := Aside0.mk h2_
 replace BK162 := Aside0.mk h3_
 replace BK163 := Aside0.mk h4_
 have BK171 := Aside0.mk h5_
 have GW171 := GeC.mk h6_
 have GE171 := GeC.mk h7_
 have NB161_171 := NeC.mk h8_
 have NB171_161 := NeC.mk h9_
 have NB162_171 := NeC.mk h10_
 have NB171_162 := NeC.mk h11_
 have NB163_171 := NeC.mk h12_
 have NB171_163 := NeC.mk h13_
 replace HB := Aside0.mk h14_
 clear h0_ h1_ h2_ h3_ h4_ h5_ h6_ h7_ h8_ h9_ h10_ h11_ h12_ h13_ h14_
 have hHeld : w29.cell? ⟨gb161, 0, none⟩ = some (.slice A0_0 l0_0.length c0_0) ∧ w29.cell? ⟨gb161, 1, none⟩ = some (.slice A0_1 l0_1.length c0_1) := hS_
 obtain ⟨Ao30, co30, eo30⟩ := Kd.R_slice HO170.out
 (first | subst eo30 | (injection eo30 with f1_ f2_ f3_; have f4_ := f1_.symm; have f5_ := f3_.symm; clear f1_ f2_ f3_; subst f4_; subst f5_))
 obtain ⟨Ao31, co31, eo31⟩ := Kd.R_slice HO167.out
 (first | subst eo31 | (injection eo31 with f1_ f2_ f3_; have f4_ := f1_.symm; have f5_ := f3_.symm; clear f1_ f2_ f3_; subst f4_; subst f5_))
 refine norm_ (a' := ?_) ?_ ?_
 rotate_left
 ·simp only [putAll, Act.put, List.setIfInBounds_toArray, List.set_cons_zero, List.set_cons_succ]
  rfl
 refine one_ (i := 8) (N := none) (bl 9 511) rfl rfl (one_of HT_.out (by kernel_rfl)) (by decide) (fun K hK => ?_)
 have hs32 : w29.cell? ⟨gb171, 0, none⟩ = some (.slice none 0 0) := bc0 BK171
 have hfs32 := blk_frozen BK171.out 0
 have hns32_0 := NB161_171.out
 have hns32_1 := NB162_171.out
 have hns32_2 := NB163_171.out
 have hms32_0 := NB171_161.out
 have hms32_1 := NB171_162.out
 have hms32_2 := NB171_163.out
 have hs33 : w29.cell? ⟨gb171, 1, none⟩ = some (.slice none 0 0) := bc1 BK171
 have hfs33 := blk_frozen BK171.out 1
 have hns33_0 := NB161_171.out
 have hns33_1 := NB162_171.out
 have hns33_2 := NB163_171.out
 have hms33_0 := NB171_161.out
 have hms33_1 := NB171_162.out
 have hms33_2 := NB171_163.out
 refine skip_ (w1 := ?_) (by rfl) rfl ?_ ?_
 rotate_left
 ·go_simp
  rfl
 refine hK.out _ _ ⟨((cell_far (p := ⟨gb171, _, none⟩) NB161_171.out _).trans (((cell_far (p := ⟨gb171, _, none⟩) NB161_171.out _).trans (hHeld.1)))), ((cell_far (p := ⟨gb171, _, none⟩) NB161_171.out _).trans (((cell_far (p := ⟨gb171, _, none⟩) NB161_171.out _).trans (hHeld.2))))⟩ (fun hHeld => ?_)
 clear hK K
 refine done_ (done_of HT_.out (by kernel_rfl)) ?_
 have n0_ : Aside0 (Kd.R (Kd.int .i64) 3 ((w29.setCell ⟨gb171, 0, none⟩ (.slice Ao31 t165.length co31)).setCell ⟨gb171, 1, none⟩ (.slice Ao30 t168.length co30)) w.heap.size (fun k_ => some k_ ≠ (.slice Ao30 t168.length co30 : Value).ownBlock) (.slice Ao31 t165.length co31) t165) := ⟨by exact Kd.R_mono (Kd.R_far (p := ⟨gb171, 1, none⟩) (Kd.R_far (p := ⟨gb171, 0, none⟩) (Kd.R_types HO167.out BK171.out (by decide)) (fun _ hk => hk.2) (.slice Ao31 t165.length co31)) (fun _ hk => hk.2) (.slice Ao30 t168.length co30)) (fun _ hk => hk.1)⟩
 have n1_ : Aside0 (Kd.R (Kd.int .i64) 3 ((w29.setCell ⟨gb171, 0, none⟩ (.slice Ao31 t165.length co31)).setCell ⟨gb171, 1, none⟩ (.slice Ao30 t168.length co30)) w.heap.size (fun k_ => some k_ ≠ (.slice Ao31 t165.length co31 : Value).ownBlock) (.slice Ao30 t168.length co30) t168) := ⟨by exact Kd.R_mono (Kd.R_far (p := ⟨gb171, 1, none⟩) (Kd.R_far (p := ⟨gb171, 0, none⟩) (Kd.R_types HO170.out BK171.out (by decide)) (fun _ hk => hk.2) (.slice Ao31 t165.length co31)) (fun _ hk => hk.2) (.slice Ao30 t168.length co30)) (fun _ hk => hk.1)⟩
 have n2_ : Aside0 (((w29.setCell ⟨gb171, 0, none⟩ (.slice Ao31 t165.length co31)).setCell ⟨gb171, 1, none⟩ (.slice Ao30 t168.length co30)).heap[gb161]? = some (.cells #[.slice A0_0 l0_0.length c0_0, .slice A0_1 l0_1.length c0_1] 29 (0, 0))) := ⟨bk BK161⟩
 have n3_ : Aside0 (((w29.setCell ⟨gb171, 0, none⟩ (.slice Ao31 t165.length co31)).setCell ⟨gb171, 1, none⟩ (.slice Ao30 t168.length co30)).heap[gb162]? = some (.cells #[.int .i64 a1_0, .int .i64 a1_1] 49 (0, 0))) := ⟨bk BK162⟩
 have n4_ : Aside0 (((w29.setCell ⟨gb171, 0, none⟩ (.slice Ao31 t165.length co31)).setCell ⟨gb171, 1, none⟩ (.slice Ao30 t168.length co30)).heap[gb163]? = some (.cells #[.slice none 0 0, .slice none 0 0] 29 (0, 0))) := ⟨bk BK163⟩
 have n5_ : Aside0 (((w29.setCell ⟨gb171, 0, none⟩ (.slice Ao31 t165.length co31)).setCell ⟨gb171, 1, none⟩ (.slice Ao30 t168.length co30)).heap[gb171]? = some (.cells #[.slice Ao31 t165.length co31, .slice Ao30 t168.length co30] 29 (0, 0))) := ⟨by refine blk_put (cs := #[.slice Ao31 t165.length co31, .slice none 0 0]) ?_ 1 _ rfl; refine blk_put (cs := #[.slice none 0 0, .slice none 0 0]) ?_ 0 _ rfl; exact bk BK171⟩
 have n6_ : Aside0 (Below w.heap.size w ((w29.setCell ⟨gb171, 0, none⟩ (.slice Ao31 t165.length co31)).setCell ⟨gb171, 1, none⟩ (.slice Ao30 t168.length co30))) := ⟨bw HB⟩
 (try clear HO167); (try clear HO170); (try clear BK161); (try clear BK162); (try clear BK163); (try clear BK171); (try clear HB)
 generalize ((w29.setCell ⟨gb171, 0, none⟩ (.slice Ao31 t165.length co31)).setCell ⟨gb171, 1, none⟩ (.slice Ao30 t168.length co30)) = w34 at n0_ n1_ n2_ n3_ n4_ n5_ n6_ ⊢
 have HO167 := n0_
 have HO170 := n1_
 have BK161 := n2_
 have BK162 := n3_
 have BK163 := n4_
 have BK171 := n5_
 have HB := n6_
 clear n0_ n1_ n2_ n3_ n4_ n5_ n6_
 have hnb35 := NB162_171.out
 have hnc35 := NB171_162.out
 have hcz36_0 := bc0 BK162
 have hcz36_1 := bc1 BK162
 have hfz36_0 := blk_frozen BK162.out 0
 have hfz36_1 := blk_frozen BK162.out 1
 have hnb37 := NB171_161.out
 have hnc37 := NB161_171.out
 have hnb38 := NB171_163.out
 have hnc38 := NB163_171.out
 have hcz39_0 := bc0 BK171
 have hcz39_1 := bc1 BK171
 have hfz39_0 := blk_frozen BK171.out 0
 have hfz39_1 := blk_frozen BK171.out 1
 have p172 : 0 ≤ (a1_0 : Int) := of_decide_eq_true ‹_›
 have q172 : a1_0 < (t168.length : Int) := of_decide_eq_true ‹_›
 obtain ⟨ad172, e172, hx172_0⟩ := Kd.at_int (Kd.R_reads' HO170.out).2.2 a1_0 p172 q172
 cases e172
 replace p172 := eq_true p172
 replace q172 := eq_true q172
 have p9 : 0 ≤ (a1_0 : Int) := of_decide_eq_true ‹_›
 have q9 : (a1_0 : Int) < ((t168.length : Int) : Int) := of_decide_eq_true ‹_›
 obtain ⟨go9, co9, eo9, gb9, gl9, cl9, HG9⟩ := Kd.R_form HO170.out (by omega)
 (first | cases eo9 | (injection eo9 with ea_ en_ ec_; (first | subst ea_ | (injection ea_ with ea_; subst ea_)); subst ec_; clear en_))
 have GB9 := Aside0.mk gb9
 have GG9 := Aside0.mk HG9
 clear gb9 gl9 HG9
 (first | simp only [add_plain] at hx172_0 | skip)
 obtain ⟨hx9_0, hf9_0⟩ := Kd.R_celln 0 HO170.out (a1_0 : Int) p9 q9
 replace p9 := eq_true p9
 replace q9 := eq_true q9
 obtain ⟨hy40_, hz40_⟩ := Kd.R_celln 0 HO170.out (a1_0 : Int) (of_decide_eq_true ‹_›) (of_decide_eq_true ‹_›)
 have HP40 := Kd.R_putg HO170.out (a1_0 : Int) (wrap64 ((rd t168 a1_0) - t164))
 try go_wp2_with (first | ((with_reducible refine gate_store (t := 3) (p := 28) rfl ?_); refine store_event (t := 3) (p := 28) (v := ?vo_w41) (w1 := (w34.setCell ⟨go9, (a1_0 : Int).toNat, none⟩ (.int .i64 (wrap64 ((rd t168 a1_0) - t164))))) ?hg ?ho ?hn ?hr ?_; (case ho => rfl); (case hg => rfl); (case hn => rfl); (case hr => first | (go_simp; done) | (go_simp; rfl)); intro w41 hw; have hg : w34.grownBy w41 (some go9) := (by rw [hw]; exact HP40.2); have hp_ : Kd.R (Kd.int .i64) 3 w41 w.heap.size (fun k_ => some k_ ≠ (.slice Ao31 t165.length co31 : Value).ownBlock) (.slice (some ⟨go9, 0, none⟩) t168.length co30) y173 := (by rw [hw, Ny173.out]; exact HP40.1); clear HP40; replace BK161 := Aside0.mk (blk_grown (g := gb161) (o := .cells #[.slice A0_0 l0_0.length c0_0, .slice A0_1 l0_1.length c0_1] 29 (0, 0)) (bk BK161) hg (Kd.R_ne HO170.out BK161.out (by decide))); replace BK162 := Aside0.mk (blk_grown (g := gb162) (o := .cells #[.int .i64 a1_0, .int .i64 a1_1] 49 (0, 0)) (bk BK162) hg (Kd.R_ne HO170.out BK162.out (by decide))); replace BK163 := Aside0.mk (blk_grown (g := gb163) (o := .cells #[.slice none 0 0, .slice none 0 0] 29 (0, 0)) (bk BK163) hg (Kd.R_ne HO170.out BK163.out (by decide))); replace HO167 := Aside0.mk (Kd.R_after (v := (.slice (some ⟨go9, 0, none⟩) t168.length co30)) (v1 := (.slice (some ⟨go9, 0, none⟩) t168.length co30)) (ok := (fun _ => True)) (by exact Kd.R_mono HO167.out (fun _ hk => ⟨trivial, hk⟩)) hg (.inl rfl)); replace BK171 := Aside0.mk (blk_grown (g := gb171) (o := .cells #[.slice Ao31 t165.length co31, .slice (some ⟨go9, 0, none⟩) t168.length co30] 29 (0, 0)) (bk BK171) hg (Kd.R_ne HO170.out BK171.out (by decide))); replace HO170 := Aside0.mk (hp_); replace HB := Aside0.mk ((by rw [hw]; exact below_set (HB.out) GB9.out : Below w.heap.size w w41)); clear hg hw hp_; have hcz42_0 := bc0 BK162; have hcz42_1 := bc1 BK162; have hfz42_0 := blk_frozen BK162.out 0; have hfz42_1 := blk_frozen BK162.out 1; have hcz43_0 := bc0 BK171; have hcz43_1 := bc1 BK171; have hfz43_0 := blk_frozen BK171.out 0; have hfz43_1 := blk_frozen BK171.out 1; have p174 : 0 ≤ (a1_1 : Int) := of_decide_eq_true ‹_›; have q174 : a1_1 < (y173.length : Int) := (by have h_ : (a1_1 : Int) < ((t168.length : Int) : Int) := of_decide_eq_true ‹_›; first | (have e_ := (Kd.R_reads' HO170.out).1; omega) | simpa only [Ny173.out, List.length_set] using h_); have ql174 : ((a1_1 : Int) < ((t168.length : Int) : Int)) = True := eq_true (of_decide_eq_true ‹_›); obtain ⟨ad174, e174, hx174_0⟩ := Kd.at_int (Kd.R_reads' HO170.out).2.2 a1_1 p174 q174; obtain rfl : (⟨go9, 0, none⟩ : Addr) = ad174 := (by injection e174); (first | simp only [add_plain] at hx174_0 | simp only [add_at] at hx174_0 | simp only [Addr.add, Nat.zero_add] at hx174_0 | skip); replace p174 := eq_true p174; replace q174 := eq_true q174; have p13 : 0 ≤ (a1_1 : Int) := of_decide_eq_true ‹_›; have q13 : (a1_1 : Int) < ((t168.length : Int) : Int) := of_decide_eq_true ‹_›; obtain ⟨hx13_0, hf13_0⟩ := Kd.R_celln 0 HO170.out (a1_1 : Int) p13 q13; replace p13 := eq_true p13; replace q13 := eq_true q13; obtain ⟨hy44_, hz44_⟩ := Kd.R_celln 0 HO170.out (a1_1 : Int) (of_decide_eq_true ‹_›) (of_decide_eq_true ‹_›); have HP44 := Kd.R_putg HO170.out (a1_1 : Int) (wrap64 ((rd y173 a1_1) + t164))) | ((with_reducible refine gate_store (t := 3) (p := 40) rfl ?_); refine store_event (t := 3) (p := 40) (v := ?vo_w45) (w1 := (w41.setCell ⟨go9, (a1_1 : Int).toNat, none⟩ (.int .i64 (wrap64 ((rd y173 a1_1) + t164))))) ?hg ?ho ?hn ?hr ?_; (case ho => rfl); (case hg => rfl); (case hn => rfl); (case hr => first | (go_simp; done) | (go_simp; rfl)); intro w45 hw; have hg : w41.grownBy w45 (some go9) := (by rw [hw]; exact HP44.2); have hp_ : Kd.R (Kd.int .i64) 3 w45 w.heap.size (fun k_ => some k_ ≠ (.slice Ao31 t165.length co31 : Value).ownBlock) (.slice (some ⟨go9, 0, none⟩) t168.length co30) y175 := (by rw [hw, Ny175.out]; exact HP44.1); clear HP44; replace BK161 := Aside0.mk (blk_grown (g := gb161) (o := .cells #[.slice A0_0 l0_0.length c0_0, .slice A0_1 l0_1.length c0_1] 29 (0, 0)) (bk BK161) hg (Kd.R_ne HO170.out BK161.out (by decide))); replace BK162 := Aside0.mk (blk_grown (g := gb162) (o := .cells #[.int .i64 a1_0, .int .i64 a1_1] 49 (0, 0)) (bk BK162) hg (Kd.R_ne HO170.out BK162.out (by decide))); replace BK163 := Aside0.mk (blk_grown (g := gb163) (o := .cells #[.slice none 0 0, .slice none 0 0] 29 (0, 0)) (bk BK163) hg (Kd.R_ne HO170.out BK163.out (by decide))); replace HO167 := Aside0.mk (Kd.R_after (v := (.slice (some ⟨go9, 0, none⟩) t168.length co30)) (v1 := (.slice (some ⟨go9, 0, none⟩) t168.length co30)) (ok := (fun _ => True)) (rk HO167) hg (.inl rfl)); replace BK171 := Aside0.mk (blk_grown (g := gb171) (o := .cells #[.slice Ao31 t165.length co31, .slice (some ⟨go9, 0, none⟩) t168.length co30] 29 (0, 0)) (bk BK171) hg (Kd.R_ne HO170.out BK171.out (by decide))); replace HO170 := Aside0.mk (hp_); replace HB := Aside0.mk ((by rw [hw]; exact below_set (HB.out) GB9.out : Below w.heap.size w w45)); clear hg hw hp_; have hcz46_0 := bc0 BK171; have hcz46_1 := bc1 BK171; have hfz46_0 := blk_frozen BK171.out 0; have hfz46_1 := blk_frozen BK171.out 1; have hcz47_0 := bc0 BK163; have hcz47_1 := bc1 BK163; have hfz47_0 := blk_frozen BK163.out 0; have hfz47_1 := blk_frozen BK163.out 1))
 refine bodyPost_ret (results_cell_row rfl _ _ gb163 29 #[.slice Ao31 t165.length co31, .slice (some ⟨go9, 0, none⟩) t168.length co30] (0, 0) _ rfl (by refine blk_put (cs := #[.slice Ao31 t165.length co31, .slice none 0 0]) ?_ 1 _ rfl; refine blk_put (cs := #[.slice none 0 0, .slice none 0 0]) ?_ 0 _ rfl; exact bk BK163) Try.underlying29 rfl (by kernel_rfl)) rfl ?_
 exact ⟨_, _, by first | rfl | (simp [errW_none, errW_some] <;> rfl) | (simp [*, errW_none, errW_some] <;> rfl), by exact Kd.R_mono (Kd.R_far (p := ⟨gb163, 1, none⟩) (Kd.R_far (p := ⟨gb163, 0, none⟩) (Kd.R_types HO167.out BK163.out (by decide)) (fun _ hk => hk.2) (.slice Ao31 t165.length co31)) (fun _ hk => hk.2) (.slice (some ⟨go9, 0, none⟩) t168.length co30)) (fun _ hk => hk.1.2), by exact Kd.R_mono (Kd.R_far (p := ⟨gb163, 1, none⟩) (Kd.R_far (p := ⟨gb163, 0, none⟩) (Kd.R_types HO170.out BK163.out (by decide)) (fun _ hk => hk.2) (.slice Ao31 t165.length co31)) (fun _ hk => hk.2) (.slice (some ⟨go9, 0, none⟩) t168.length co30)) (fun _ hk => hk.1), bw HB⟩
def spec_veSame.l0 : Nat → List Int → Int → Int → List Int → List Int → Option (Bool)
 | 0, _, _, _, _, _ => none
 | k + 1, x8, x9, x10, x180000, x180001 => if x10 < x9 then (if 0 ≤ x10 then (if x10 < (x8.length : Int) then (if x10 < (x180001.length : Int) then (if (rd x8 x10) = (rd x180001 x10) then (spec_veSame.l0 k x8 x9 (wrap64 (x10 + 1)) x180000 x180001) else (some false)) else (none)) else (none)) else (none)) else (some true)
def spec_veSame.f (k : Nat) (l0_0 : List Int) (l0_1 : List Int) (l1_0 : List Int) (l1_1 : List Int) : Option (Bool) := spec_veSame.l0 k l0_1 (l0_1.length : Int) 0 l1_0 l1_1
set_option maxHeartbeats 8000000 in
set_option maxRecDepth 100000 in
theorem spec_veSame.calls (k : Nat) (A0_0 : Option Addr) (c0_0 : Nat) (l0_0 : List Int) (A0_1 : Option Addr) (c0_1 : Nat) (l0_1 : List Int) (A1_0 : Option Addr) (c1_0 : Nat) (l1_0 : List Int) (A1_1 : Option Addr) (c1_1 : Nat) (l1_1 : List Int) (r : Bool) (w : World) (hr0_0 : Kd.C (Kd.int .i64) w A0_0 l0_0.length l0_0) (hc0_0 : l0_0.length ≤ c0_0) (hr0_1 : Kd.C (Kd.int .i64) w A0_1 l0_1.length l0_1) (hc0_1 : l0_1.length ≤ c0_1) (hr1_0 : Kd.C (Kd.int .i64) w A1_0 l1_0.length l1_0) (hc1_0 : l1_0.length ≤ c1_0) (hr1_1 : Kd.C (Kd.int .i64) w A1_1 l1_1.length l1_1) (hc1_1 : l1_1.length ≤ c1_1) (h : spec_veSame.f k l0_0 l0_1 l1_0 l1_1 = some r) :
  Calls Try.prog 56 #[.agg #[.slice A0_0 l0_0.length c0_0, .slice A0_1 l0_1.length c0_1], .agg #[.slice A1_0 l1_0.length c1_0, .slice A1_1 l1_1.length c1_1]] w fun e w' => e = .returned (.bool r) ∧ Below w.heap.size w w' := by
 have hu29 := Try.underlying29
 have HR0_0 := Aside0.mk hr0_0
 have HC0_0 := Aside0.mk hc0_0
 clear hr0_0 hc0_0
 have HR0_1 := Aside0.mk hr0_1
 have HC0_1 := Aside0.mk hc0_1
 clear hr0_1 hc0_1
 have HR1_0 := Aside0.mk hr1_0
 have HC1_0 := Aside0.mk hc1_0
 clear hr1_0 hc1_0
 have HR1_1 := Aside0.mk hr1_1
 have HC1_1 := Aside0.mk hc1_1
 clear hr1_1 hc1_1
 have HB := Aside0.mk (Below.refl w.heap.size w)
 have H : (spec_veSame.l0 k l0_1 (l0_1.length : Int) 0 l1_0 l1_1) = some r := h
 clear h
 have H' := Aside0.mk H
 clear H
 go_enter Try.func56, Try.ntmps56
 go_wp2_with (first | ((with_reducible refine gate_dst (N := 2) rfl ?_); refine bx 2 #[.slice A0_0 l0_0.length c0_0, .slice A0_1 l0_1.length c0_1] 29 ?_; intro gb178 hg w3 hbox hb; have BK178 := Aside0.mk (hbox); have GW178 := ge HB hg; have GE178 := ge HB hg; replace HB := bs HB hb; clear hb hbox hg) | ((with_reducible refine gate_dst (N := 3) rfl ?_); refine bx 3 #[.slice A1_0 l1_0.length c1_0, .slice A1_1 l1_1.length c1_1] 29 ?_; intro gb179 hg w4 hbox hb; have BK179 := Aside0.mk (hbox); have GW179 := ge HB hg; have GE179 := ge HB hg; replace HB := bs HB hb; have NB178_179 := nl BK178 hg; have NB179_178 := nr BK178 hg; replace BK178 := bb BK178 hb; clear hb hbox hg; have hnb5 := NB178_179.out; have hnc5 := NB179_178.out; have hcz6_0 := bc0 BK178; have hcz6_1 := bc1 BK178; have hfz6_0 := blk_frozen BK178.out 0; have hfz6_1 := blk_frozen BK178.out 1))
 try simp only [Act.put, List.setIfInBounds_toArray, List.set_cons_zero, List.set_cons_succ]
 go_loopg [10] k (fun kq v10 w' => ∃ (x10_1 : Int), v10 = .int .i64 x10_1 ∧ Aside0 (spec_veSame.l0 kq l0_1 (l0_1.length : Int) x10_1 l1_0 l1_1 = some r) ∧ Aside0 (kq ≤ k) ∧ Aside0 (w'.heap[gb178]? = some (.cells #[(.slice A0_0 l0_0.length c0_0), (.slice A0_1 l0_1.length c0_1)] 29 (0, 0))) ∧ Aside0 (w'.heap[gb179]? = some (.cells #[(.slice A1_0 l1_0.length c1_0), (.slice A1_1 l1_1.length c1_1)] 29 (0, 0))) ∧ Aside0 (Below w.heap.size w w'))
 case atStart => exact ⟨(0), (by first | rfl | (simp; done) | (simp [*]; done)), H', ⟨Nat.le_refl _⟩, ⟨bk BK178⟩, ⟨bk BK179⟩, ⟨bw HB⟩⟩
 case round =>
  clear H'
  try clear c1
  try clear p2
  try clear c5
  try clear hcz6_0
  try clear hcz6_1
  try clear hfz6_0
  try clear hfz6_1
  obtain ⟨x10_1, rfl, HA, HK1, BK178, BK179, HB⟩ := hrel
  cases gk with
  | zero => exact absurd HA.out (by simp [spec_veSame.l0])
  | succ k1 =>
   have H := HA.out
   clear HA
   simp only [spec_veSame.l0] at H
   by_cases c7 : x10_1 < (l0_1.length : Int)
   rotate_left
   ·rw [if_neg c7] at H
    have c7b0 : decide (x10_1 < (l0_1.length : Int)) = false := decide_eq_false c7
    clear c7
    obtain rfl := Option.some.inj H
    go_wp2
    go_ret
    exact ⟨by first | rfl | (simp [errW_none, errW_some] <;> rfl) | (simp [*, errW_none, errW_some] <;> rfl), bw HB⟩
   rw [if_pos c7] at H
   have c7b0 : decide (x10_1 < (l0_1.length : Int)) = true := decide_eq_true c7
   clear c7
   by_cases c8 : 0 ≤ x10_1
   rotate_left
   ·rw [if_neg c8] at H
    exact absurd H (by simp)
   rw [if_pos c8] at H
   have c8b0 : decide (0 ≤ x10_1) = true := decide_eq_true c8
   clear c8
   by_cases c9 : x10_1 < (l0_1.length : Int)
   rotate_left
   ·rw [if_neg c9] at H
    exact absurd H (by simp)
   rw [if_pos c9] at H
   have c9b0 : decide (x10_1 < (l0_1.length : Int)) = true := decide_eq_true c9
   clear c9
   by_cases c10 : x10_1 < (l1_1.length : Int)
   rotate_left
   ·rw [if_neg c10] at H
    exact absurd H (by simp)
   rw [if_pos c10] at H
   have c10b0 : decide (x10_1 < (l1_1.length : Int)) = true := decide_eq_true c10
   clear c10
   by_cases c11 : (rd l0_1 x10_1) = (rd l1_1 x10_1)
   rotate_left
   ·rw [if_neg c11] at H
    have c11b0 : ((rd l0_1 x10_1) == (rd l1_1 x10_1)) = false := beq_eq_false_iff_ne.mpr c11
    have c11b1 : ((rd l0_1 x10_1) != (rd l1_1 x10_1)) = true := bne_iff_ne.mpr c11
    obtain rfl := Option.some.inj H
    have p180 : 0 ≤ (x10_1 : Int) := of_decide_eq_true ‹_›
    have q180 : x10_1 < (l0_1.length : Int) := of_decide_eq_true ‹_›
    obtain ⟨ad180, e180, hx180_0⟩ := Kd.at_int HR0_1.out x10_1 p180 q180
    cases e180
    replace hx180_0 := (HB.out.cell (World.block_lt_of_cell? w _ hx180_0)).trans hx180_0
    replace p180 := eq_true p180
    replace q180 := eq_true q180
    have hnb14 := NB179_178.out
    have hnc14 := NB178_179.out
    have hcz15_0 := bc0 BK179
    have hcz15_1 := bc1 BK179
    have hfz15_0 := blk_frozen BK179.out 0
    have hfz15_1 := blk_frozen BK179.out 1
    have p181 : 0 ≤ (x10_1 : Int) := of_decide_eq_true ‹_›
    have q181 : x10_1 < (l1_1.length : Int) := of_decide_eq_true ‹_›
    obtain ⟨ad181, e181, hx181_0⟩ := Kd.at_int HR1_1.out x10_1 p181 q181
    cases e181
    replace hx181_0 := (HB.out.cell (World.block_lt_of_cell? w _ hx181_0)).trans hx181_0
    replace p181 := eq_true p181
    replace q181 := eq_true q181
    go_wp2
    go_ret
    exact ⟨by first | rfl | (simp [errW_none, errW_some] <;> rfl) | (simp [*, errW_none, errW_some] <;> rfl), bw HB⟩
   rw [if_pos c11] at H
   have c11b0 : ((rd l0_1 x10_1) == (rd l1_1 x10_1)) = true := beq_iff_eq.mpr c11
   have c11b1 : ((rd l0_1 x10_1) != (rd l1_1 x10_1)) = false := bne_eq_false_iff_eq.mpr c11
   clear c11
   have H' := Aside0.mk H
   clear H
   have p180 : 0 ≤ (x10_1 : Int) := of_decide_eq_true ‹_›
   have q180 : x10_1 < (l0_1.length : Int) := of_decide_eq_true ‹_›
   obtain ⟨ad180, e180, hx180_0⟩ := Kd.at_int HR0_1.out x10_1 p180 q180
   cases e180
   replace hx180_0 := (HB.out.cell (World.block_lt_of_cell? w _ hx180_0)).trans hx180_0
   replace p180 := eq_true p180
   replace q180 := eq_true q180
   have hnb12 := NB179_178.out
   have hnc12 := NB178_179.out
   have hcz13_0 := bc0 BK179
   have hcz13_1 := bc1 BK179
   have hfz13_0 := blk_frozen BK179.out 0
   have hfz13_1 := blk_frozen BK179.out 1
   have p181 : 0 ≤ (x10_1 : Int) := of_decide_eq_true ‹_›
   have q181 : x10_1 < (l1_1.length : Int) := of_decide_eq_true ‹_›
   obtain ⟨ad181, e181, hx181_0⟩ := Kd.at_int HR1_1.out x10_1 p181 q181
   cases e181
   replace hx181_0 := (HB.out.cell (World.block_lt_of_cell? w _ hx181_0)).trans hx181_0
   replace p181 := eq_true p181
   replace q181 := eq_true q181
   go_wp2
   go_roundg k1
   case measure => have := HK1.out; omega
   case rel => exact ⟨(wrap64 (x10_1 + 1)), (by first | rfl | (simp; done) | (simp [*]; done)), H', ⟨by have := HK1.out; omega⟩, ⟨bk BK178⟩, ⟨bk BK179⟩, ⟨bw HB⟩⟩
def spec_plLess.l0 : Nat → List Int → Int → Int → List Int → List Int → Option (Bool)
 | 0, _, _, _, _, _ => none
 | k + 1, x8, x9, x10, x184000, x184001 => if x10 < x9 then (if 0 ≤ x10 then (if x10 < (x8.length : Int) then (if x10 < (x184001.length : Int) then (if (rd x8 x10) = (rd x184001 x10) then (spec_plLess.l0 k x8 x9 (wrap64 (x10 + 1)) x184000 x184001) else (some (decide ((rd x8 x10) < (rd x184001 x10))))) else (none)) else (none)) else (none)) else (some false)
def spec_plLess.f (k : Nat) (l0_0 : List Int) (l0_1 : List Int) (l1_0 : List Int) (l1_1 : List Int) : Option (Bool) := spec_plLess.l0 k l0_1 (l0_1.length : Int) 0 l1_0 l1_1
set_option maxHeartbeats 8000000 in
set_option maxRecDepth 100000 in
theorem spec_plLess.calls (k : Nat) (A0_0 : Option Addr) (c0_0 : Nat) (l0_0 : List Int) (A0_1 : Option Addr) (c0_1 : Nat) (l0_1 : List Int) (A1_0 : Option Addr) (c1_0 : Nat) (l1_0 : List Int) (A1_1 : Option Addr) (c1_1 : Nat) (l1_1 : List Int) (r : Bool) (w : World) (hr0_0 : Kd.C (Kd.int .i64) w A0_0 l0_0.length l0_0) (hc0_0 : l0_0.length ≤ c0_0) (hr0_1 : Kd.C (Kd.int .i64) w A0_1 l0_1.length l0_1) (hc0_1 : l0_1.length ≤ c0_1) (hr1_0 : Kd.C (Kd.int .i64) w A1_0 l1_0.length l1_0) (hc1_0 : l1_0.length ≤ c1_0) (hr1_1 : Kd.C (Kd.int .i64) w A1_1 l1_1.length l1_1) (hc1_1 : l1_1.length ≤ c1_1) (h : spec_plLess.f k l0_0 l0_1 l1_0 l1_1 = some r) :
  Calls Try.prog 82 #[.agg #[.slice A0_0 l0_0.length c0_0, .slice A0_1 l0_1.length c0_1], .agg #[.slice A1_0 l1_0.length c1_0, .slice A1_1 l1_1.length c1_1]] w fun e w' => e = .returned (.bool r) ∧ Below w.heap.size w w' := by
 have hu29 := Try.underlying29
 have HR0_0 := Aside0.mk hr0_0
 have HC0_0 := Aside0.mk hc0_0
 clear hr0_0 hc0_0
 have HR0_1 := Aside0.mk hr0_1
 have HC0_1 := Aside0.mk hc0_1
 clear hr0_1 hc0_1
 have HR1_0 := Aside0.mk hr1_0
 have HC1_0 := Aside0.mk hc1_0
 clear hr1_0 hc1_0
 have HR1_1 := Aside0.mk hr1_1
 have HC1_1 := Aside0.mk hc1_1
 clear hr1_1 hc1_1
 have HB := Aside0.mk (Below.refl w.heap.size w)
 have H : (spec_plLess.l0 k l0_1 (l0_1.length : Int) 0 l1_0 l1_1) = some r := h
 clear h
 have H' := Aside0.mk H
 clear H
 go_enter Try.func82, Try.ntmps82
 go_wp2_with (first | ((with_reducible refine gate_dst (N := 2) rfl ?_); refine bx 2 #[.slice A0_0 l0_0.length c0_0, .slice A0_1 l0_1.length c0_1] 29 ?_; intro gb182 hg w3 hbox hb; have BK182 := Aside0.mk (hbox); have GW182 := ge HB hg; have GE182 := ge HB hg; replace HB := bs HB hb; clear hb hbox hg) | ((with_reducible refine gate_dst (N := 3) rfl ?_); refine bx 3 #[.slice A1_0 l1_0.length c1_0, .slice A1_1 l1_1.length c1_1] 29 ?_; intro gb183 hg w4 hbox hb; have BK183 := Aside0.mk (hbox); have GW183 := ge HB hg; have GE183 := ge HB hg; replace HB := bs HB hb; have NB182_183 := nl BK182 hg; have NB183_182 := nr BK182 hg; replace BK182 := bb BK182 hb; clear hb hbox hg; have hnb5 := NB182_183.out; have hnc5 := NB183_182.out; have hcz6_0 := bc0 BK182; have hcz6_1 := bc1 BK182; have hfz6_0 := blk_frozen BK182.out 0; have hfz6_1 := blk_frozen BK182.out 1))
 try simp only [Act.put, List.setIfInBounds_toArray, List.set_cons_zero, List.set_cons_succ]
 go_loopg [10] k (fun kq v10 w' => ∃ (x10_1 : Int), v10 = .int .i64 x10_1 ∧ Aside0 (spec_plLess.l0 kq l0_1 (l0_1.length : Int) x10_1 l1_0 l1_1 = some r) ∧ Aside0 (kq ≤ k) ∧ Aside0 (w'.heap[gb182]? = some (.cells #[(.slice A0_0 l0_0.length c0_0), (.slice A0_1 l0_1.length c0_1)] 29 (0, 0))) ∧ Aside0 (w'.heap[gb183]? = some (.cells #[(.slice A1_0 l1_0.length c1_0), (.slice A1_1 l1_1.length c1_1)] 29 (0, 0))) ∧ Aside0 (Below w.heap.size w w'))
 case atStart => exact ⟨(0), (by first | rfl | (simp; done) | (simp [*]; done)), H', ⟨Nat.le_refl _⟩, ⟨bk BK182⟩, ⟨bk BK183⟩, ⟨bw HB⟩⟩
 case round =>
  clear H'
  try clear c1
  try clear p2
  try clear c5
  try clear hcz6_0
  try clear hcz6_1
  try clear hfz6_0
  try clear hfz6_1
  obtain ⟨x10_1, rfl, HA, HK1, BK182, BK183, HB⟩ := hrel
  cases gk with
  | zero => exact absurd HA.out (by simp [spec_plLess.l0])
  | succ k1 =>
   have H := HA.out
   clear HA
   simp only [spec_plLess.l0] at H
   by_cases c7 : x10_1 < (l0_1.length : Int)
   rotate_left
   ·rw [if_neg c7] at H
    have c7b0 : decide (x10_1 < (l0_1.length : Int)) = false := decide_eq_false c7
    clear c7
    obtain rfl := Option.some.inj H
    go_wp2
    go_ret
    exact ⟨by first | rfl | (simp [errW_none, errW_some] <;> rfl) | (simp [*, errW_none, errW_some] <;> rfl), bw HB⟩
   rw [if_pos c7] at H
   have c7b0 : decide (x10_1 < (l0_1.length : Int)) = true := decide_eq_true c7
   clear c7
   by_cases c8 : 0 ≤ x10_1
   rotate_left
   ·rw [if_neg c8] at H
    exact absurd H (by simp)
   rw [if_pos c8] at H
   have c8b0 : decide (0 ≤ x10_1) = true := decide_eq_true c8
   clear c8
   by_cases c9 : x10_1 < (l0_1.length : Int)
   rotate_left
   ·rw [if_neg c9] at H
    exact absurd H (by simp)
   rw [if_pos c9] at H
   have c9b0 : decide (x10_1 < (l0_1.length : Int)) = true := decide_eq_true c9
   clear c9
   by_cases c10 : x10_1 < (l1_1.length : Int)
   rotate_left
   ·rw [if_neg c10] at H
    exact absurd H (by simp)
   rw [if_pos c10] at H
   have c10b0 : decide (x10_1 < (l1_1.length : Int)) = true := decide_eq_true c10
   clear c10
   by_cases c11 : (rd l0_1 x10_1) = (rd l1_1 x10_1)
   ·rw [if_pos c11] at H
    have c11b0 : ((rd l0_1 x10_1) == (rd l1_1 x10_1)) = true := beq_iff_eq.mpr c11
    have c11b1 : ((rd l0_1 x10_1) != (rd l1_1 x10_1)) = false := bne_eq_false_iff_eq.mpr c11
    clear c11
    have H' := Aside0.mk H
    clear H
    have p184 : 0 ≤ (x10_1 : Int) := of_decide_eq_true ‹_›
    have q184 : x10_1 < (l0_1.length : Int) := of_decide_eq_true ‹_›
    obtain ⟨ad184, e184, hx184_0⟩ := Kd.at_int HR0_1.out x10_1 p184 q184
    cases e184
    replace hx184_0 := (HB.out.cell (World.block_lt_of_cell? w _ hx184_0)).trans hx184_0
    replace p184 := eq_true p184
    replace q184 := eq_true q184
    have hnb12 := NB183_182.out
    have hnc12 := NB182_183.out
    have hcz13_0 := bc0 BK183
    have hcz13_1 := bc1 BK183
    have hfz13_0 := blk_frozen BK183.out 0
    have hfz13_1 := blk_frozen BK183.out 1
    have p185 : 0 ≤ (x10_1 : Int) := of_decide_eq_true ‹_›
    have q185 : x10_1 < (l1_1.length : Int) := of_decide_eq_true ‹_›
    obtain ⟨ad185, e185, hx185_0⟩ := Kd.at_int HR1_1.out x10_1 p185 q185
    cases e185
    replace hx185_0 := (HB.out.cell (World.block_lt_of_cell? w _ hx185_0)).trans hx185_0
    replace p185 := eq_true p185
    replace q185 := eq_true q185
    go_wp2
    go_roundg k1
    case measure => have := HK1.out; omega
    case rel => exact ⟨(wrap64 (x10_1 + 1)), (by first | rfl | (simp; done) | (simp [*]; done)), H', ⟨by have := HK1.out; omega⟩, ⟨bk BK182⟩, ⟨bk BK183⟩, ⟨bw HB⟩⟩
   rw [if_neg c11] at H
   have c11b0 : ((rd l0_1 x10_1) == (rd l1_1 x10_1)) = false := beq_eq_false_iff_ne.mpr c11
   have c11b1 : ((rd l0_1 x10_1) != (rd l1_1 x10_1)) = true := bne_iff_ne.mpr c11
   obtain rfl := Option.some.inj H
   have p184 : 0 ≤ (x10_1 : Int) := of_decide_eq_true ‹_›
   have q184 : x10_1 < (l0_1.length : Int) := of_decide_eq_true ‹_›
   obtain ⟨ad184, e184, hx184_0⟩ := Kd.at_int HR0_1.out x10_1 p184 q184
   cases e184
   replace hx184_0 := (HB.out.cell (World.block_lt_of_cell? w _ hx184_0)).trans hx184_0
   replace p184 := eq_true p184
   replace q184 := eq_true q184
   have hnb14 := NB183_182.out
   have hnc14 := NB182_183.out
   have hcz15_0 := bc0 BK183
   have hcz15_1 := bc1 BK183
   have hfz15_0 := blk_frozen BK183.out 0
   have hfz15_1 := blk_frozen BK183.out 1
   have p185 : 0 ≤ (x10_1 : Int) := of_decide_eq_true ‹_›
   have q185 : x10_1 < (l1_1.length : Int) := of_decide_eq_true ‹_›
   obtain ⟨ad185, e185, hx185_0⟩ := Kd.at_int HR1_1.out x10_1 p185 q185
   cases e185
   replace hx185_0 := (HB.out.cell (World.block_lt_of_cell? w _ hx185_0)).trans hx185_0
   replace p185 := eq_true p185
   replace q185 := eq_true q185
   have p186 : 0 ≤ (x10_1 : Int) := of_decide_eq_true ‹_›
   have q186 : x10_1 < (l1_1.length : Int) := of_decide_eq_true ‹_›
   obtain ⟨ad186, e186, hx186_0⟩ := Kd.at_int HR1_1.out x10_1 p186 q186
   obtain rfl : ad185 = ad186 := (by injection e186)
   replace hx186_0 := (HB.out.cell (World.block_lt_of_cell? w _ hx186_0)).trans hx186_0
   replace p186 := eq_true p186
   replace q186 := eq_true q186
   go_wp2
   go_ret
   exact ⟨by first | rfl | (simp [errW_none, errW_some] <;> rfl) | (simp [*, errW_none, errW_some] <;> rfl), bw HB⟩
def impl_within.f (a0 : Int) (a1 : Int) (a2 : Int) : Option (Bool) := if a1 ≤ a0 then (some (decide (a0 ≤ a2))) else (some false)
set_option maxHeartbeats 8000000 in
set_option maxRecDepth 100000 in
theorem impl_within.calls (a0 : Int) (a1 : Int) (a2 : Int) (r : Bool) (w : World) (h : impl_within.f a0 a1 a2 = some r) :
  Calls Try.prog 47 #[.int .i64 a0, .int .i64 a1, .int .i64 a2] w fun e w' => e = .returned (.bool r) ∧ Drawn0 w w' := by
 have H : (if a1 ≤ a0 then (some (decide (a0 ≤ a2))) else (some false)) = some r := h
 clear h
 by_cases c4 : a1 ≤ a0
 rotate_left
 ·rw [if_neg c4] at H
  have c4b0 : decide (a1 ≤ a0) = false := decide_eq_false c4
  clear c4
  obtain rfl := Option.some.inj H
  go_enter Try.func47, Try.ntmps47
  go_wp2
  go_ret
  exact ⟨by first | rfl | (simp; done) | (simp [*]; done), by repeat (first | exact Drawn0.refl _ | apply Drawn0.step)⟩
 rw [if_pos c4] at H
 have c4b0 : decide (a1 ≤ a0) = true := decide_eq_true c4
 clear c4
 obtain rfl := Option.some.inj H
 go_enter Try.func47, Try.ntmps47
 go_wp2
 go_ret
 exact ⟨by first | rfl | (simp; done) | (simp [*]; done), by repeat (first | exact Drawn0.refl _ | apply Drawn0.step)⟩
def impl_areWithin.f (l0 : List Int) (a1 : Int) (a2 : Int) : Option Bool := some (l0.all fun x => decide (a1 ≤ x ∧ x ≤ a2))
theorem impl_areWithin.calls (A0 : Option Addr) (c0 : Nat) (l0 : List Int) (a1 : Int) (a2 : Int) (r : Bool) (w : World) (hr0 : Kd.C (Kd.int .i64) w A0 l0.length l0) (hc0 : l0.length ≤ c0) (h : impl_areWithin.f l0 a1 a2 = some r) :
  Calls Try.prog 75 #[.slice A0 l0.length c0, .int .i64 a1, .int .i64 a2] w fun e w' => e = .returned (.bool r) ∧ Below w.heap.size w w' := by
 obtain rfl := Option.some.inj h
 exact Go.Proofs.Ytigpkicbigpilaa.Gv.areWithin_calls A0 c0 l0 a1 a2 w hr0
mutual
def impl_AreVessels.j0 : Nat → Bool → List Int → List Int → Option (Bool)
 | 0, _, _, _ => none
 | k + 1, x24, x196000, x196001 => if x24 = true then (some false) else (impl_AreVessels.l0 k x196001 (x196001.length : Int) 0 x196000 x196001)
def impl_AreVessels.l0 : Nat → List Int → Int → Int → List Int → List Int → Option (Bool)
 | 0, _, _, _, _, _ => none
 | k + 1, x26, x27, x28, x196000, x196001 => if x28 < x27 then (if 0 ≤ x28 then (if x28 < (x26.length : Int) then (if x28 < (x196000.length : Int) then ((impl_within.f (rd x26 x28) 0 (rd x196000 x28)).bind fun t200 => (if t200 = true then (impl_AreVessels.l0 k x26 x27 (wrap64 (x28 + 1)) x196000 x196001) else (some false))) else (none)) else (none)) else (none)) else (some true)
end
def impl_AreVessels.f (k : Nat) (l0_0 : List Int) (l0_1 : List Int) : Option (Bool) := (impl_within.f (l0_0.length : Int) 1 5).bind fun t196 => (if t196 = true then (if (l0_1.length : Int) = (l0_0.length : Int) then ((impl_areWithin.f l0_0 1 60).bind fun t197 => (impl_AreVessels.j0 k (!t197) l0_0 l0_1)) else (impl_AreVessels.j0 k true l0_0 l0_1)) else (impl_AreVessels.j0 k true l0_0 l0_1))
set_option maxHeartbeats 8000000 in
set_option maxRecDepth 100000 in
theorem impl_AreVessels.calls (k : Nat) (A0_0 : Option Addr) (c0_0 : Nat) (l0_0 : List Int) (A0_1 : Option Addr) (c0_1 : Nat) (l0_1 : List Int) (r : Bool) (w : World) (hr0_0 : Kd.C (Kd.int .i64) w A0_0 l0_0.length l0_0) (hc0_0 : l0_0.length ≤ c0_0) (hr0_1 : Kd.C (Kd.int .i64) w A0_1 l0_1.length l0_1) (hc0_1 : l0_1.length ≤ c0_1) (h : impl_AreVessels.f k l0_0 l0_1 = some r) :
  Calls Try.prog 46 #[.agg #[.slice A0_0 l0_0.length c0_0, .slice A0_1 l0_1.length c0_1]] w fun e w' => e = .returned (.bool r) ∧ Below w.heap.size w w' := by
 have hu29 := Try.underlying29
 have HR0_0 := Aside0.mk hr0_0
 have HC0_0 := Aside0.mk hc0_0
 clear hr0_0 hc0_0
 have HR0_1 := Aside0.mk hr0_1
 have HC0_1 := Aside0.mk hc0_1
 clear hr0_1 hc0_1
 have HB := Aside0.mk (Below.refl w.heap.size w)
 have H : ((impl_within.f (l0_0.length : Int) 1 5).bind fun t196 => (if t196 = true then (if (l0_1.length : Int) = (l0_0.length : Int) then ((impl_areWithin.f l0_0 1 60).bind fun t197 => (impl_AreVessels.j0 k (!t197) l0_0 l0_1)) else (impl_AreVessels.j0 k true l0_0 l0_1)) else (impl_AreVessels.j0 k true l0_0 l0_1))) = some r := h
 clear h
 have HC2 := Aside0.mk H
 clear H
 go_enter Try.func46, Try.ntmps46
 go_upto_region 1 with (first | ((with_reducible refine gate_dst (N := 1) rfl ?_); (try (refine gate_guard (by rfl) ?_; dsimp only)); refine bx 1 #[.slice A0_0 l0_0.length c0_0, .slice A0_1 l0_1.length c0_1] 29 ?_; intro gb195 hg w3 hbox hb; have BK195 := Aside0.mk (hbox); have GW195 := ge HB hg; have GE195 := ge HB hg; replace HB := bs HB hb; clear hb hbox hg))
 (try simp only [Act.put, List.setIfInBounds_toArray, List.set_cons_zero, List.set_cons_succ])
 go_cut [24] (fun v24 wc => ∃ (kq : Nat) (x24_1 : Bool), v24 = .bool x24_1 ∧ Aside0 (impl_AreVessels.j0 kq x24_1 l0_0 l0_1 = some r) ∧ Aside0 (kq ≤ k) ∧ Aside0 (wc.heap[gb195]? = some (.cells #[(.slice A0_0 l0_0.length c0_0), (.slice A0_1 l0_1.length c0_1)] 29 (0, 0))) ∧ Aside0 (Below w.heap.size w wc))
 case first =>
  have H := HC2.out
  clear HC2
  replace H := Option.bind_eq_some_iff.mp H
  obtain ⟨t196, A40, H⟩ := H
  (try dsimp only at H)
  have A4 := Aside0.mk A40
  clear A40
  by_cases c5 : t196 = true
  rotate_left
  ·replace c5 := Bool.eq_false_iff.mpr c5
   subst c5
   have H1 : (impl_AreVessels.j0 k true l0_0 l0_1) = some r := by rw [if_neg (show ¬ (false = true) by decide)] at H; exact H
   clear H
   have H := H1
   clear H1
   have H' := Aside0.mk H
   clear H
   have hcz11_0 := bc0 BK195
   have hcz11_1 := bc1 BK195
   have hfz11_0 := blk_frozen BK195.out 0
   have hfz11_1 := blk_frozen BK195.out 1
   go_wp2_with (first | ((with_reducible refine gate_callee (f := 47) rfl ?_); refine gl 8 Try.func47 #[.int .i64 (l0_0.length : Int), .int .i64 1, .int .i64 5] ?_; (with_reducible refine (impl_within.calls (l0_0.length : Int) 1 5 false _ A4.out).mono ?_); rintro e w' ⟨rfl, ⟨nd, rfl⟩⟩; refine ⟨_, rfl, ?_⟩))
   go_meet
   case rel => exact ⟨_, (true), (by first | rfl | (simp; done) | (simp [*]; done)), H', ⟨by first | omega | exact Nat.le_refl _⟩, ⟨bk BK195⟩, ⟨bw HB⟩⟩
  subst c5
  have H1 : (if (l0_1.length : Int) = (l0_0.length : Int) then ((impl_areWithin.f l0_0 1 60).bind fun t197 => (impl_AreVessels.j0 k (!t197) l0_0 l0_1)) else (impl_AreVessels.j0 k true l0_0 l0_1)) = some r := by rw [if_pos rfl] at H; exact H
  clear H
  have H := H1
  clear H1
  by_cases c6 : (l0_1.length : Int) = (l0_0.length : Int)
  rotate_left
  ·rw [if_neg c6] at H
   have c6b0 : ((l0_1.length : Int) == (l0_0.length : Int)) = false := beq_eq_false_iff_ne.mpr c6
   have c6b1 : ((l0_1.length : Int) != (l0_0.length : Int)) = true := bne_iff_ne.mpr c6
   have c6b2 : (l0_1.length == l0_0.length) = false := by first | simpa using c6 | (simp at c6 ⊢; omega)
   (first | rw [c6b0] | (simp only [i64_w, i32_w]; rw [c6b0]) | skip)
   have H' := Aside0.mk H
   clear H
   have hcz10_0 := bc0 BK195
   have hcz10_1 := bc1 BK195
   have hfz10_0 := blk_frozen BK195.out 0
   have hfz10_1 := blk_frozen BK195.out 1
   go_wp2_with (first | ((with_reducible refine gate_callee (f := 47) rfl ?_); refine gl 8 Try.func47 #[.int .i64 (l0_0.length : Int), .int .i64 1, .int .i64 5] ?_; (with_reducible refine (impl_within.calls (l0_0.length : Int) 1 5 true _ A4.out).mono ?_); rintro e w' ⟨rfl, ⟨nd, rfl⟩⟩; refine ⟨_, rfl, ?_⟩))
   go_meet
   case rel => exact ⟨_, (true), (by first | rfl | (simp; done) | (simp [*]; done)), H', ⟨by first | omega | exact Nat.le_refl _⟩, ⟨bk BK195⟩, ⟨bw HB⟩⟩
  rw [if_pos c6] at H
  have c6b0 : ((l0_1.length : Int) == (l0_0.length : Int)) = true := beq_iff_eq.mpr c6
  have c6b1 : ((l0_1.length : Int) != (l0_0.length : Int)) = false := bne_eq_false_iff_eq.mpr c6
  have c6b2 : (l0_1.length == l0_0.length) = true := by first | simpa using c6 | (simp at c6 ⊢; omega)
  clear c6
  (first | rw [c6b0] | (simp only [i64_w, i32_w]; rw [c6b0]) | skip)
  replace H := Option.bind_eq_some_iff.mp H
  obtain ⟨t197, A70, H⟩ := H
  (try dsimp only at H)
  have A7 := Aside0.mk A70
  clear A70
  have H' := Aside0.mk H
  clear H
  have hcz8_0 := bc0 BK195
  have hcz8_1 := bc1 BK195
  have hfz8_0 := blk_frozen BK195.out 0
  have hfz8_1 := blk_frozen BK195.out 1
  go_wp2_with (first | ((with_reducible refine gate_callee (f := 47) rfl ?_); refine gl 8 Try.func47 #[.int .i64 (l0_0.length : Int), .int .i64 1, .int .i64 5] ?_; (with_reducible refine (impl_within.calls (l0_0.length : Int) 1 5 true _ A4.out).mono ?_); rintro e w' ⟨rfl, ⟨nd, rfl⟩⟩; refine ⟨_, rfl, ?_⟩) | (go_at_call 75; (with_reducible refine (impl_areWithin.calls _ _ l0_0 1 60 t197 _ ?side1 ?side2 A7.out).mono ?_); (case side1 => repeat (first | exact (Kd.C_below HR0_0.out (bw HB)) | (with_reducible refine Kd.C_alloc ?_ _) | (with_reducible refine Kd.C_drewN ?_ _) | (with_reducible refine Kd.C_drew ?_))); (case side2 => exact HC0_0.out); rintro e w9 ⟨rfl, hb⟩; replace BK195 := bb BK195 hb; replace HB := bs HB hb; (try clear hb)))
  go_meet
  case rel => exact ⟨_, (!t197), (by first | rfl | (simp; done) | (simp [*]; done)), H', ⟨by first | omega | exact Nat.le_refl _⟩, ⟨bk BK195⟩, ⟨bw HB⟩⟩
 case rest =>
  clear HC2
  try clear p2
  try clear c4
  try clear c5
  try clear c6
  try clear c6b0
  try clear c6b1
  try clear c6b2
  try clear hcz10_0
  try clear hcz10_1
  try clear hcz11_0
  try clear hcz11_1
  try clear hcz8_0
  try clear hcz8_1
  try clear hfz10_0
  try clear hfz10_1
  try clear hfz11_0
  try clear hfz11_1
  try clear hfz8_0
  try clear hfz8_1
  obtain ⟨kq, x24_1, rfl, HA, HJ1, BK195, HB⟩ := hcut
  cases kq with
  | zero => exact absurd HA.out (by simp [impl_AreVessels.j0])
  | succ kj1 =>
   have H := HA.out
   clear HA
   simp only [impl_AreVessels.j0] at H
   by_cases c12 : x24_1 = true
   ·subst c12
    have H1 : (some false) = some r := by rw [if_pos rfl] at H; exact H
    clear H
    have H := H1
    clear H1
    obtain rfl := Option.some.inj H
    go_wp2
    go_ret
    exact ⟨by first | rfl | (simp [errW_none, errW_some] <;> rfl) | (simp [*, errW_none, errW_some] <;> rfl), bw HB⟩
   replace c12 := Bool.eq_false_iff.mpr c12
   subst c12
   have H1 : (impl_AreVessels.l0 kj1 l0_1 (l0_1.length : Int) 0 l0_0 l0_1) = some r := by rw [if_neg (show ¬ (false = true) by decide)] at H; exact H
   clear H
   have H := H1
   clear H1
   have H' := Aside0.mk H
   clear H
   have hcz13_0 := bc0 BK195
   have hcz13_1 := bc1 BK195
   have hfz13_0 := blk_frozen BK195.out 0
   have hfz13_1 := blk_frozen BK195.out 1
   go_wp2
   try simp only [Act.put, List.setIfInBounds_toArray, List.set_cons_zero, List.set_cons_succ]
   go_loopg [28] kj1 (fun kq v28 w' => ∃ (x28_2 : Int), v28 = .int .i64 x28_2 ∧ Aside0 (impl_AreVessels.l0 kq l0_1 (l0_1.length : Int) x28_2 l0_0 l0_1 = some r) ∧ Aside0 (kq ≤ kj1) ∧ Aside0 (w'.heap[gb195]? = some (.cells #[(.slice A0_0 l0_0.length c0_0), (.slice A0_1 l0_1.length c0_1)] 29 (0, 0))) ∧ Aside0 (Below w.heap.size w w'))
   case atStart => exact ⟨(0), (by first | rfl | (simp; done) | (simp [*]; done)), H', ⟨Nat.le_refl _⟩, ⟨bk BK195⟩, ⟨bw HB⟩⟩
   case round =>
    clear H'
    try clear c1
    try clear p2
    try clear c4
    try clear c5
    try clear c6
    try clear c6b0
    try clear c6b1
    try clear c6b2
    try clear c12
    try clear hcz10_0
    try clear hcz10_1
    try clear hcz11_0
    try clear hcz11_1
    try clear hcz13_0
    try clear hcz13_1
    try clear hcz8_0
    try clear hcz8_1
    try clear hfz10_0
    try clear hfz10_1
    try clear hfz11_0
    try clear hfz11_1
    try clear hfz13_0
    try clear hfz13_1
    try clear hfz8_0
    try clear hfz8_1
    try clear p2
    obtain ⟨x28_2, rfl, HA, HK2, BK195, HB⟩ := hrel
    cases gk with
    | zero => exact absurd HA.out (by simp [impl_AreVessels.l0])
    | succ k2 =>
     have H := HA.out
     clear HA
     simp only [impl_AreVessels.l0] at H
     by_cases c14 : x28_2 < (l0_1.length : Int)
     rotate_left
     ·rw [if_neg c14] at H
      have c14b0 : decide (x28_2 < (l0_1.length : Int)) = false := decide_eq_false c14
      clear c14
      obtain rfl := Option.some.inj H
      go_wp2
      go_ret
      exact ⟨by first | rfl | (simp [errW_none, errW_some] <;> rfl) | (simp [*, errW_none, errW_some] <;> rfl), bw HB⟩
     rw [if_pos c14] at H
     have c14b0 : decide (x28_2 < (l0_1.length : Int)) = true := decide_eq_true c14
     clear c14
     by_cases c15 : 0 ≤ x28_2
     rotate_left
     ·rw [if_neg c15] at H
      exact absurd H (by simp)
     rw [if_pos c15] at H
     have c15b0 : decide (0 ≤ x28_2) = true := decide_eq_true c15
     clear c15
     by_cases c16 : x28_2 < (l0_1.length : Int)
     rotate_left
     ·rw [if_neg c16] at H
      exact absurd H (by simp)
     rw [if_pos c16] at H
     have c16b0 : decide (x28_2 < (l0_1.length : Int)) = true := decide_eq_true c16
     clear c16
     by_cases c17 : x28_2 < (l0_0.length : Int)
     rotate_left
     ·rw [if_neg c17] at H
      exact absurd H (by simp)
     rw [if_pos c17] at H
     have c17b0 : decide (x28_2 < (l0_0.length : Int)) = true := decide_eq_true c17
     clear c17
     replace H := Option.bind_eq_some_iff.mp H
     obtain ⟨t200, A180, H⟩ := H
     (try dsimp only at H)
     have A18 := Aside0.mk A180
     clear A180
     by_cases c19 : t200 = true
     rotate_left
     ·replace c19 := Bool.eq_false_iff.mpr c19
      subst c19
      have H1 : (some false) = some r := by rw [if_neg (show ¬ (false = true) by decide)] at H; exact H
      clear H
      have H := H1
      clear H1
      obtain rfl := Option.some.inj H
      have p198 : 0 ≤ (x28_2 : Int) := of_decide_eq_true ‹_›
      have q198 : x28_2 < (l0_1.length : Int) := of_decide_eq_true ‹_›
      obtain ⟨ad198, e198, hx198_0⟩ := Kd.at_int HR0_1.out x28_2 p198 q198
      cases e198
      replace hx198_0 := (HB.out.cell (World.block_lt_of_cell? w _ hx198_0)).trans hx198_0
      replace p198 := eq_true p198
      replace q198 := eq_true q198
      have hcz21_0 := bc0 BK195
      have hcz21_1 := bc1 BK195
      have hfz21_0 := blk_frozen BK195.out 0
      have hfz21_1 := blk_frozen BK195.out 1
      have p199 : 0 ≤ (x28_2 : Int) := of_decide_eq_true ‹_›
      have q199 : x28_2 < (l0_0.length : Int) := of_decide_eq_true ‹_›
      obtain ⟨ad199, e199, hx199_0⟩ := Kd.at_int HR0_0.out x28_2 p199 q199
      cases e199
      replace hx199_0 := (HB.out.cell (World.block_lt_of_cell? w _ hx199_0)).trans hx199_0
      replace p199 := eq_true p199
      replace q199 := eq_true q199
      go_wp2_with (first | ((with_reducible refine gate_callee (f := 47) rfl ?_); refine gl 39 Try.func47 #[.int .i64 (rd l0_1 x28_2), .int .i64 0, .int .i64 (rd l0_0 x28_2)] ?_; (with_reducible refine (impl_within.calls (rd l0_1 x28_2) 0 (rd l0_0 x28_2) false _ A18.out).mono ?_); rintro e w' ⟨rfl, ⟨nd, rfl⟩⟩; refine ⟨_, rfl, ?_⟩))
      go_ret
      exact ⟨by first | rfl | (simp [errW_none, errW_some] <;> rfl) | (simp [*, errW_none, errW_some] <;> rfl), bw HB⟩
     subst c19
     have H1 : (impl_AreVessels.l0 k2 l0_1 (l0_1.length : Int) (wrap64 (x28_2 + 1)) l0_0 l0_1) = some r := by rw [if_pos rfl] at H; exact H
     clear H
     have H := H1
     clear H1
     have H' := Aside0.mk H
     clear H
     have p198 : 0 ≤ (x28_2 : Int) := of_decide_eq_true ‹_›
     have q198 : x28_2 < (l0_1.length : Int) := of_decide_eq_true ‹_›
     obtain ⟨ad198, e198, hx198_0⟩ := Kd.at_int HR0_1.out x28_2 p198 q198
     cases e198
     replace hx198_0 := (HB.out.cell (World.block_lt_of_cell? w _ hx198_0)).trans hx198_0
     replace p198 := eq_true p198
     replace q198 := eq_true q198
     have hcz20_0 := bc0 BK195
     have hcz20_1 := bc1 BK195
     have hfz20_0 := blk_frozen BK195.out 0
     have hfz20_1 := blk_frozen BK195.out 1
     have p199 : 0 ≤ (x28_2 : Int) := of_decide_eq_true ‹_›
     have q199 : x28_2 < (l0_0.length : Int) := of_decide_eq_true ‹_›
     obtain ⟨ad199, e199, hx199_0⟩ := Kd.at_int HR0_0.out x28_2 p199 q199
     cases e199
     replace hx199_0 := (HB.out.cell (World.block_lt_of_cell? w _ hx199_0)).trans hx199_0
     replace p199 := eq_true p199
     replace q199 := eq_true q199
     go_wp2_with (first | ((with_reducible refine gate_callee (f := 47) rfl ?_); refine gl 39 Try.func47 #[.int .i64 (rd l0_1 x28_2), .int .i64 0, .int .i64 (rd l0_0 x28_2)] ?_; (with_reducible refine (impl_within.calls (rd l0_1 x28_2) 0 (rd l0_0 x28_2) true _ A18.out).mono ?_); rintro e w' ⟨rfl, ⟨nd, rfl⟩⟩; refine ⟨_, rfl, ?_⟩))
     go_roundg k2
     case measure => have := HJ1.out; have := HK2.out; omega
     case rel => exact ⟨(wrap64 (x28_2 + 1)), (by first | rfl | (simp; done) | (simp [*]; done)), H', ⟨by have := HJ1.out; have := HK2.out; omega⟩, ⟨bk BK195⟩, ⟨bw HB⟩⟩
def impl_Vessels_room.f (l0_0 : List Int) (l0_1 : List Int) (a1 : Int) : Option (Int) := if 0 ≤ a1 then (if a1 < (l0_0.length : Int) then (if a1 < (l0_1.length : Int) then (some (wrap64 ((rd l0_0 a1) - (rd l0_1 a1)))) else (none)) else (none)) else (none)
set_option maxHeartbeats 8000000 in
set_option maxRecDepth 100000 in
theorem impl_Vessels_room.calls (A0_0 : Option Addr) (c0_0 : Nat) (l0_0 : List Int) (A0_1 : Option Addr) (c0_1 : Nat) (l0_1 : List Int) (a1 : Int) (r : Int) (w : World) (hr0_0 : Kd.C (Kd.int .i64) w A0_0 l0_0.length l0_0) (hc0_0 : l0_0.length ≤ c0_0) (hr0_1 : Kd.C (Kd.int .i64) w A0_1 l0_1.length l0_1) (hc0_1 : l0_1.length ≤ c0_1) (h : impl_Vessels_room.f l0_0 l0_1 a1 = some r) :
  Calls Try.prog 80 #[.agg #[.slice A0_0 l0_0.length c0_0, .slice A0_1 l0_1.length c0_1], .int .i64 a1] w fun e w' => e = .returned (.int .i64 r) ∧ Below w.heap.size w w' := by
 have hu29 := Try.underlying29
 have HR0_0 := Aside0.mk hr0_0
 have HC0_0 := Aside0.mk hc0_0
 clear hr0_0 hc0_0
 have HR0_1 := Aside0.mk hr0_1
 have HC0_1 := Aside0.mk hc0_1
 clear hr0_1 hc0_1
 have HB := Aside0.mk (Below.refl w.heap.size w)
 have H : (if 0 ≤ a1 then (if a1 < (l0_0.length : Int) then (if a1 < (l0_1.length : Int) then (some (wrap64 ((rd l0_0 a1) - (rd l0_1 a1)))) else (none)) else (none)) else (none)) = some r := h
 clear h
 by_cases c3 : 0 ≤ a1
 rotate_left
 ·rw [if_neg c3] at H
  exact absurd H (by simp)
 rw [if_pos c3] at H
 have c3b0 : decide (0 ≤ a1) = true := decide_eq_true c3
 clear c3
 by_cases c4 : a1 < (l0_0.length : Int)
 rotate_left
 ·rw [if_neg c4] at H
  exact absurd H (by simp)
 rw [if_pos c4] at H
 have c4b0 : decide (a1 < (l0_0.length : Int)) = true := decide_eq_true c4
 clear c4
 by_cases c5 : a1 < (l0_1.length : Int)
 rotate_left
 ·rw [if_neg c5] at H
  exact absurd H (by simp)
 rw [if_pos c5] at H
 have c5b0 : decide (a1 < (l0_1.length : Int)) = true := decide_eq_true c5
 clear c5
 obtain rfl := Option.some.inj H
 go_enter Try.func80, Try.ntmps80
 go_wp2_with (first | ((with_reducible refine gate_dst (N := 2) rfl ?_); refine bx 2 #[.slice A0_0 l0_0.length c0_0, .slice A0_1 l0_1.length c0_1] 29 ?_; intro gb201 hg w6 hbox hb; have BK201 := Aside0.mk (hbox); have GW201 := ge HB hg; have GE201 := ge HB hg; replace HB := bs HB hb; clear hb hbox hg; have hcz7_0 := bc0 BK201; have hcz7_1 := bc1 BK201; have hfz7_0 := blk_frozen BK201.out 0; have hfz7_1 := blk_frozen BK201.out 1; have p202 : 0 ≤ (a1 : Int) := of_decide_eq_true ‹_›; have q202 : a1 < (l0_0.length : Int) := of_decide_eq_true ‹_›; obtain ⟨ad202, e202, hx202_0⟩ := Kd.at_int HR0_0.out a1 p202 q202; cases e202; replace hx202_0 := (HB.out.cell (World.block_lt_of_cell? w _ hx202_0)).trans hx202_0; replace p202 := eq_true p202; replace q202 := eq_true q202; have p203 : 0 ≤ (a1 : Int) := of_decide_eq_true ‹_›; have q203 : a1 < (l0_1.length : Int) := of_decide_eq_true ‹_›; obtain ⟨ad203, e203, hx203_0⟩ := Kd.at_int HR0_1.out a1 p203 q203; cases e203; replace hx203_0 := (HB.out.cell (World.block_lt_of_cell? w _ hx203_0)).trans hx203_0; replace p203 := eq_true p203; replace q203 := eq_true q203))
 repeat (go_quiet (first | ((with_reducible refine gate_dst (N := 2) rfl ?_); refine bx 2 #[.slice A0_0 l0_0.length c0_0, .slice A0_1 l0_1.length c0_1] 29 ?_; intro gb201 hg w6 hbox hb; have n0_ := bs HB hb; have n1_ := Aside0.mk (hbox); have n2_ := ge HB hg; have n3_ := ge HB hg; clear HB; have HB := n0_; have BK201 := n1_; have GW201 := n2_; have GE201 := n3_; clear n0_ n1_ n2_ n3_; clear hb hbox hg; have hcz7_0 := bc0 BK201; have hcz7_1 := bc1 BK201; have hfz7_0 := blk_frozen BK201.out 0; have hfz7_1 := blk_frozen BK201.out 1; have p202 : 0 ≤ (a1 : Int) := of_decide_eq_true ‹_›; have q202 : a1 < (l0_0.length : Int) := of_decide_eq_true ‹_›; obtain ⟨ad202, e202, hx202_0⟩ := Kd.at_int HR0_0.out a1 p202 q202; cases e202; replace hx202_0 := (HB.out.cell (World.block_lt_of_cell? w _ hx202_0)).trans hx202_0; replace p202 := eq_true p202; replace q202 := eq_true q202; have p203 : 0 ≤ (a1 : Int) := of_decide_eq_true ‹_›; have q203 : a1 < (l0_1.length : Int) := of_decide_eq_true ‹_›; obtain ⟨ad203, e203, hx203_0⟩ := Kd.at_int HR0_1.out a1 p203 q203; cases e203; replace hx203_0 := (HB.out.cell (World.block_lt_of_cell? w _ hx203_0)).trans hx203_0; replace p203 := eq_true p203; replace q203 := eq_true q203)); try go_wp2_with (first | ((with_reducible refine gate_dst (N := 2) rfl ?_); refine bx 2 #[.slice A0_0 l0_0.length c0_0, .slice A0_1 l0_1.length c0_1] 29 ?_; intro gb201 hg w6 hbox hb; have n0_ := bs HB hb; have n1_ := Aside0.mk (hbox); have n2_ := ge HB hg; have n3_ := ge HB hg; clear HB; have HB := n0_; have BK201 := n1_; have GW201 := n2_; have GE201 := n3_; clear n0_ n1_ n2_ n3_; clear hb hbox hg; have hcz7_0 := bc0 BK201; have hcz7_1 := bc1 BK201; have hfz7_0 := blk_frozen BK201.out 0; have hfz7_1 := blk_frozen BK201.out 1; have p202 : 0 ≤ (a1 : Int) := of_decide_eq_true ‹_›; have q202 : a1 < (l0_0.length : Int) := of_decide_eq_true ‹_›; obtain ⟨ad202, e202, hx202_0⟩ := Kd.at_int HR0_0.out a1 p202 q202; cases e202; replace hx202_0 := (HB.out.cell (World.block_lt_of_cell? w _ hx202_0)).trans hx202_0; replace p202 := eq_true p202; replace q202 := eq_true q202; have p203 : 0 ≤ (a1 : Int) := of_decide_eq_true ‹_›; have q203 : a1 < (l0_1.length : Int) := of_decide_eq_true ‹_›; obtain ⟨ad203, e203, hx203_0⟩ := Kd.at_int HR0_1.out a1 p203 q203; cases e203; replace hx203_0 := (HB.out.cell (World.block_lt_of_cell? w _ hx203_0)).trans hx203_0; replace p203 := eq_true p203; replace q203 := eq_true q203)))
 go_ret
 exact ⟨by first | rfl | (simp [errW_none, errW_some] <;> rfl) | (simp [*, errW_none, errW_some] <;> rfl), bw HB⟩
end Go.Proofs.Ytigpkicbigpilaa.V
