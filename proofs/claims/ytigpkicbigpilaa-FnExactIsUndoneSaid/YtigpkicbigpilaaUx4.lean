-- Functions of the program as plain functions, and that the calls come to them. Written by a program (ownprint.py); nothing here is trusted: Lean checks it.
import Derived.Test.YtigpkicbigpilaaUx0
import Derived.Test.YtigpkicbigpilaaUx2
import Derived.Test.YtigpkicbigpilaaUx3
namespace Go.Proofs.Ytigpkicbigpilaa.U
open Go.RowKit Go.Proofs.YtigpkicbigpilaaW.PrintWords Go.Proofs.YtigpkicbigpilaaW.PrintLast Go.Proofs.YtigpkicbigpilaaW.PrintMore Go.Proofs.Ytigpkicbigpilaa.Sq
attribute [local go_sem] max2_int min2_int max_two min_two max_three min_three max_four min_four   -- for this text's walks alone
set_option linter.unusedVariables false
set_option linter.unusedSimpArgs false

/-! ### spec_veMake: function 55 -/
def spec_veMake.f (l0_0 : List Int) (l0_1 : List Int) (a1_0 : Int) (a1_1 : Int) : Option (List Int × List Int) := (spec_veAmount.f l0_0 l0_1 a1_0 a1_1).bind fun t170 => ((spec_l1Own.f l0_0).bind fun t171 => ((spec_l1Own.f l0_1).bind fun t174 => (if a1_0 ≥ 0 then (if 0 ≤ a1_0 then (if a1_0 < (t174.length : Int) then ((some (t174.set (a1_0 : Int).toNat (wrap64 ((rd t174 a1_0) - t170)) : List Int)).bind fun y179 => (if a1_1 ≥ 0 then (if 0 ≤ a1_1 then (if a1_1 < (t174.length : Int) then (some (t171, (y179.set (a1_1 : Int).toNat (wrap64 ((rd y179 a1_1) + t170))))) else (none)) else (none)) else (some (t171, y179)))) else (none)) else (none)) else (if a1_1 ≥ 0 then (if 0 ≤ a1_1 then (if a1_1 < (t174.length : Int) then (some (t171, (t174.set (a1_1 : Int).toNat (wrap64 ((rd t174 a1_1) + t170))))) else (none)) else (none)) else (some (t171, t174))))))
def spec_veMake.T2 : Bool × List (List Nat × List Nat) := (true, [([], []), ([0], [0]), ([1], [1]), ([], []), ([3], [3]), ([4, 2], [4]), ([2, 5], [2, 5]), ([], []), ([7, 6, 5, 0, 1, 2, 3, 4, 5, 6, 7], [6, 7])])
def spec_veMake.B2 : List Nat := [0, 1, 3, 0, 8, 31, 63, 0, 255]
theorem spec_veMake.tab2 : rtab .any (opsOf Try.f55 2) = spec_veMake.T2 := by kernel_rfl
theorem spec_veMake.bits2 : waitsOk spec_veMake.T2.2 spec_veMake.B2 = true := by kernel_rfl
set_option maxHeartbeats 8000000 in
set_option maxRecDepth 100000 in
theorem spec_veMake.calls (A0_0 : Option Addr) (c0_0 : Nat) (l0_0 : List Int) (A0_1 : Option Addr) (c0_1 : Nat) (l0_1 : List Int) (a1_0 : Int) (a1_1 : Int) (r1 : List Int) (r2 : List Int) (w : World) (hr0_0 : Kd.C (Kd.int .i64) w A0_0 l0_0.length l0_0) (hc0_0 : l0_0.length ≤ c0_0) (hr0_1 : Kd.C (Kd.int .i64) w A0_1 l0_1.length l0_1) (hc0_1 : l0_1.length ≤ c0_1) (h : spec_veMake.f l0_0 l0_1 a1_0 a1_1 = some (r1, r2)) :
  Calls Try.prog 55 #[.agg #[.slice A0_0 l0_0.length c0_0, .slice A0_1 l0_1.length c0_1], .agg #[.int .i64 a1_0, .int .i64 a1_1]] w fun e w' => ∃ v0_ v1_ : Value, e = .returned (.agg #[v0_, v1_]) ∧ Kd.R (Kd.int .i64) 3 w' w.heap.size (fun k_ => some k_ ≠ (v1_ : Value).ownBlock) v0_ r1 ∧ Kd.R (Kd.int .i64) 3 w' w.heap.size (fun k_ => some k_ ≠ (v0_ : Value).ownBlock) v1_ r2 ∧ Below w.heap.size w w' := by
 have hu29 := Try.underlying29
 have hu49 := Try.underlying49
 have HR0_0 := Aside0.mk hr0_0
 have HC0_0 := Aside0.mk hc0_0
 clear hr0_0 hc0_0
 have HR0_1 := Aside0.mk hr0_1
 have HC0_1 := Aside0.mk hc0_1
 clear hr0_1 hc0_1
 have HB := Aside0.mk (Below.refl w.heap.size w)
 have H : ((spec_veAmount.f l0_0 l0_1 a1_0 a1_1).bind fun t170 => ((spec_l1Own.f l0_0).bind fun t171 => ((spec_l1Own.f l0_1).bind fun t174 => (if a1_0 ≥ 0 then (if 0 ≤ a1_0 then (if a1_0 < (t174.length : Int) then ((some (t174.set (a1_0 : Int).toNat (wrap64 ((rd t174 a1_0) - t170)) : List Int)).bind fun y179 => (if a1_1 ≥ 0 then (if 0 ≤ a1_1 then (if a1_1 < (t174.length : Int) then (some (t171, (y179.set (a1_1 : Int).toNat (wrap64 ((rd y179 a1_1) + t170))))) else (none)) else (none)) else (some (t171, y179)))) else (none)) else (none)) else (if a1_1 ≥ 0 then (if 0 ≤ a1_1 then (if a1_1 < (t174.length : Int) then (some (t171, (t174.set (a1_1 : Int).toNat (wrap64 ((rd t174 a1_1) + t170))))) else (none)) else (none)) else (some (t171, t174))))))) = some (r1, r2) := h
 clear h
 replace H := Option.bind_eq_some_iff.mp H
 obtain ⟨t170, A30, H⟩ := H
 replace H : ((spec_l1Own.f l0_0).bind fun t171 => ((spec_l1Own.f l0_1).bind fun t174 => (if a1_0 ≥ 0 then (if 0 ≤ a1_0 then (if a1_0 < (t174.length : Int) then ((some (t174.set (a1_0 : Int).toNat (wrap64 ((rd t174 a1_0) - t170)) : List Int)).bind fun y179 => (if a1_1 ≥ 0 then (if 0 ≤ a1_1 then (if a1_1 < (t174.length : Int) then (some (t171, (y179.set (a1_1 : Int).toNat (wrap64 ((rd y179 a1_1) + t170))))) else (none)) else (none)) else (some (t171, y179)))) else (none)) else (none)) else (if a1_1 ≥ 0 then (if 0 ≤ a1_1 then (if a1_1 < (t174.length : Int) then (some (t171, (t174.set (a1_1 : Int).toNat (wrap64 ((rd t174 a1_1) + t170))))) else (none)) else (none)) else (some (t171, t174)))))) = some (r1, r2) := H
 have A3 := Aside0.mk A30
 clear A30
 replace H := Option.bind_eq_some_iff.mp H
 obtain ⟨t171, A40, H⟩ := H
 replace H : ((spec_l1Own.f l0_1).bind fun t174 => (if a1_0 ≥ 0 then (if 0 ≤ a1_0 then (if a1_0 < (t174.length : Int) then ((some (t174.set (a1_0 : Int).toNat (wrap64 ((rd t174 a1_0) - t170)) : List Int)).bind fun y179 => (if a1_1 ≥ 0 then (if 0 ≤ a1_1 then (if a1_1 < (t174.length : Int) then (some (t171, (y179.set (a1_1 : Int).toNat (wrap64 ((rd y179 a1_1) + t170))))) else (none)) else (none)) else (some (t171, y179)))) else (none)) else (none)) else (if a1_1 ≥ 0 then (if 0 ≤ a1_1 then (if a1_1 < (t174.length : Int) then (some (t171, (t174.set (a1_1 : Int).toNat (wrap64 ((rd t174 a1_1) + t170))))) else (none)) else (none)) else (some (t171, t174))))) = some (r1, r2) := H
 have A4 := Aside0.mk A40
 clear A40
 replace H := Option.bind_eq_some_iff.mp H
 obtain ⟨t174, A50, H⟩ := H
 replace H : (if a1_0 ≥ 0 then (if 0 ≤ a1_0 then (if a1_0 < (t174.length : Int) then ((some (t174.set (a1_0 : Int).toNat (wrap64 ((rd t174 a1_0) - t170)) : List Int)).bind fun y179 => (if a1_1 ≥ 0 then (if 0 ≤ a1_1 then (if a1_1 < (t174.length : Int) then (some (t171, (y179.set (a1_1 : Int).toNat (wrap64 ((rd y179 a1_1) + t170))))) else (none)) else (none)) else (some (t171, y179)))) else (none)) else (none)) else (if a1_1 ≥ 0 then (if 0 ≤ a1_1 then (if a1_1 < (t174.length : Int) then (some (t171, (t174.set (a1_1 : Int).toNat (wrap64 ((rd t174 a1_1) + t170))))) else (none)) else (none)) else (some (t171, t174)))) = some (r1, r2) := H
 have A5 := Aside0.mk A50
 clear A50
 by_cases c6 : a1_0 ≥ 0
 ·rw [if_pos c6] at H
  have c6b0 : decide (0 ≤ a1_0) = true := decide_eq_true c6
  clear c6
  by_cases c7 : 0 ≤ a1_0
  ·rw [if_pos c7] at H
   have c7b0 : decide (0 ≤ a1_0) = true := decide_eq_true c7
   clear c7
   by_cases c8 : a1_0 < (t174.length : Int)
   ·rw [if_pos c8] at H
    have c8b0 : decide (a1_0 < (t174.length : Int)) = true := decide_eq_true c8
    clear c8
    obtain ⟨y179, hy179⟩ : ∃ y_ : List Int, y_ = (t174.set (a1_0 : Int).toNat (wrap64 ((rd t174 a1_0) - t170))) := ⟨_, rfl⟩
    replace H : (if a1_1 ≥ 0 then (if 0 ≤ a1_1 then (if a1_1 < (t174.length : Int) then (some (t171, (y179.set (a1_1 : Int).toNat (wrap64 ((rd y179 a1_1) + t170))))) else (none)) else (none)) else (some (t171, y179))) = some (r1, r2) := by first | (rw [hy179]; with_reducible exact H) | (have H2_ := (Option.bind_some _ _).symm.trans H; rw [hy179]; with_reducible exact H2_) | (have H2_ := (Option.bind_some _ _).symm.trans H; with_reducible exact H2_) | with_reducible exact H | (rw [hy179]; exact H) | exact H
    have Ny179 := Aside0.mk hy179
    clear hy179
    by_cases c10 : a1_1 ≥ 0
    ·rw [if_pos c10] at H
     have c10b0 : decide (0 ≤ a1_1) = true := decide_eq_true c10
     clear c10
     by_cases c11 : 0 ≤ a1_1
     ·rw [if_pos c11] at H
      have c11b0 : decide (0 ≤ a1_1) = true := decide_eq_true c11
      clear c11
      by_cases c12 : a1_1 < (t174.length : Int)
      ·rw [if_pos c12] at H
       have c12b0 : decide (a1_1 < (t174.length : Int)) = true := decide_eq_true c12
       clear c12
       obtain ⟨y181, hy181⟩ : ∃ y_ : List Int, y_ = (y179.set (a1_1 : Int).toNat (wrap64 ((rd y179 a1_1) + t170))) := ⟨_, rfl⟩
       replace H : (some (t171, y181)) = some (r1, r2) := by first | (rw [hy181]; with_reducible exact H) | (have H2_ := (Option.bind_some _ _).symm.trans H; rw [hy181]; with_reducible exact H2_) | (have H2_ := (Option.bind_some _ _).symm.trans H; with_reducible exact H2_) | with_reducible exact H | (rw [hy181]; exact H) | exact H
       have Ny181 := Aside0.mk hy181
       clear hy181
       simp only [Option.some.injEq, Prod.mk.injEq] at H
       obtain ⟨rfl, rfl⟩ := H
       go_enter Try.func55, Try.ntmps55
       try go_wp2_with (first | ((with_reducible refine gate_dst (N := 2) rfl ?_); refine bx 2 #[.slice A0_0 l0_0.length c0_0, .slice A0_1 l0_1.length c0_1] 29 ?_; intro gb167 hg w14 hbox hb; have BK167 := Aside0.mk (hbox); have GW167 := ge HB hg; have GE167 := ge HB hg; replace HB := bs HB hb; clear hb hbox hg) | ((with_reducible refine gate_dst (N := 3) rfl ?_); refine bx 3 #[.int .i64 a1_0, .int .i64 a1_1] 49 ?_; intro gb168 hg w15 hbox hb; have BK168 := Aside0.mk (hbox); have GW168 := ge HB hg; have GE168 := ge HB hg; replace HB := bs HB hb; have NB167_168 := nl BK167 hg; have NB168_167 := nr BK167 hg; replace BK167 := bb BK167 hb; clear hb hbox hg) | ((with_reducible refine gate_dst (N := 4) rfl ?_); refine bx 4 #[.slice none 0 0, .slice none 0 0] 29 ?_; intro gb169 hg w16 hbox hb; have BK169 := Aside0.mk (hbox); have GW169 := ge HB hg; have GE169 := ge HB hg; replace HB := bs HB hb; have NB167_169 := nl BK167 hg; have NB169_167 := nr BK167 hg; replace BK167 := bb BK167 hb; have NB168_169 := nl BK168 hg; have NB169_168 := nr BK168 hg; replace BK168 := bb BK168 hb; clear hb hbox hg; have hnb17 := NB167_168.out; have hnc17 := NB168_167.out; have hnb18 := NB167_169.out; have hnc18 := NB169_167.out; have hcz19_0 := bc0 BK167; have hcz19_1 := bc1 BK167; have hfz19_0 := blk_frozen BK167.out 0; have hfz19_1 := blk_frozen BK167.out 1; have hnb20 := NB168_169.out; have hnc20 := NB169_168.out; have hcz21_0 := bc0 BK168; have hcz21_1 := bc1 BK168; have hfz21_0 := blk_frozen BK168.out 0; have hfz21_1 := blk_frozen BK168.out 1) | ((with_reducible refine gate_callee (f := 78) rfl ?_); refine gl 9 Try.func78 #[.agg #[.slice A0_0 l0_0.length c0_0, .slice A0_1 l0_1.length c0_1], .agg #[.int .i64 a1_0, .int .i64 a1_1]] ?_; (with_reducible refine (spec_veAmount.calls _ _ l0_0 _ _ l0_1 a1_0 a1_1 t170 _ ?side1 ?side2 ?side3 ?side4 A3.out).mono ?_); (case side1 => exact ck HR0_0 HB); (case side2 => exact HC0_0.out); (case side3 => exact ck HR0_1 HB); (case side4 => exact HC0_1.out); rintro e w22 ⟨rfl, hb⟩; refine ⟨_, rfl, ?_⟩; replace BK167 := bb BK167 hb; replace BK168 := bb BK168 hb; replace BK169 := bb BK169 hb; replace HB := bs HB hb; (try clear hb)))
       replace BK167 := Aside0.mk (blk_drew BK167.out)
       replace BK168 := Aside0.mk (blk_drew BK168.out)
       replace BK169 := Aside0.mk (blk_drew BK169.out)
       replace HB := Aside0.mk (below_drew1 HB.out)
       refine start_ (n := 9) (S := fun w' => w'.cell? ⟨gb167, 0, none⟩ = some (.slice A0_0 l0_0.length c0_0) ∧ w'.cell? ⟨gb167, 1, none⟩ = some (.slice A0_1 l0_1.length c0_1)) (ds := []) #[false, false, false, false, false, false, false, false, false] (by kernel_rfl) rfl rfl ⟨bc0 BK167, bc1 BK167⟩ (fun hHeld => ?_); refine with_tabW spec_veMake.tab2 spec_veMake.bits2 (fun HT_ HW_ => ?_)
       generalize w22.drew = w23 at BK167 BK168 BK169 HB hHeld ⊢
       refine pure_ (i := 0) (N := some 10) (v := ?_) (a' := ?_) #[true, false, false, false, false, false, false, false, false] rfl rfl (any_of HT_.out (by kernel_rfl)) (fun _ _ _ h => h) (Or.inl ⟨by rfl, ?_⟩) ?_ ?_
       rotate_left
       ·intro w'
        go_simp
        with_reducible rfl
       rotate_left
       ·simp only [Act.put, List.setIfInBounds_toArray, List.set_cons_zero, List.set_cons_succ, i64_w, i32_w]
        rfl
       refine pure_ (i := 3) (N := some 13) (v := ?_) (a' := ?_) #[true, false, false, true, false, false, false, false, false] rfl rfl (any_of HT_.out (by kernel_rfl)) (fun _ _ _ h => h) (Or.inl ⟨by rfl, ?_⟩) ?_ ?_
       rotate_left
       ·intro w'
        go_simp
        with_reducible rfl
       rotate_left
       ·simp only [Act.put, List.setIfInBounds_toArray, List.set_cons_zero, List.set_cons_succ, i64_w, i32_w]
        rfl
       refine take_ (i := 1) (N := some 11) (v := ?_) (a' := ?_) #[true, true, false, true, false, false, false, false, false] rfl rfl (take_ofW HT_.out HW_.out (by kernel_rfl)) (fun _ _ _ h => h) (Or.inl ⟨by rfl, ?_⟩) hHeld ?_ ?_
       rotate_left
       ·rintro w' ⟨s0, s1⟩
        go_simp
        with_reducible rfl
       rotate_left
       ·simp only [Act.put, List.setIfInBounds_toArray, List.set_cons_zero, List.set_cons_succ, i64_w, i32_w]
        rfl
       refine take_ (i := 4) (N := some 14) (v := ?_) (a' := ?_) #[true, true, false, true, true, false, false, false, false] rfl rfl (take_ofW HT_.out HW_.out (by kernel_rfl)) (fun _ _ _ h => h) (Or.inl ⟨by rfl, ?_⟩) hHeld ?_ ?_
       rotate_left
       ·rintro w' ⟨s0, s1⟩
        go_simp
        with_reducible rfl
       rotate_left
       ·simp only [Act.put, List.setIfInBounds_toArray, List.set_cons_zero, List.set_cons_succ, i64_w, i32_w]
        rfl
       refine join_ (σ := Value × Value × Nat) 1 #[true, true, true, true, true, true, true, true, false] (fun s_ => [(12, s_.1), (15, s_.2.1), (6, .pointer (some ⟨s_.2.2, 0, none⟩)), (16, .agg #[s_.1, s_.2.1])]) (fun s_ w' => (w'.cell? ⟨gb167, 0, none⟩ = some (.slice A0_0 l0_0.length c0_0) ∧ w'.cell? ⟨gb167, 1, none⟩ = some (.slice A0_1 l0_1.length c0_1)) ∧ (Kd.R (Kd.int .i64) 3 w' w.heap.size (fun k_ => some k_ ≠ (s_.2.1 : Value).ownBlock) s_.1 t171) ∧ (Kd.R (Kd.int .i64) 3 w' w.heap.size (fun k_ => some k_ ≠ (s_.1 : Value).ownBlock) s_.2.1 t174) ∧ (w'.heap[gb167]? = some (.cells #[.slice A0_0 l0_0.length c0_0, .slice A0_1 l0_1.length c0_1] 29 (0, 0))) ∧ (w'.heap[gb168]? = some (.cells #[.int .i64 a1_0, .int .i64 a1_1] 49 (0, 0))) ∧ (w'.heap[gb169]? = some (.cells #[.slice none 0 0, .slice none 0 0] 29 (0, 0))) ∧ (w'.heap[s_.2.2]? = some (.cells #[.slice none 0 0, .slice none 0 0] 29 (0, 0))) ∧ (w.heap.size ≤ s_.2.2) ∧ (w.heap.size ≤ s_.2.2) ∧ (gb167 ≠ s_.2.2) ∧ (s_.2.2 ≠ gb167) ∧ (gb168 ≠ s_.2.2) ∧ (s_.2.2 ≠ gb168) ∧ (gb169 ≠ s_.2.2) ∧ (s_.2.2 ≠ gb169) ∧ (Below w.heap.size w w')) ?_ ?_
       rotate_left
       ·intro hCont
        refine two_ (i := 2) (j := 7) (Ni := some 12) (Nj := some 6) #[true, true, true, true, true, false, false, false, false] #[true, true, false, true, true, false, false, true, false] rfl rfl rfl rfl (two_of HT_.out (by kernel_rfl)) (by decide) (by decide) (fun K hK => ?_) (fun K hK => ?_)
        ·skip
         refine goes_ Try.func71 (by kernel_rfl) rfl #[.slice A0_0 l0_0.length c0_0] (by rfl) rfl rfl (by (try simp only [List.map_toArray, List.map_cons, List.map_nil]); first | done | rfl | (simp only [List.length_drop, List.length_take]; rfl)) ?_
         with_reducible refine (spec_l1Own.calls _ _ l0_0 t171 _ ?side1 ?side2 A4.out).mono ?_
         (case side1 => exact ck HR0_0 HB)
         (case side2 => exact HC0_0.out)
         rintro e w24 ⟨v172, rfl, ho0, hb⟩
         refine ⟨_, rfl, ?_⟩
         have HO173 := lo ho0 HB
         replace BK167 := bb BK167 hb
         replace BK168 := bb BK168 hb
         replace BK169 := bb BK169 hb
         replace HB := bs HB hb
         (try clear hb)
         (try clear hb2)
         (try clear hk)
         (try clear hi)
         (try clear ho0)
         refine hK.out _ _ ⟨bc0 BK167, bc1 BK167⟩ (fun hHeld => ?_)
         clear hK K
         refine norm_ (a' := ?_) ?_ ?_
         rotate_left
         ·show Act.put _ (some 12) _ = _
          simp only [Act.put, List.setIfInBounds_toArray, List.set_cons_zero, List.set_cons_succ, i64_w, i32_w]
          rfl
         refine two_ (i := 5) (j := 7) (Ni := some 15) (Nj := some 6) #[true, true, true, true, true, true, false, false, false] #[true, true, true, true, true, false, false, true, false] rfl rfl rfl rfl (two_of HT_.out (by kernel_rfl)) (by decide) (by decide) (fun K hK => ?_) (fun K hK => ?_)
         ·skip
          refine goes_ Try.func71 (by kernel_rfl) rfl #[.slice A0_1 l0_1.length c0_1] (by rfl) rfl rfl (by (try simp only [List.map_toArray, List.map_cons, List.map_nil]); first | done | rfl | (simp only [List.length_drop, List.length_take]; rfl)) ?_
          with_reducible refine (spec_l1Own.calls _ _ l0_1 t174 _ ?side1 ?side2 A5.out).mono ?_
          (case side1 => exact ck HR0_1 HB)
          (case side2 => exact HC0_1.out)
          rintro e w25 ⟨v175, rfl, ho0, hb⟩
          refine ⟨_, rfl, ?_⟩
          have HO176 := Aside0.mk (Kd.R_lower (Kd.R_new' ho0 (Kd.R_lt (rk HO173))) (below_size (bw HB)))
          replace HO173 := Aside0.mk (Kd.R_elder' (rk HO173) (Kd.R_base ho0) hb)
          replace BK167 := bb BK167 hb
          replace BK168 := bb BK168 hb
          replace BK169 := bb BK169 hb
          replace HB := bs HB hb
          (try clear hb)
          (try clear hb2)
          (try clear hk)
          (try clear hi)
          (try clear ho0)
          obtain ⟨Ao26, co26, eo26⟩ := Kd.R_slice HO176.out
          (first | subst eo26 | (injection eo26 with f1_ f2_ f3_; have f4_ := f1_.symm; have f5_ := f3_.symm; clear f1_ f2_ f3_; subst f4_; subst f5_))
          obtain ⟨Ao27, co27, eo27⟩ := Kd.R_slice HO173.out
          (first | subst eo27 | (injection eo27 with f1_ f2_ f3_; have f4_ := f1_.symm; have f5_ := f3_.symm; clear f1_ f2_ f3_; subst f4_; subst f5_))
          refine hK.out _ _ ⟨bc0 BK167, bc1 BK167⟩ (fun hHeld => ?_)
          clear hK K
          refine norm_ (a' := ?_) ?_ ?_
          rotate_left
          ·show Act.put _ (some 15) _ = _
           simp only [Act.put, List.setIfInBounds_toArray, List.set_cons_zero, List.set_cons_succ, i64_w, i32_w]
           rfl
          refine pure_ (i := 6) (N := some 16) (v := ?_) (a' := ?_) #[true, true, true, true, true, true, true, false, false] rfl rfl (any_of HT_.out (by kernel_rfl)) (fun _ _ _ h => h) (Or.inl ⟨by rfl, ?_⟩) ?_ ?_
          rotate_left
          ·intro w'
           go_simp
           with_reducible rfl
          rotate_left
          ·simp only [Act.put, List.setIfInBounds_toArray, List.set_cons_zero, List.set_cons_succ, i64_w, i32_w]
           rfl
          refine one_ (i := 7) (N := some 6) #[true, true, true, true, true, true, true, true, false] rfl rfl (one_of HT_.out (by kernel_rfl)) (by decide) (fun K hK => ?_)
          refine box_step ?hg (N := 6) ?hd (cs := #[.slice none 0 0, .slice none 0 0]) (t := 29) ?hr ?_; (case hd => rfl); (case hg => rfl); (case hr => first | (go_simp; done) | (go_simp; rfl))
          intro gb177 hg w28 hbox hb
          replace HO173 := rb HO173 hb
          replace HO176 := rb HO176 hb
          have BK177 := Aside0.mk (hbox)
          have GW177 := ge HB hg
          have GE177 := ge HB hg
          replace HB := bs HB hb
          have NB167_177 := nl BK167 hg
          have NB177_167 := nr BK167 hg
          replace BK167 := bb BK167 hb
          have NB168_177 := nl BK168 hg
          have NB177_168 := nr BK168 hg
          replace BK168 := bb BK168 hb
          have NB169_177 := nl BK169 hg
          have NB177_169 := nr BK169 hg
          replace BK169 := bb BK169 hb
          clear hb hbox hg
          refine hK.out _ _ ⟨bc0 BK167, bc1 BK167⟩ (fun hHeld => ?_)
          clear hK K
          refine norm_ (a' := ?_) ?_ ?_
          rotate_left
          ·show Act.put _ (some 6) _ = _
           simp only [Act.put, List.setIfInBounds_toArray, List.set_cons_zero, List.set_cons_succ, i64_w, i32_w]
           rfl
          exact norm_ (by simp only [putAll, Act.put, List.setIfInBounds_toArray, List.set_cons_zero, List.set_cons_succ]) (hCont (.slice Ao27 t171.length co27, .slice Ao26 t174.length co26, gb177) _ ⟨hHeld, (by (with_reducible repeat (first | apply Kd.R_alloc | apply Kd.R_drewN | apply Kd.R_drew)); exact Kd.R_mono HO173.out (fun _ hk => hk.2)), (by (with_reducible repeat (first | apply Kd.R_alloc | apply Kd.R_drewN | apply Kd.R_drew)); exact Kd.R_mono HO176.out (fun _ hk => hk.2)), (bk BK167), (bk BK168), (bk BK169), (bk BK177), GW177.out, GE177.out, NB167_177.out, NB177_167.out, NB168_177.out, NB177_168.out, NB169_177.out, NB177_169.out, (bw HB)⟩)
         ·skip
          refine box_step ?hg (N := 6) ?hd (cs := #[.slice none 0 0, .slice none 0 0]) (t := 29) ?hr ?_; (case hd => rfl); (case hg => rfl); (case hr => first | (go_simp; done) | (go_simp; rfl))
          intro gb177 hg w25 hbox hb
          replace HO173 := rb HO173 hb
          have BK177 := Aside0.mk (hbox)
          have GW177 := ge HB hg
          have GE177 := ge HB hg
          replace HB := bs HB hb
          have NB167_177 := nl BK167 hg
          have NB177_167 := nr BK167 hg
          replace BK167 := bb BK167 hb
          have NB168_177 := nl BK168 hg
          have NB177_168 := nr BK168 hg
          replace BK168 := bb BK168 hb
          have NB169_177 := nl BK169 hg
          have NB177_169 := nr BK169 hg
          replace BK169 := bb BK169 hb
          clear hb hbox hg
          refine hK.out _ _ ⟨bc0 BK167, bc1 BK167⟩ (fun hHeld => ?_)
          clear hK K
          refine norm_ (a' := ?_) ?_ ?_
          rotate_left
          ·show Act.put _ (some 6) _ = _
           simp only [Act.put, List.setIfInBounds_toArray, List.set_cons_zero, List.set_cons_succ, i64_w, i32_w]
           rfl
          refine one_ (i := 5) (N := some 15) #[true, true, true, true, true, true, false, true, false] rfl rfl (one_of HT_.out (by kernel_rfl)) (by decide) (fun K hK => ?_)
          refine goes_ Try.func71 (by kernel_rfl) rfl #[.slice A0_1 l0_1.length c0_1] (by rfl) rfl rfl (by (try simp only [List.map_toArray, List.map_cons, List.map_nil]); first | done | rfl | (simp only [List.length_drop, List.length_take]; rfl)) ?_
          with_reducible refine (spec_l1Own.calls _ _ l0_1 t174 _ ?side1 ?side2 A5.out).mono ?_
          (case side1 => exact ck HR0_1 HB)
          (case side2 => exact HC0_1.out)
          rintro e w26 ⟨v175, rfl, ho0, hb⟩
          refine ⟨_, rfl, ?_⟩
          have HO176 := Aside0.mk (Kd.R_lower (Kd.R_new' ho0 (Kd.R_lt (rk HO173))) (below_size (bw HB)))
          replace HO173 := Aside0.mk (Kd.R_elder' (rk HO173) (Kd.R_base ho0) hb)
          replace BK167 := bb BK167 hb
          replace BK168 := bb BK168 hb
          replace BK169 := bb BK169 hb
          replace BK177 := bb BK177 hb
          replace HB := bs HB hb
          (try clear hb)
          (try clear hb2)
          (try clear hk)
          (try clear hi)
          (try clear ho0)
          obtain ⟨Ao27, co27, eo27⟩ := Kd.R_slice HO176.out
          (first | subst eo27 | (injection eo27 with f1_ f2_ f3_; have f4_ := f1_.symm; have f5_ := f3_.symm; clear f1_ f2_ f3_; subst f4_; subst f5_))
          obtain ⟨Ao28, co28, eo28⟩ := Kd.R_slice HO173.out
          (first | subst eo28 | (injection eo28 with f1_ f2_ f3_; have f4_ := f1_.symm; have f5_ := f3_.symm; clear f1_ f2_ f3_; subst f4_; subst f5_))
          refine hK.out _ _ ⟨bc0 BK167, bc1 BK167⟩ (fun hHeld => ?_)
          clear hK K
          refine norm_ (a' := ?_) ?_ ?_
          rotate_left
          ·show Act.put _ (some 15) _ = _
           simp only [Act.put, List.setIfInBounds_toArray, List.set_cons_zero, List.set_cons_succ, i64_w, i32_w]
           rfl
          refine pure_ (i := 6) (N := some 16) (v := ?_) (a' := ?_) #[true, true, true, true, true, true, true, true, false] rfl rfl (any_of HT_.out (by kernel_rfl)) (fun _ _ _ h => h) (Or.inl ⟨by rfl, ?_⟩) ?_ ?_
          rotate_left
          ·intro w'
           go_simp
           with_reducible rfl
          rotate_left
          ·simp only [Act.put, List.setIfInBounds_toArray, List.set_cons_zero, List.set_cons_succ, i64_w, i32_w]
           rfl
          exact norm_ (by simp only [putAll, Act.put, List.setIfInBounds_toArray, List.set_cons_zero, List.set_cons_succ]) (hCont (.slice Ao28 t171.length co28, .slice Ao27 t174.length co27, gb177) _ ⟨hHeld, (by (with_reducible repeat (first | apply Kd.R_alloc | apply Kd.R_drewN | apply Kd.R_drew)); exact Kd.R_mono HO173.out (fun _ hk => hk.2)), (by (with_reducible repeat (first | apply Kd.R_alloc | apply Kd.R_drewN | apply Kd.R_drew)); exact Kd.R_mono HO176.out (fun _ hk => hk.2)), (bk BK167), (bk BK168), (bk BK169), (bk BK177), GW177.out, GE177.out, NB167_177.out, NB177_167.out, NB168_177.out, NB177_168.out, NB169_177.out, NB177_169.out, (bw HB)⟩)
        ·skip
         refine box_step ?hg (N := 6) ?hd (cs := #[.slice none 0 0, .slice none 0 0]) (t := 29) ?hr ?_; (case hd => rfl); (case hg => rfl); (case hr => first | (go_simp; done) | (go_simp; rfl))
         intro gb177 hg w24 hbox hb
         have BK177 := Aside0.mk (hbox)
         have GW177 := ge HB hg
         have GE177 := ge HB hg
         replace HB := bs HB hb
         have NB167_177 := nl BK167 hg
         have NB177_167 := nr BK167 hg
         replace BK167 := bb BK167 hb
         have NB168_177 := nl BK168 hg
         have NB177_168 := nr BK168 hg
         replace BK168 := bb BK168 hb
         have NB169_177 := nl BK169 hg
         have NB177_169 := nr BK169 hg
         replace BK169 := bb BK169 hb
         clear hb hbox hg
         refine hK.out _ _ ⟨bc0 BK167, bc1 BK167⟩ (fun hHeld => ?_)
         clear hK K
         refine norm_ (a' := ?_) ?_ ?_
         rotate_left
         ·show Act.put _ (some 6) _ = _
          simp only [Act.put, List.setIfInBounds_toArray, List.set_cons_zero, List.set_cons_succ, i64_w, i32_w]
          rfl
         refine one_ (i := 2) (N := some 12) #[true, true, true, true, true, false, false, true, false] rfl rfl (one_of HT_.out (by kernel_rfl)) (by decide) (fun K hK => ?_)
         refine goes_ Try.func71 (by kernel_rfl) rfl #[.slice A0_0 l0_0.length c0_0] (by rfl) rfl rfl (by (try simp only [List.map_toArray, List.map_cons, List.map_nil]); first | done | rfl | (simp only [List.length_drop, List.length_take]; rfl)) ?_
         with_reducible refine (spec_l1Own.calls _ _ l0_0 t171 _ ?side1 ?side2 A4.out).mono ?_
         (case side1 => exact ck HR0_0 HB)
         (case side2 => exact HC0_0.out)
         rintro e w25 ⟨v172, rfl, ho0, hb⟩
         refine ⟨_, rfl, ?_⟩
         have HO173 := lo ho0 HB
         replace BK167 := bb BK167 hb
         replace BK168 := bb BK168 hb
         replace BK169 := bb BK169 hb
         replace BK177 := bb BK177 hb
         replace HB := bs HB hb
         (try clear hb)
         (try clear hb2)
         (try clear hk)
         (try clear hi)
         (try clear ho0)
         refine hK.out _ _ ⟨bc0 BK167, bc1 BK167⟩ (fun hHeld => ?_)
         clear hK K
         refine norm_ (a' := ?_) ?_ ?_
         rotate_left
         ·show Act.put _ (some 12) _ = _
          simp only [Act.put, List.setIfInBounds_toArray, List.set_cons_zero, List.set_cons_succ, i64_w, i32_w]
          rfl
         refine one_ (i := 5) (N := some 15) #[true, true, true, true, true, true, false, true, false] rfl rfl (one_of HT_.out (by kernel_rfl)) (by decide) (fun K hK => ?_)
         refine goes_ Try.func71 (by kernel_rfl) rfl #[.slice A0_1 l0_1.length c0_1] (by rfl) rfl rfl (by (try simp only [List.map_toArray, List.map_cons, List.map_nil]); first | done | rfl | (simp only [List.length_drop, List.length_take]; rfl)) ?_
         with_reducible refine (spec_l1Own.calls _ _ l0_1 t174 _ ?side1 ?side2 A5.out).mono ?_
         (case side1 => exact ck HR0_1 HB)
         (case side2 => exact HC0_1.out)
         rintro e w26 ⟨v175, rfl, ho0, hb⟩
         refine ⟨_, rfl, ?_⟩
         have HO176 := Aside0.mk (Kd.R_lower (Kd.R_new' ho0 (Kd.R_lt (rk HO173))) (below_size (bw HB)))
         replace HO173 := Aside0.mk (Kd.R_elder' (rk HO173) (Kd.R_base ho0) hb)
         replace BK167 := bb BK167 hb
         replace BK168 := bb BK168 hb
         replace BK169 := bb BK169 hb
         replace BK177 := bb BK177 hb
         replace HB := bs HB hb
         (try clear hb)
         (try clear hb2)
         (try clear hk)
         (try clear hi)
         (try clear ho0)
         obtain ⟨Ao27, co27, eo27⟩ := Kd.R_slice HO176.out
         (first | subst eo27 | (injection eo27 with f1_ f2_ f3_; have f4_ := f1_.symm; have f5_ := f3_.symm; clear f1_ f2_ f3_; subst f4_; subst f5_))
         obtain ⟨Ao28, co28, eo28⟩ := Kd.R_slice HO173.out
         (first | subst eo28 | (injection eo28 with f1_ f2_ f3_; have f4_ := f1_.symm; have f5_ := f3_.symm; clear f1_ f2_ f3_; subst f4_; subst f5_))
         refine hK.out _ _ ⟨bc0 BK167, bc1 BK167⟩ (fun hHeld => ?_)
         clear hK K
         refine norm_ (a' := ?_) ?_ ?_
         rotate_left
         ·show Act.put _ (some 15) _ = _
          simp only [Act.put, List.setIfInBounds_toArray, List.set_cons_zero, List.set_cons_succ, i64_w, i32_w]
          rfl
         refine pure_ (i := 6) (N := some 16) (v := ?_) (a' := ?_) #[true, true, true, true, true, true, true, true, false] rfl rfl (any_of HT_.out (by kernel_rfl)) (fun _ _ _ h => h) (Or.inl ⟨by rfl, ?_⟩) ?_ ?_
         rotate_left
         ·intro w'
          go_simp
          with_reducible rfl
         rotate_left
         ·simp only [Act.put, List.setIfInBounds_toArray, List.set_cons_zero, List.set_cons_succ, i64_w, i32_w]
          rfl
         exact norm_ (by simp only [putAll, Act.put, List.setIfInBounds_toArray, List.set_cons_zero, List.set_cons_succ]) (hCont (.slice Ao28 t171.length co28, .slice Ao27 t174.length co27, gb177) _ ⟨hHeld, (by (with_reducible repeat (first | apply Kd.R_alloc | apply Kd.R_drewN | apply Kd.R_drew)); exact Kd.R_mono HO173.out (fun _ hk => hk.2)), (by (with_reducible repeat (first | apply Kd.R_alloc | apply Kd.R_drewN | apply Kd.R_drew)); exact Kd.R_mono HO176.out (fun _ hk => hk.2)), (bk BK167), (bk BK168), (bk BK169), (bk BK177), GW177.out, GE177.out, NB167_177.out, NB177_167.out, NB168_177.out, NB177_168.out, NB169_177.out, NB177_169.out, (bw HB)⟩)
       rintro ⟨v172, v175, gb177⟩ w29 ⟨hS_, h0_, h1_, h2_, h3_, h4_, h5_, h6_, h7_, h8_, h9_, h10_, h11_, h12_, h13_, h14_⟩
       have HO173 := Aside0.mk h0_
       have HO176 := Aside0.mk h1_
       replace BK167 := Aside0.mk h2_
       replace BK168 := Aside0.mk h3_
       replace BK169 := Aside0.mk h4_
       have BK177 := Aside0.mk h5_
       have GW177 := GeC.mk h6_
       have GE177 := GeC.mk h7_
       have NB167_177 := NeC.mk h8_
       have NB177_167 := NeC.mk h9_
       have NB168_177 := NeC.mk h10_
       have NB177_168 := NeC.mk h11_
       have NB169_177 := NeC.mk h12_
       have NB177_169 := NeC.mk h13_
       replace HB := Aside0.mk h14_
       clear h0_ h1_ h2_ h3_ h4_ h5_ h6_ h7_ h8_ h9_ h10_ h11_ h12_ h13_ h14_
       have hHeld : w29.cell? ⟨gb167, 0, none⟩ = some (.slice A0_0 l0_0.length c0_0) ∧ w29.cell? ⟨gb167, 1, none⟩ = some (.slice A0_1 l0_1.length c0_1) := hS_
       obtain ⟨Ao30, co30, eo30⟩ := Kd.R_slice HO176.out
       (first | subst eo30 | (injection eo30 with f1_ f2_ f3_; have f4_ := f1_.symm; have f5_ := f3_.symm; clear f1_ f2_ f3_; subst f4_; subst f5_))
       obtain ⟨Ao31, co31, eo31⟩ := Kd.R_slice HO173.out
       (first | subst eo31 | (injection eo31 with f1_ f2_ f3_; have f4_ := f1_.symm; have f5_ := f3_.symm; clear f1_ f2_ f3_; subst f4_; subst f5_))
       refine norm_ (a' := ?_) ?_ ?_
       rotate_left
       ·simp only [putAll, Act.put, List.setIfInBounds_toArray, List.set_cons_zero, List.set_cons_succ]
        rfl
       refine one_ (i := 8) (N := none) #[true, true, true, true, true, true, true, true, true] rfl rfl (one_of HT_.out (by kernel_rfl)) (by decide) (fun K hK => ?_)
       have hs32 : w29.cell? ⟨gb177, 0, none⟩ = some (.slice none 0 0) := bc0 BK177
       have hfs32 := blk_frozen BK177.out 0
       have hns32_0 := NB167_177.out
       have hns32_1 := NB168_177.out
       have hns32_2 := NB169_177.out
       have hms32_0 := NB177_167.out
       have hms32_1 := NB177_168.out
       have hms32_2 := NB177_169.out
       have hs33 : w29.cell? ⟨gb177, 1, none⟩ = some (.slice none 0 0) := bc1 BK177
       have hfs33 := blk_frozen BK177.out 1
       have hns33_0 := NB167_177.out
       have hns33_1 := NB168_177.out
       have hns33_2 := NB169_177.out
       have hms33_0 := NB177_167.out
       have hms33_1 := NB177_168.out
       have hms33_2 := NB177_169.out
       refine skip_ (w1 := ?_) (by rfl) rfl ?_ ?_
       rotate_left
       ·go_simp
        rfl
       refine hK.out _ _ ⟨((cell_far (p := ⟨gb177, _, none⟩) NB167_177.out _).trans (((cell_far (p := ⟨gb177, _, none⟩) NB167_177.out _).trans (hHeld.1)))), ((cell_far (p := ⟨gb177, _, none⟩) NB167_177.out _).trans (((cell_far (p := ⟨gb177, _, none⟩) NB167_177.out _).trans (hHeld.2))))⟩ (fun hHeld => ?_)
       clear hK K
       refine done_ (done_of HT_.out (by kernel_rfl)) ?_
       have n0_ : Aside0 (Kd.R (Kd.int .i64) 3 ((w29.setCell ⟨gb177, 0, none⟩ (.slice Ao31 t171.length co31)).setCell ⟨gb177, 1, none⟩ (.slice Ao30 t174.length co30)) w.heap.size (fun k_ => some k_ ≠ (.slice Ao30 t174.length co30 : Value).ownBlock) (.slice Ao31 t171.length co31) t171) := ⟨by (with_reducible repeat (first | apply Kd.R_alloc | apply Kd.R_drewN | apply Kd.R_drew)); exact Kd.R_mono (Kd.R_far (p := ⟨gb177, 1, none⟩) (Kd.R_far (p := ⟨gb177, 0, none⟩) (Kd.R_types HO173.out BK177.out (by decide)) (fun _ hk => hk.2) (.slice Ao31 t171.length co31)) (fun _ hk => hk.2) (.slice Ao30 t174.length co30)) (fun _ hk => hk.1)⟩
       have n1_ : Aside0 (Kd.R (Kd.int .i64) 3 ((w29.setCell ⟨gb177, 0, none⟩ (.slice Ao31 t171.length co31)).setCell ⟨gb177, 1, none⟩ (.slice Ao30 t174.length co30)) w.heap.size (fun k_ => some k_ ≠ (.slice Ao31 t171.length co31 : Value).ownBlock) (.slice Ao30 t174.length co30) t174) := ⟨by (with_reducible repeat (first | apply Kd.R_alloc | apply Kd.R_drewN | apply Kd.R_drew)); exact Kd.R_mono (Kd.R_far (p := ⟨gb177, 1, none⟩) (Kd.R_far (p := ⟨gb177, 0, none⟩) (Kd.R_types HO176.out BK177.out (by decide)) (fun _ hk => hk.2) (.slice Ao31 t171.length co31)) (fun _ hk => hk.2) (.slice Ao30 t174.length co30)) (fun _ hk => hk.1)⟩
       have n2_ : Aside0 (((w29.setCell ⟨gb177, 0, none⟩ (.slice Ao31 t171.length co31)).setCell ⟨gb177, 1, none⟩ (.slice Ao30 t174.length co30)).heap[gb167]? = some (.cells #[.slice A0_0 l0_0.length c0_0, .slice A0_1 l0_1.length c0_1] 29 (0, 0))) := ⟨bk BK167⟩
       have n3_ : Aside0 (((w29.setCell ⟨gb177, 0, none⟩ (.slice Ao31 t171.length co31)).setCell ⟨gb177, 1, none⟩ (.slice Ao30 t174.length co30)).heap[gb168]? = some (.cells #[.int .i64 a1_0, .int .i64 a1_1] 49 (0, 0))) := ⟨bk BK168⟩
       have n4_ : Aside0 (((w29.setCell ⟨gb177, 0, none⟩ (.slice Ao31 t171.length co31)).setCell ⟨gb177, 1, none⟩ (.slice Ao30 t174.length co30)).heap[gb169]? = some (.cells #[.slice none 0 0, .slice none 0 0] 29 (0, 0))) := ⟨bk BK169⟩
       have n5_ : Aside0 (((w29.setCell ⟨gb177, 0, none⟩ (.slice Ao31 t171.length co31)).setCell ⟨gb177, 1, none⟩ (.slice Ao30 t174.length co30)).heap[gb177]? = some (.cells #[.slice Ao31 t171.length co31, .slice Ao30 t174.length co30] 29 (0, 0))) := ⟨by (with_reducible repeat (first | refine blk_drewN ?_ _ | refine blk_drew ?_ | refine blk_alloc ?_ _)); refine blk_put (cs := #[.slice Ao31 t171.length co31, .slice none 0 0]) ?_ 1 _ rfl; (with_reducible repeat (first | refine blk_drewN ?_ _ | refine blk_drew ?_ | refine blk_alloc ?_ _)); refine blk_put (cs := #[.slice none 0 0, .slice none 0 0]) ?_ 0 _ rfl; exact bk BK177⟩
       have n6_ : Aside0 (Below w.heap.size w ((w29.setCell ⟨gb177, 0, none⟩ (.slice Ao31 t171.length co31)).setCell ⟨gb177, 1, none⟩ (.slice Ao30 t174.length co30))) := ⟨bw HB⟩
       (try clear HO173)
       (try clear HO176)
       (try clear BK167)
       (try clear BK168)
       (try clear BK169)
       (try clear BK177)
       (try clear HB)
       generalize ((w29.setCell ⟨gb177, 0, none⟩ (.slice Ao31 t171.length co31)).setCell ⟨gb177, 1, none⟩ (.slice Ao30 t174.length co30)) = w34 at n0_ n1_ n2_ n3_ n4_ n5_ n6_ ⊢
       have HO173 := n0_
       have HO176 := n1_
       have BK167 := n2_
       have BK168 := n3_
       have BK169 := n4_
       have BK177 := n5_
       have HB := n6_
       clear n0_ n1_ n2_ n3_ n4_ n5_ n6_
       have hnb35 := NB168_177.out
       have hnc35 := NB177_168.out
       have hcz36_0 := bc0 BK168
       have hcz36_1 := bc1 BK168
       have hfz36_0 := blk_frozen BK168.out 0
       have hfz36_1 := blk_frozen BK168.out 1
       have hnb37 := NB177_167.out
       have hnc37 := NB167_177.out
       have hnb38 := NB177_169.out
       have hnc38 := NB169_177.out
       have hcz39_0 := bc0 BK177
       have hcz39_1 := bc1 BK177
       have hfz39_0 := blk_frozen BK177.out 0
       have hfz39_1 := blk_frozen BK177.out 1
       have p178 : 0 ≤ (a1_0 : Int) := of_decide_eq_true (by first | (with_reducible assumption) | assumption)
       have q178 : a1_0 < (t174.length : Int) := of_decide_eq_true (by first | (with_reducible assumption) | assumption)
       obtain ⟨ad178, e178, hx178_0⟩ := Kd.at_int (Kd.R_reads' HO176.out).2.2 a1_0 p178 q178
       cases e178
       replace p178 := eq_true p178
       replace q178 := eq_true q178
       have p9 : 0 ≤ (a1_0 : Int) := of_decide_eq_true (by first | (with_reducible assumption) | assumption)
       have q9 : (a1_0 : Int) < ((t174.length : Int) : Int) := of_decide_eq_true (by first | (with_reducible assumption) | assumption)
       obtain ⟨go9, co9, eo9, gb9, gl9, cl9, HG9⟩ := Kd.R_form HO176.out (by omega)
       (first | cases eo9 | (injection eo9 with ea_ en_ ec_; (first | subst ea_ | (injection ea_ with ea_; subst ea_)); subst ec_; clear en_))
       have GB9 := Aside0.mk gb9
       have GG9 := Aside0.mk HG9
       clear gb9 gl9 HG9
       (first | simp only [add_plain] at hx178_0 | skip)
       obtain ⟨hx9_0, hf9_0⟩ := Kd.R_celln 0 HO176.out (a1_0 : Int) p9 q9
       replace p9 := eq_true p9
       replace q9 := eq_true q9
       obtain ⟨hy40_, hz40_⟩ := Kd.R_celln 0 HO176.out (a1_0 : Int) (of_decide_eq_true (by first | (with_reducible assumption) | assumption)) (of_decide_eq_true (by first | (with_reducible assumption) | assumption))
       have HP40 := Kd.R_putg HO176.out (a1_0 : Int) (wrap64 ((rd t174 a1_0) - t170))
       try go_wp2_with (first | ((with_reducible refine gate_store (t := 3) (p := 28) rfl ?_); refine store_event (t := 3) (p := 28) (v := ?vo_w41) (w1 := (w34.setCell ⟨go9, (a1_0 : Int).toNat, none⟩ (.int .i64 (wrap64 ((rd t174 a1_0) - t170))))) ?hg ?ho ?hn ?hr ?_; (case ho => rfl); (case hg => rfl); (case hn => rfl); (case hr => first | (go_simp; done) | (go_simp; rfl)); intro w41 hw; have hg : w34.grownBy w41 (some go9) := (by rw [hw]; exact HP40.2); have hp_ : Kd.R (Kd.int .i64) 3 w41 w.heap.size (fun k_ => some k_ ≠ (.slice Ao31 t171.length co31 : Value).ownBlock) (.slice (some ⟨go9, 0, none⟩) t174.length co30) y179 := (by rw [hw, Ny179.out]; exact HP40.1); clear HP40; replace BK167 := Aside0.mk (blk_grown (g := gb167) (o := .cells #[.slice A0_0 l0_0.length c0_0, .slice A0_1 l0_1.length c0_1] 29 (0, 0)) (bk BK167) hg (Kd.R_ne HO176.out BK167.out (by decide))); replace BK168 := Aside0.mk (blk_grown (g := gb168) (o := .cells #[.int .i64 a1_0, .int .i64 a1_1] 49 (0, 0)) (bk BK168) hg (Kd.R_ne HO176.out BK168.out (by decide))); replace BK169 := Aside0.mk (blk_grown (g := gb169) (o := .cells #[.slice none 0 0, .slice none 0 0] 29 (0, 0)) (bk BK169) hg (Kd.R_ne HO176.out BK169.out (by decide))); replace HO173 := Aside0.mk (Kd.R_after (v := (.slice (some ⟨go9, 0, none⟩) t174.length co30)) (v1 := (.slice (some ⟨go9, 0, none⟩) t174.length co30)) (ok := (fun _ => True)) (by (with_reducible repeat (first | apply Kd.R_alloc | apply Kd.R_drewN | apply Kd.R_drew)); exact Kd.R_mono HO173.out (fun _ hk => ⟨trivial, hk⟩)) hg (.inl rfl)); replace BK177 := Aside0.mk (blk_grown (g := gb177) (o := .cells #[.slice Ao31 t171.length co31, .slice (some ⟨go9, 0, none⟩) t174.length co30] 29 (0, 0)) (bk BK177) hg (Kd.R_ne HO176.out BK177.out (by decide))); replace HO176 := Aside0.mk (hp_); replace HB := Aside0.mk ((by rw [hw]; exact below_set (HB.out) GB9.out : Below w.heap.size w w41)); clear hg hw hp_; have hcz42_0 := bc0 BK168; have hcz42_1 := bc1 BK168; have hfz42_0 := blk_frozen BK168.out 0; have hfz42_1 := blk_frozen BK168.out 1; have hcz43_0 := bc0 BK177; have hcz43_1 := bc1 BK177; have hfz43_0 := blk_frozen BK177.out 0; have hfz43_1 := blk_frozen BK177.out 1; have p180 : 0 ≤ (a1_1 : Int) := of_decide_eq_true (by first | (with_reducible assumption) | assumption); have q180 : a1_1 < (y179.length : Int) := (by have h_ : (a1_1 : Int) < ((t174.length : Int) : Int) := of_decide_eq_true (by first | (with_reducible assumption) | assumption); first | (have e_ := (Kd.R_reads' HO176.out).1; omega) | simpa only [Ny179.out, List.length_set] using h_); have ql180 : ((a1_1 : Int) < ((t174.length : Int) : Int)) = True := eq_true (of_decide_eq_true (by first | (with_reducible assumption) | assumption)); obtain ⟨ad180, e180, hx180_0⟩ := Kd.at_int (Kd.R_reads' HO176.out).2.2 a1_1 p180 q180; obtain rfl : (⟨go9, 0, none⟩ : Addr) = ad180 := (by injection e180); (first | simp only [add_plain] at hx180_0 | simp only [add_at] at hx180_0 | simp only [Addr.add, Nat.zero_add] at hx180_0 | skip); replace p180 := eq_true p180; replace q180 := eq_true q180; have p13 : 0 ≤ (a1_1 : Int) := of_decide_eq_true (by first | (with_reducible assumption) | assumption); have q13 : (a1_1 : Int) < ((t174.length : Int) : Int) := of_decide_eq_true (by first | (with_reducible assumption) | assumption); obtain ⟨hx13_0, hf13_0⟩ := Kd.R_celln 0 HO176.out (a1_1 : Int) p13 q13; replace p13 := eq_true p13; replace q13 := eq_true q13; obtain ⟨hy44_, hz44_⟩ := Kd.R_celln 0 HO176.out (a1_1 : Int) (of_decide_eq_true (by first | (with_reducible assumption) | assumption)) (of_decide_eq_true (by first | (with_reducible assumption) | assumption)); have HP44 := Kd.R_putg HO176.out (a1_1 : Int) (wrap64 ((rd y179 a1_1) + t170))) | ((with_reducible refine gate_store (t := 3) (p := 40) rfl ?_); refine store_event (t := 3) (p := 40) (v := ?vo_w45) (w1 := (w41.setCell ⟨go9, (a1_1 : Int).toNat, none⟩ (.int .i64 (wrap64 ((rd y179 a1_1) + t170))))) ?hg ?ho ?hn ?hr ?_; (case ho => rfl); (case hg => rfl); (case hn => rfl); (case hr => first | (go_simp; done) | (go_simp; rfl)); intro w45 hw; have hg : w41.grownBy w45 (some go9) := (by rw [hw]; exact HP44.2); have hp_ : Kd.R (Kd.int .i64) 3 w45 w.heap.size (fun k_ => some k_ ≠ (.slice Ao31 t171.length co31 : Value).ownBlock) (.slice (some ⟨go9, 0, none⟩) t174.length co30) y181 := (by rw [hw, Ny181.out]; exact HP44.1); clear HP44; replace BK167 := Aside0.mk (blk_grown (g := gb167) (o := .cells #[.slice A0_0 l0_0.length c0_0, .slice A0_1 l0_1.length c0_1] 29 (0, 0)) (bk BK167) hg (Kd.R_ne HO176.out BK167.out (by decide))); replace BK168 := Aside0.mk (blk_grown (g := gb168) (o := .cells #[.int .i64 a1_0, .int .i64 a1_1] 49 (0, 0)) (bk BK168) hg (Kd.R_ne HO176.out BK168.out (by decide))); replace BK169 := Aside0.mk (blk_grown (g := gb169) (o := .cells #[.slice none 0 0, .slice none 0 0] 29 (0, 0)) (bk BK169) hg (Kd.R_ne HO176.out BK169.out (by decide))); replace HO173 := Aside0.mk (Kd.R_after (v := (.slice (some ⟨go9, 0, none⟩) t174.length co30)) (v1 := (.slice (some ⟨go9, 0, none⟩) t174.length co30)) (ok := (fun _ => True)) (rk HO173) hg (.inl rfl)); replace BK177 := Aside0.mk (blk_grown (g := gb177) (o := .cells #[.slice Ao31 t171.length co31, .slice (some ⟨go9, 0, none⟩) t174.length co30] 29 (0, 0)) (bk BK177) hg (Kd.R_ne HO176.out BK177.out (by decide))); replace HO176 := Aside0.mk (hp_); replace HB := Aside0.mk ((by rw [hw]; exact below_set (HB.out) GB9.out : Below w.heap.size w w45)); clear hg hw hp_; have hcz46_0 := bc0 BK177; have hcz46_1 := bc1 BK177; have hfz46_0 := blk_frozen BK177.out 0; have hfz46_1 := blk_frozen BK177.out 1; have hcz47_0 := bc0 BK169; have hcz47_1 := bc1 BK169; have hfz47_0 := blk_frozen BK169.out 0; have hfz47_1 := blk_frozen BK169.out 1))
       refine bodyPost_ret (results_cell_row rfl _ _ gb169 29 #[.slice Ao31 t171.length co31, .slice (some ⟨go9, 0, none⟩) t174.length co30] (0, 0) _ rfl (by (with_reducible repeat (first | refine blk_drewN ?_ _ | refine blk_drew ?_ | refine blk_alloc ?_ _)); refine blk_put (cs := #[.slice Ao31 t171.length co31, .slice none 0 0]) ?_ 1 _ rfl; (with_reducible repeat (first | refine blk_drewN ?_ _ | refine blk_drew ?_ | refine blk_alloc ?_ _)); refine blk_put (cs := #[.slice none 0 0, .slice none 0 0]) ?_ 0 _ rfl; exact bk BK169) Try.underlying29 rfl (by kernel_rfl)) rfl ?_
       exact ⟨_, _, by first | rfl | (simp [errW_none, errW_some] <;> rfl) | (simp [*, errW_none, errW_some] <;> rfl), by (with_reducible repeat (first | apply Kd.R_alloc | apply Kd.R_drewN | apply Kd.R_drew)); exact Kd.R_mono (Kd.R_far (p := ⟨gb169, 1, none⟩) (Kd.R_far (p := ⟨gb169, 0, none⟩) (Kd.R_types HO173.out BK169.out (by decide)) (fun _ hk => hk.2) (.slice Ao31 t171.length co31)) (fun _ hk => hk.2) (.slice (some ⟨go9, 0, none⟩) t174.length co30)) (fun _ hk => hk.1.2), by (with_reducible repeat (first | apply Kd.R_alloc | apply Kd.R_drewN | apply Kd.R_drew)); exact Kd.R_mono (Kd.R_far (p := ⟨gb169, 1, none⟩) (Kd.R_far (p := ⟨gb169, 0, none⟩) (Kd.R_types HO176.out BK169.out (by decide)) (fun _ hk => hk.2) (.slice Ao31 t171.length co31)) (fun _ hk => hk.2) (.slice (some ⟨go9, 0, none⟩) t174.length co30)) (fun _ hk => hk.1), bw HB⟩
      ·rw [if_neg c12] at H
       exact absurd H (by simp)
     ·rw [if_neg c11] at H
      exact absurd H (by simp)
    ·rw [if_neg c10] at H
     have c10b0 : decide (0 ≤ a1_1) = false := decide_eq_false c10
     clear c10
     simp only [Option.some.injEq, Prod.mk.injEq] at H
     obtain ⟨rfl, rfl⟩ := H
     go_enter Try.func55, Try.ntmps55
     try go_wp2_with (first | ((with_reducible refine gate_dst (N := 2) rfl ?_); refine bx 2 #[.slice A0_0 l0_0.length c0_0, .slice A0_1 l0_1.length c0_1] 29 ?_; intro gb167 hg w48 hbox hb; have BK167 := Aside0.mk (hbox); have GW167 := ge HB hg; have GE167 := ge HB hg; replace HB := bs HB hb; clear hb hbox hg) | ((with_reducible refine gate_dst (N := 3) rfl ?_); refine bx 3 #[.int .i64 a1_0, .int .i64 a1_1] 49 ?_; intro gb168 hg w49 hbox hb; have BK168 := Aside0.mk (hbox); have GW168 := ge HB hg; have GE168 := ge HB hg; replace HB := bs HB hb; have NB167_168 := nl BK167 hg; have NB168_167 := nr BK167 hg; replace BK167 := bb BK167 hb; clear hb hbox hg) | ((with_reducible refine gate_dst (N := 4) rfl ?_); refine bx 4 #[.slice none 0 0, .slice none 0 0] 29 ?_; intro gb169 hg w50 hbox hb; have BK169 := Aside0.mk (hbox); have GW169 := ge HB hg; have GE169 := ge HB hg; replace HB := bs HB hb; have NB167_169 := nl BK167 hg; have NB169_167 := nr BK167 hg; replace BK167 := bb BK167 hb; have NB168_169 := nl BK168 hg; have NB169_168 := nr BK168 hg; replace BK168 := bb BK168 hb; clear hb hbox hg; have hnb51 := NB167_168.out; have hnc51 := NB168_167.out; have hnb52 := NB167_169.out; have hnc52 := NB169_167.out; have hcz53_0 := bc0 BK167; have hcz53_1 := bc1 BK167; have hfz53_0 := blk_frozen BK167.out 0; have hfz53_1 := blk_frozen BK167.out 1; have hnb54 := NB168_169.out; have hnc54 := NB169_168.out; have hcz55_0 := bc0 BK168; have hcz55_1 := bc1 BK168; have hfz55_0 := blk_frozen BK168.out 0; have hfz55_1 := blk_frozen BK168.out 1) | ((with_reducible refine gate_callee (f := 78) rfl ?_); refine gl 9 Try.func78 #[.agg #[.slice A0_0 l0_0.length c0_0, .slice A0_1 l0_1.length c0_1], .agg #[.int .i64 a1_0, .int .i64 a1_1]] ?_; (with_reducible refine (spec_veAmount.calls _ _ l0_0 _ _ l0_1 a1_0 a1_1 t170 _ ?side1 ?side2 ?side3 ?side4 A3.out).mono ?_); (case side1 => exact ck HR0_0 HB); (case side2 => exact HC0_0.out); (case side3 => exact ck HR0_1 HB); (case side4 => exact HC0_1.out); rintro e w56 ⟨rfl, hb⟩; refine ⟨_, rfl, ?_⟩; replace BK167 := bb BK167 hb; replace BK168 := bb BK168 hb; replace BK169 := bb BK169 hb; replace HB := bs HB hb; (try clear hb)))
     replace BK167 := Aside0.mk (blk_drew BK167.out)
     replace BK168 := Aside0.mk (blk_drew BK168.out)
     replace BK169 := Aside0.mk (blk_drew BK169.out)
     replace HB := Aside0.mk (below_drew1 HB.out)
     refine start_ (n := 9) (S := fun w' => w'.cell? ⟨gb167, 0, none⟩ = some (.slice A0_0 l0_0.length c0_0) ∧ w'.cell? ⟨gb167, 1, none⟩ = some (.slice A0_1 l0_1.length c0_1)) (ds := []) #[false, false, false, false, false, false, false, false, false] (by kernel_rfl) rfl rfl ⟨bc0 BK167, bc1 BK167⟩ (fun hHeld => ?_); refine with_tabW spec_veMake.tab2 spec_veMake.bits2 (fun HT_ HW_ => ?_)
     generalize w56.drew = w57 at BK167 BK168 BK169 HB hHeld ⊢
     refine pure_ (i := 0) (N := some 10) (v := ?_) (a' := ?_) #[true, false, false, false, false, false, false, false, false] rfl rfl (any_of HT_.out (by kernel_rfl)) (fun _ _ _ h => h) (Or.inl ⟨by rfl, ?_⟩) ?_ ?_
     rotate_left
     ·intro w'
      go_simp
      with_reducible rfl
     rotate_left
     ·simp only [Act.put, List.setIfInBounds_toArray, List.set_cons_zero, List.set_cons_succ, i64_w, i32_w]
      rfl
     refine pure_ (i := 3) (N := some 13) (v := ?_) (a' := ?_) #[true, false, false, true, false, false, false, false, false] rfl rfl (any_of HT_.out (by kernel_rfl)) (fun _ _ _ h => h) (Or.inl ⟨by rfl, ?_⟩) ?_ ?_
     rotate_left
     ·intro w'
      go_simp
      with_reducible rfl
     rotate_left
     ·simp only [Act.put, List.setIfInBounds_toArray, List.set_cons_zero, List.set_cons_succ, i64_w, i32_w]
      rfl
     refine take_ (i := 1) (N := some 11) (v := ?_) (a' := ?_) #[true, true, false, true, false, false, false, false, false] rfl rfl (take_ofW HT_.out HW_.out (by kernel_rfl)) (fun _ _ _ h => h) (Or.inl ⟨by rfl, ?_⟩) hHeld ?_ ?_
     rotate_left
     ·rintro w' ⟨s0, s1⟩
      go_simp
      with_reducible rfl
     rotate_left
     ·simp only [Act.put, List.setIfInBounds_toArray, List.set_cons_zero, List.set_cons_succ, i64_w, i32_w]
      rfl
     refine take_ (i := 4) (N := some 14) (v := ?_) (a' := ?_) #[true, true, false, true, true, false, false, false, false] rfl rfl (take_ofW HT_.out HW_.out (by kernel_rfl)) (fun _ _ _ h => h) (Or.inl ⟨by rfl, ?_⟩) hHeld ?_ ?_
     rotate_left
     ·rintro w' ⟨s0, s1⟩
      go_simp
      with_reducible rfl
     rotate_left
     ·simp only [Act.put, List.setIfInBounds_toArray, List.set_cons_zero, List.set_cons_succ, i64_w, i32_w]
      rfl
     refine join_ (σ := Value × Value × Nat) 1 #[true, true, true, true, true, true, true, true, false] (fun s_ => [(12, s_.1), (15, s_.2.1), (6, .pointer (some ⟨s_.2.2, 0, none⟩)), (16, .agg #[s_.1, s_.2.1])]) (fun s_ w' => (w'.cell? ⟨gb167, 0, none⟩ = some (.slice A0_0 l0_0.length c0_0) ∧ w'.cell? ⟨gb167, 1, none⟩ = some (.slice A0_1 l0_1.length c0_1)) ∧ (Kd.R (Kd.int .i64) 3 w' w.heap.size (fun k_ => some k_ ≠ (s_.2.1 : Value).ownBlock) s_.1 t171) ∧ (Kd.R (Kd.int .i64) 3 w' w.heap.size (fun k_ => some k_ ≠ (s_.1 : Value).ownBlock) s_.2.1 t174) ∧ (w'.heap[gb167]? = some (.cells #[.slice A0_0 l0_0.length c0_0, .slice A0_1 l0_1.length c0_1] 29 (0, 0))) ∧ (w'.heap[gb168]? = some (.cells #[.int .i64 a1_0, .int .i64 a1_1] 49 (0, 0))) ∧ (w'.heap[gb169]? = some (.cells #[.slice none 0 0, .slice none 0 0] 29 (0, 0))) ∧ (w'.heap[s_.2.2]? = some (.cells #[.slice none 0 0, .slice none 0 0] 29 (0, 0))) ∧ (w.heap.size ≤ s_.2.2) ∧ (w.heap.size ≤ s_.2.2) ∧ (gb167 ≠ s_.2.2) ∧ (s_.2.2 ≠ gb167) ∧ (gb168 ≠ s_.2.2) ∧ (s_.2.2 ≠ gb168) ∧ (gb169 ≠ s_.2.2) ∧ (s_.2.2 ≠ gb169) ∧ (Below w.heap.size w w')) ?_ ?_
     rotate_left
     ·intro hCont
      refine two_ (i := 2) (j := 7) (Ni := some 12) (Nj := some 6) #[true, true, true, true, true, false, false, false, false] #[true, true, false, true, true, false, false, true, false] rfl rfl rfl rfl (two_of HT_.out (by kernel_rfl)) (by decide) (by decide) (fun K hK => ?_) (fun K hK => ?_)
      ·skip
       refine goes_ Try.func71 (by kernel_rfl) rfl #[.slice A0_0 l0_0.length c0_0] (by rfl) rfl rfl (by (try simp only [List.map_toArray, List.map_cons, List.map_nil]); first | done | rfl | (simp only [List.length_drop, List.length_take]; rfl)) ?_
       with_reducible refine (spec_l1Own.calls _ _ l0_0 t171 _ ?side1 ?side2 A4.out).mono ?_
       (case side1 => exact ck HR0_0 HB)
       (case side2 => exact HC0_0.out)
       rintro e w58 ⟨v172, rfl, ho0, hb⟩
       refine ⟨_, rfl, ?_⟩
       have HO173 := lo ho0 HB
       replace BK167 := bb BK167 hb
       replace BK168 := bb BK168 hb
       replace BK169 := bb BK169 hb
       replace HB := bs HB hb
       (try clear hb)
       (try clear hb2)
       (try clear hk)
       (try clear hi)
       (try clear ho0)
       refine hK.out _ _ ⟨bc0 BK167, bc1 BK167⟩ (fun hHeld => ?_)
       clear hK K
       refine norm_ (a' := ?_) ?_ ?_
       rotate_left
       ·show Act.put _ (some 12) _ = _
        simp only [Act.put, List.setIfInBounds_toArray, List.set_cons_zero, List.set_cons_succ, i64_w, i32_w]
        rfl
       refine two_ (i := 5) (j := 7) (Ni := some 15) (Nj := some 6) #[true, true, true, true, true, true, false, false, false] #[true, true, true, true, true, false, false, true, false] rfl rfl rfl rfl (two_of HT_.out (by kernel_rfl)) (by decide) (by decide) (fun K hK => ?_) (fun K hK => ?_)
       ·skip
        refine goes_ Try.func71 (by kernel_rfl) rfl #[.slice A0_1 l0_1.length c0_1] (by rfl) rfl rfl (by (try simp only [List.map_toArray, List.map_cons, List.map_nil]); first | done | rfl | (simp only [List.length_drop, List.length_take]; rfl)) ?_
        with_reducible refine (spec_l1Own.calls _ _ l0_1 t174 _ ?side1 ?side2 A5.out).mono ?_
        (case side1 => exact ck HR0_1 HB)
        (case side2 => exact HC0_1.out)
        rintro e w59 ⟨v175, rfl, ho0, hb⟩
        refine ⟨_, rfl, ?_⟩
        have HO176 := Aside0.mk (Kd.R_lower (Kd.R_new' ho0 (Kd.R_lt (rk HO173))) (below_size (bw HB)))
        replace HO173 := Aside0.mk (Kd.R_elder' (rk HO173) (Kd.R_base ho0) hb)
        replace BK167 := bb BK167 hb
        replace BK168 := bb BK168 hb
        replace BK169 := bb BK169 hb
        replace HB := bs HB hb
        (try clear hb)
        (try clear hb2)
        (try clear hk)
        (try clear hi)
        (try clear ho0)
        obtain ⟨Ao60, co60, eo60⟩ := Kd.R_slice HO176.out
        (first | subst eo60 | (injection eo60 with f1_ f2_ f3_; have f4_ := f1_.symm; have f5_ := f3_.symm; clear f1_ f2_ f3_; subst f4_; subst f5_))
        obtain ⟨Ao61, co61, eo61⟩ := Kd.R_slice HO173.out
        (first | subst eo61 | (injection eo61 with f1_ f2_ f3_; have f4_ := f1_.symm; have f5_ := f3_.symm; clear f1_ f2_ f3_; subst f4_; subst f5_))
        refine hK.out _ _ ⟨bc0 BK167, bc1 BK167⟩ (fun hHeld => ?_)
        clear hK K
        refine norm_ (a' := ?_) ?_ ?_
        rotate_left
        ·show Act.put _ (some 15) _ = _
         simp only [Act.put, List.setIfInBounds_toArray, List.set_cons_zero, List.set_cons_succ, i64_w, i32_w]
         rfl
        refine pure_ (i := 6) (N := some 16) (v := ?_) (a' := ?_) #[true, true, true, true, true, true, true, false, false] rfl rfl (any_of HT_.out (by kernel_rfl)) (fun _ _ _ h => h) (Or.inl ⟨by rfl, ?_⟩) ?_ ?_
        rotate_left
        ·intro w'
         go_simp
         with_reducible rfl
        rotate_left
        ·simp only [Act.put, List.setIfInBounds_toArray, List.set_cons_zero, List.set_cons_succ, i64_w, i32_w]
         rfl
        refine one_ (i := 7) (N := some 6) #[true, true, true, true, true, true, true, true, false] rfl rfl (one_of HT_.out (by kernel_rfl)) (by decide) (fun K hK => ?_)
        refine box_step ?hg (N := 6) ?hd (cs := #[.slice none 0 0, .slice none 0 0]) (t := 29) ?hr ?_; (case hd => rfl); (case hg => rfl); (case hr => first | (go_simp; done) | (go_simp; rfl))
        intro gb177 hg w62 hbox hb
        replace HO173 := rb HO173 hb
        replace HO176 := rb HO176 hb
        have BK177 := Aside0.mk (hbox)
        have GW177 := ge HB hg
        have GE177 := ge HB hg
        replace HB := bs HB hb
        have NB167_177 := nl BK167 hg
        have NB177_167 := nr BK167 hg
        replace BK167 := bb BK167 hb
        have NB168_177 := nl BK168 hg
        have NB177_168 := nr BK168 hg
        replace BK168 := bb BK168 hb
        have NB169_177 := nl BK169 hg
        have NB177_169 := nr BK169 hg
        replace BK169 := bb BK169 hb
        clear hb hbox hg
        refine hK.out _ _ ⟨bc0 BK167, bc1 BK167⟩ (fun hHeld => ?_)
        clear hK K
        refine norm_ (a' := ?_) ?_ ?_
        rotate_left
        ·show Act.put _ (some 6) _ = _
         simp only [Act.put, List.setIfInBounds_toArray, List.set_cons_zero, List.set_cons_succ, i64_w, i32_w]
         rfl
        exact norm_ (by simp only [putAll, Act.put, List.setIfInBounds_toArray, List.set_cons_zero, List.set_cons_succ]) (hCont (.slice Ao61 t171.length co61, .slice Ao60 t174.length co60, gb177) _ ⟨hHeld, (by (with_reducible repeat (first | apply Kd.R_alloc | apply Kd.R_drewN | apply Kd.R_drew)); exact Kd.R_mono HO173.out (fun _ hk => hk.2)), (by (with_reducible repeat (first | apply Kd.R_alloc | apply Kd.R_drewN | apply Kd.R_drew)); exact Kd.R_mono HO176.out (fun _ hk => hk.2)), (bk BK167), (bk BK168), (bk BK169), (bk BK177), GW177.out, GE177.out, NB167_177.out, NB177_167.out, NB168_177.out, NB177_168.out, NB169_177.out, NB177_169.out, (bw HB)⟩)
       ·skip
        refine box_step ?hg (N := 6) ?hd (cs := #[.slice none 0 0, .slice none 0 0]) (t := 29) ?hr ?_; (case hd => rfl); (case hg => rfl); (case hr => first | (go_simp; done) | (go_simp; rfl))
        intro gb177 hg w59 hbox hb
        replace HO173 := rb HO173 hb
        have BK177 := Aside0.mk (hbox)
        have GW177 := ge HB hg
        have GE177 := ge HB hg
        replace HB := bs HB hb
        have NB167_177 := nl BK167 hg
        have NB177_167 := nr BK167 hg
        replace BK167 := bb BK167 hb
        have NB168_177 := nl BK168 hg
        have NB177_168 := nr BK168 hg
        replace BK168 := bb BK168 hb
        have NB169_177 := nl BK169 hg
        have NB177_169 := nr BK169 hg
        replace BK169 := bb BK169 hb
        clear hb hbox hg
        refine hK.out _ _ ⟨bc0 BK167, bc1 BK167⟩ (fun hHeld => ?_)
        clear hK K
        refine norm_ (a' := ?_) ?_ ?_
        rotate_left
        ·show Act.put _ (some 6) _ = _
         simp only [Act.put, List.setIfInBounds_toArray, List.set_cons_zero, List.set_cons_succ, i64_w, i32_w]
         rfl
        refine one_ (i := 5) (N := some 15) #[true, true, true, true, true, true, false, true, false] rfl rfl (one_of HT_.out (by kernel_rfl)) (by decide) (fun K hK => ?_)
        refine goes_ Try.func71 (by kernel_rfl) rfl #[.slice A0_1 l0_1.length c0_1] (by rfl) rfl rfl (by (try simp only [List.map_toArray, List.map_cons, List.map_nil]); first | done | rfl | (simp only [List.length_drop, List.length_take]; rfl)) ?_
        with_reducible refine (spec_l1Own.calls _ _ l0_1 t174 _ ?side1 ?side2 A5.out).mono ?_
        (case side1 => exact ck HR0_1 HB)
        (case side2 => exact HC0_1.out)
        rintro e w60 ⟨v175, rfl, ho0, hb⟩
        refine ⟨_, rfl, ?_⟩
        have HO176 := Aside0.mk (Kd.R_lower (Kd.R_new' ho0 (Kd.R_lt (rk HO173))) (below_size (bw HB)))
        replace HO173 := Aside0.mk (Kd.R_elder' (rk HO173) (Kd.R_base ho0) hb)
        replace BK167 := bb BK167 hb
        replace BK168 := bb BK168 hb
        replace BK169 := bb BK169 hb
        replace BK177 := bb BK177 hb
        replace HB := bs HB hb
        (try clear hb)
        (try clear hb2)
        (try clear hk)
        (try clear hi)
        (try clear ho0)
        obtain ⟨Ao61, co61, eo61⟩ := Kd.R_slice HO176.out
        (first | subst eo61 | (injection eo61 with f1_ f2_ f3_; have f4_ := f1_.symm; have f5_ := f3_.symm; clear f1_ f2_ f3_; subst f4_; subst f5_))
        obtain ⟨Ao62, co62, eo62⟩ := Kd.R_slice HO173.out
        (first | subst eo62 | (injection eo62 with f1_ f2_ f3_; have f4_ := f1_.symm; have f5_ := f3_.symm; clear f1_ f2_ f3_; subst f4_; subst f5_))
        refine hK.out _ _ ⟨bc0 BK167, bc1 BK167⟩ (fun hHeld => ?_)
        clear hK K
        refine norm_ (a' := ?_) ?_ ?_
        rotate_left
        ·show Act.put _ (some 15) _ = _
         simp only [Act.put, List.setIfInBounds_toArray, List.set_cons_zero, List.set_cons_succ, i64_w, i32_w]
         rfl
        refine pure_ (i := 6) (N := some 16) (v := ?_) (a' := ?_) #[true, true, true, true, true, true, true, true, false] rfl rfl (any_of HT_.out (by kernel_rfl)) (fun _ _ _ h => h) (Or.inl ⟨by rfl, ?_⟩) ?_ ?_
        rotate_left
        ·intro w'
         go_simp
         with_reducible rfl
        rotate_left
        ·simp only [Act.put, List.setIfInBounds_toArray, List.set_cons_zero, List.set_cons_succ, i64_w, i32_w]
         rfl
        exact norm_ (by simp only [putAll, Act.put, List.setIfInBounds_toArray, List.set_cons_zero, List.set_cons_succ]) (hCont (.slice Ao62 t171.length co62, .slice Ao61 t174.length co61, gb177) _ ⟨hHeld, (by (with_reducible repeat (first | apply Kd.R_alloc | apply Kd.R_drewN | apply Kd.R_drew)); exact Kd.R_mono HO173.out (fun _ hk => hk.2)), (by (with_reducible repeat (first | apply Kd.R_alloc | apply Kd.R_drewN | apply Kd.R_drew)); exact Kd.R_mono HO176.out (fun _ hk => hk.2)), (bk BK167), (bk BK168), (bk BK169), (bk BK177), GW177.out, GE177.out, NB167_177.out, NB177_167.out, NB168_177.out, NB177_168.out, NB169_177.out, NB177_169.out, (bw HB)⟩)
      ·skip
       refine box_step ?hg (N := 6) ?hd (cs := #[.slice none 0 0, .slice none 0 0]) (t := 29) ?hr ?_; (case hd => rfl); (case hg => rfl); (case hr => first | (go_simp; done) | (go_simp; rfl))
       intro gb177 hg w58 hbox hb
       have BK177 := Aside0.mk (hbox)
       have GW177 := ge HB hg
       have GE177 := ge HB hg
       replace HB := bs HB hb
       have NB167_177 := nl BK167 hg
       have NB177_167 := nr BK167 hg
       replace BK167 := bb BK167 hb
       have NB168_177 := nl BK168 hg
       have NB177_168 := nr BK168 hg
       replace BK168 := bb BK168 hb
       have NB169_177 := nl BK169 hg
       have NB177_169 := nr BK169 hg
       replace BK169 := bb BK169 hb
       clear hb hbox hg
       refine hK.out _ _ ⟨bc0 BK167, bc1 BK167⟩ (fun hHeld => ?_)
       clear hK K
       refine norm_ (a' := ?_) ?_ ?_
       rotate_left
       ·show Act.put _ (some 6) _ = _
        simp only [Act.put, List.setIfInBounds_toArray, List.set_cons_zero, List.set_cons_succ, i64_w, i32_w]
        rfl
       refine one_ (i := 2) (N := some 12) #[true, true, true, true, true, false, false, true, false] rfl rfl (one_of HT_.out (by kernel_rfl)) (by decide) (fun K hK => ?_)
       refine goes_ Try.func71 (by kernel_rfl) rfl #[.slice A0_0 l0_0.length c0_0] (by rfl) rfl rfl (by (try simp only [List.map_toArray, List.map_cons, List.map_nil]); first | done | rfl | (simp only [List.length_drop, List.length_take]; rfl)) ?_
       with_reducible refine (spec_l1Own.calls _ _ l0_0 t171 _ ?side1 ?side2 A4.out).mono ?_
       (case side1 => exact ck HR0_0 HB)
       (case side2 => exact HC0_0.out)
       rintro e w59 ⟨v172, rfl, ho0, hb⟩
       refine ⟨_, rfl, ?_⟩
       have HO173 := lo ho0 HB
       replace BK167 := bb BK167 hb
       replace BK168 := bb BK168 hb
       replace BK169 := bb BK169 hb
       replace BK177 := bb BK177 hb
       replace HB := bs HB hb
       (try clear hb)
       (try clear hb2)
       (try clear hk)
       (try clear hi)
       (try clear ho0)
       refine hK.out _ _ ⟨bc0 BK167, bc1 BK167⟩ (fun hHeld => ?_)
       clear hK K
       refine norm_ (a' := ?_) ?_ ?_
       rotate_left
       ·show Act.put _ (some 12) _ = _
        simp only [Act.put, List.setIfInBounds_toArray, List.set_cons_zero, List.set_cons_succ, i64_w, i32_w]
        rfl
       refine one_ (i := 5) (N := some 15) #[true, true, true, true, true, true, false, true, false] rfl rfl (one_of HT_.out (by kernel_rfl)) (by decide) (fun K hK => ?_)
       refine goes_ Try.func71 (by kernel_rfl) rfl #[.slice A0_1 l0_1.length c0_1] (by rfl) rfl rfl (by (try simp only [List.map_toArray, List.map_cons, List.map_nil]); first | done | rfl | (simp only [List.length_drop, List.length_take]; rfl)) ?_
       with_reducible refine (spec_l1Own.calls _ _ l0_1 t174 _ ?side1 ?side2 A5.out).mono ?_
       (case side1 => exact ck HR0_1 HB)
       (case side2 => exact HC0_1.out)
       rintro e w60 ⟨v175, rfl, ho0, hb⟩
       refine ⟨_, rfl, ?_⟩
       have HO176 := Aside0.mk (Kd.R_lower (Kd.R_new' ho0 (Kd.R_lt (rk HO173))) (below_size (bw HB)))
       replace HO173 := Aside0.mk (Kd.R_elder' (rk HO173) (Kd.R_base ho0) hb)
       replace BK167 := bb BK167 hb
       replace BK168 := bb BK168 hb
       replace BK169 := bb BK169 hb
       replace BK177 := bb BK177 hb
       replace HB := bs HB hb
       (try clear hb)
       (try clear hb2)
       (try clear hk)
       (try clear hi)
       (try clear ho0)
       obtain ⟨Ao61, co61, eo61⟩ := Kd.R_slice HO176.out
       (first | subst eo61 | (injection eo61 with f1_ f2_ f3_; have f4_ := f1_.symm; have f5_ := f3_.symm; clear f1_ f2_ f3_; subst f4_; subst f5_))
       obtain ⟨Ao62, co62, eo62⟩ := Kd.R_slice HO173.out
       (first | subst eo62 | (injection eo62 with f1_ f2_ f3_; have f4_ := f1_.symm; have f5_ := f3_.symm; clear f1_ f2_ f3_; subst f4_; subst f5_))
       refine hK.out _ _ ⟨bc0 BK167, bc1 BK167⟩ (fun hHeld => ?_)
       clear hK K
       refine norm_ (a' := ?_) ?_ ?_
       rotate_left
       ·show Act.put _ (some 15) _ = _
        simp only [Act.put, List.setIfInBounds_toArray, List.set_cons_zero, List.set_cons_succ, i64_w, i32_w]
        rfl
       refine pure_ (i := 6) (N := some 16) (v := ?_) (a' := ?_) #[true, true, true, true, true, true, true, true, false] rfl rfl (any_of HT_.out (by kernel_rfl)) (fun _ _ _ h => h) (Or.inl ⟨by rfl, ?_⟩) ?_ ?_
       rotate_left
       ·intro w'
        go_simp
        with_reducible rfl
       rotate_left
       ·simp only [Act.put, List.setIfInBounds_toArray, List.set_cons_zero, List.set_cons_succ, i64_w, i32_w]
        rfl
       exact norm_ (by simp only [putAll, Act.put, List.setIfInBounds_toArray, List.set_cons_zero, List.set_cons_succ]) (hCont (.slice Ao62 t171.length co62, .slice Ao61 t174.length co61, gb177) _ ⟨hHeld, (by (with_reducible repeat (first | apply Kd.R_alloc | apply Kd.R_drewN | apply Kd.R_drew)); exact Kd.R_mono HO173.out (fun _ hk => hk.2)), (by (with_reducible repeat (first | apply Kd.R_alloc | apply Kd.R_drewN | apply Kd.R_drew)); exact Kd.R_mono HO176.out (fun _ hk => hk.2)), (bk BK167), (bk BK168), (bk BK169), (bk BK177), GW177.out, GE177.out, NB167_177.out, NB177_167.out, NB168_177.out, NB177_168.out, NB169_177.out, NB177_169.out, (bw HB)⟩)
     rintro ⟨v172, v175, gb177⟩ w63 ⟨hS_, h0_, h1_, h2_, h3_, h4_, h5_, h6_, h7_, h8_, h9_, h10_, h11_, h12_, h13_, h14_⟩
     have HO173 := Aside0.mk h0_
     have HO176 := Aside0.mk h1_
     replace BK167 := Aside0.mk h2_
     replace BK168 := Aside0.mk h3_
     replace BK169 := Aside0.mk h4_
     have BK177 := Aside0.mk h5_
     have GW177 := GeC.mk h6_
     have GE177 := GeC.mk h7_
     have NB167_177 := NeC.mk h8_
     have NB177_167 := NeC.mk h9_
     have NB168_177 := NeC.mk h10_
     have NB177_168 := NeC.mk h11_
     have NB169_177 := NeC.mk h12_
     have NB177_169 := NeC.mk h13_
     replace HB := Aside0.mk h14_
     clear h0_ h1_ h2_ h3_ h4_ h5_ h6_ h7_ h8_ h9_ h10_ h11_ h12_ h13_ h14_
     have hHeld : w63.cell? ⟨gb167, 0, none⟩ = some (.slice A0_0 l0_0.length c0_0) ∧ w63.cell? ⟨gb167, 1, none⟩ = some (.slice A0_1 l0_1.length c0_1) := hS_
     obtain ⟨Ao64, co64, eo64⟩ := Kd.R_slice HO176.out
     (first | subst eo64 | (injection eo64 with f1_ f2_ f3_; have f4_ := f1_.symm; have f5_ := f3_.symm; clear f1_ f2_ f3_; subst f4_; subst f5_))
     obtain ⟨Ao65, co65, eo65⟩ := Kd.R_slice HO173.out
     (first | subst eo65 | (injection eo65 with f1_ f2_ f3_; have f4_ := f1_.symm; have f5_ := f3_.symm; clear f1_ f2_ f3_; subst f4_; subst f5_))
     refine norm_ (a' := ?_) ?_ ?_
     rotate_left
     ·simp only [putAll, Act.put, List.setIfInBounds_toArray, List.set_cons_zero, List.set_cons_succ]
      rfl
     refine one_ (i := 8) (N := none) #[true, true, true, true, true, true, true, true, true] rfl rfl (one_of HT_.out (by kernel_rfl)) (by decide) (fun K hK => ?_)
     have hs66 : w63.cell? ⟨gb177, 0, none⟩ = some (.slice none 0 0) := bc0 BK177
     have hfs66 := blk_frozen BK177.out 0
     have hns66_0 := NB167_177.out
     have hns66_1 := NB168_177.out
     have hns66_2 := NB169_177.out
     have hms66_0 := NB177_167.out
     have hms66_1 := NB177_168.out
     have hms66_2 := NB177_169.out
     have hs67 : w63.cell? ⟨gb177, 1, none⟩ = some (.slice none 0 0) := bc1 BK177
     have hfs67 := blk_frozen BK177.out 1
     have hns67_0 := NB167_177.out
     have hns67_1 := NB168_177.out
     have hns67_2 := NB169_177.out
     have hms67_0 := NB177_167.out
     have hms67_1 := NB177_168.out
     have hms67_2 := NB177_169.out
     refine skip_ (w1 := ?_) (by rfl) rfl ?_ ?_
     rotate_left
     ·go_simp
      rfl
     refine hK.out _ _ ⟨((cell_far (p := ⟨gb177, _, none⟩) NB167_177.out _).trans (((cell_far (p := ⟨gb177, _, none⟩) NB167_177.out _).trans (hHeld.1)))), ((cell_far (p := ⟨gb177, _, none⟩) NB167_177.out _).trans (((cell_far (p := ⟨gb177, _, none⟩) NB167_177.out _).trans (hHeld.2))))⟩ (fun hHeld => ?_)
     clear hK K
     refine done_ (done_of HT_.out (by kernel_rfl)) ?_
     have n0_ : Aside0 (Kd.R (Kd.int .i64) 3 ((w63.setCell ⟨gb177, 0, none⟩ (.slice Ao65 t171.length co65)).setCell ⟨gb177, 1, none⟩ (.slice Ao64 t174.length co64)) w.heap.size (fun k_ => some k_ ≠ (.slice Ao64 t174.length co64 : Value).ownBlock) (.slice Ao65 t171.length co65) t171) := ⟨by (with_reducible repeat (first | apply Kd.R_alloc | apply Kd.R_drewN | apply Kd.R_drew)); exact Kd.R_mono (Kd.R_far (p := ⟨gb177, 1, none⟩) (Kd.R_far (p := ⟨gb177, 0, none⟩) (Kd.R_types HO173.out BK177.out (by decide)) (fun _ hk => hk.2) (.slice Ao65 t171.length co65)) (fun _ hk => hk.2) (.slice Ao64 t174.length co64)) (fun _ hk => hk.1)⟩
     have n1_ : Aside0 (Kd.R (Kd.int .i64) 3 ((w63.setCell ⟨gb177, 0, none⟩ (.slice Ao65 t171.length co65)).setCell ⟨gb177, 1, none⟩ (.slice Ao64 t174.length co64)) w.heap.size (fun k_ => some k_ ≠ (.slice Ao65 t171.length co65 : Value).ownBlock) (.slice Ao64 t174.length co64) t174) := ⟨by (with_reducible repeat (first | apply Kd.R_alloc | apply Kd.R_drewN | apply Kd.R_drew)); exact Kd.R_mono (Kd.R_far (p := ⟨gb177, 1, none⟩) (Kd.R_far (p := ⟨gb177, 0, none⟩) (Kd.R_types HO176.out BK177.out (by decide)) (fun _ hk => hk.2) (.slice Ao65 t171.length co65)) (fun _ hk => hk.2) (.slice Ao64 t174.length co64)) (fun _ hk => hk.1)⟩
     have n2_ : Aside0 (((w63.setCell ⟨gb177, 0, none⟩ (.slice Ao65 t171.length co65)).setCell ⟨gb177, 1, none⟩ (.slice Ao64 t174.length co64)).heap[gb167]? = some (.cells #[.slice A0_0 l0_0.length c0_0, .slice A0_1 l0_1.length c0_1] 29 (0, 0))) := ⟨bk BK167⟩
     have n3_ : Aside0 (((w63.setCell ⟨gb177, 0, none⟩ (.slice Ao65 t171.length co65)).setCell ⟨gb177, 1, none⟩ (.slice Ao64 t174.length co64)).heap[gb168]? = some (.cells #[.int .i64 a1_0, .int .i64 a1_1] 49 (0, 0))) := ⟨bk BK168⟩
     have n4_ : Aside0 (((w63.setCell ⟨gb177, 0, none⟩ (.slice Ao65 t171.length co65)).setCell ⟨gb177, 1, none⟩ (.slice Ao64 t174.length co64)).heap[gb169]? = some (.cells #[.slice none 0 0, .slice none 0 0] 29 (0, 0))) := ⟨bk BK169⟩
     have n5_ : Aside0 (((w63.setCell ⟨gb177, 0, none⟩ (.slice Ao65 t171.length co65)).setCell ⟨gb177, 1, none⟩ (.slice Ao64 t174.length co64)).heap[gb177]? = some (.cells #[.slice Ao65 t171.length co65, .slice Ao64 t174.length co64] 29 (0, 0))) := ⟨by (with_reducible repeat (first | refine blk_drewN ?_ _ | refine blk_drew ?_ | refine blk_alloc ?_ _)); refine blk_put (cs := #[.slice Ao65 t171.length co65, .slice none 0 0]) ?_ 1 _ rfl; (with_reducible repeat (first | refine blk_drewN ?_ _ | refine blk_drew ?_ | refine blk_alloc ?_ _)); refine blk_put (cs := #[.slice none 0 0, .slice none 0 0]) ?_ 0 _ rfl; exact bk BK177⟩
     have n6_ : Aside0 (Below w.heap.size w ((w63.setCell ⟨gb177, 0, none⟩ (.slice Ao65 t171.length co65)).setCell ⟨gb177, 1, none⟩ (.slice Ao64 t174.length co64))) := ⟨bw HB⟩
     (try clear HO173)
     (try clear HO176)
     (try clear BK167)
     (try clear BK168)
     (try clear BK169)
     (try clear BK177)
     (try clear HB)
     generalize ((w63.setCell ⟨gb177, 0, none⟩ (.slice Ao65 t171.length co65)).setCell ⟨gb177, 1, none⟩ (.slice Ao64 t174.length co64)) = w68 at n0_ n1_ n2_ n3_ n4_ n5_ n6_ ⊢
     have HO173 := n0_
     have HO176 := n1_
     have BK167 := n2_
     have BK168 := n3_
     have BK169 := n4_
     have BK177 := n5_
     have HB := n6_
     clear n0_ n1_ n2_ n3_ n4_ n5_ n6_
     have hnb69 := NB168_177.out
     have hnc69 := NB177_168.out
     have hcz70_0 := bc0 BK168
     have hcz70_1 := bc1 BK168
     have hfz70_0 := blk_frozen BK168.out 0
     have hfz70_1 := blk_frozen BK168.out 1
     have hnb71 := NB177_167.out
     have hnc71 := NB167_177.out
     have hnb72 := NB177_169.out
     have hnc72 := NB169_177.out
     have hcz73_0 := bc0 BK177
     have hcz73_1 := bc1 BK177
     have hfz73_0 := blk_frozen BK177.out 0
     have hfz73_1 := blk_frozen BK177.out 1
     have p178 : 0 ≤ (a1_0 : Int) := of_decide_eq_true (by first | (with_reducible assumption) | assumption)
     have q178 : a1_0 < (t174.length : Int) := of_decide_eq_true (by first | (with_reducible assumption) | assumption)
     obtain ⟨ad178, e178, hx178_0⟩ := Kd.at_int (Kd.R_reads' HO176.out).2.2 a1_0 p178 q178
     cases e178
     replace p178 := eq_true p178
     replace q178 := eq_true q178
     have p9 : 0 ≤ (a1_0 : Int) := of_decide_eq_true (by first | (with_reducible assumption) | assumption)
     have q9 : (a1_0 : Int) < ((t174.length : Int) : Int) := of_decide_eq_true (by first | (with_reducible assumption) | assumption)
     obtain ⟨go9, co9, eo9, gb9, gl9, cl9, HG9⟩ := Kd.R_form HO176.out (by omega)
     (first | cases eo9 | (injection eo9 with ea_ en_ ec_; (first | subst ea_ | (injection ea_ with ea_; subst ea_)); subst ec_; clear en_))
     have GB9 := Aside0.mk gb9
     have GG9 := Aside0.mk HG9
     clear gb9 gl9 HG9
     (first | simp only [add_plain] at hx178_0 | skip)
     obtain ⟨hx9_0, hf9_0⟩ := Kd.R_celln 0 HO176.out (a1_0 : Int) p9 q9
     replace p9 := eq_true p9
     replace q9 := eq_true q9
     obtain ⟨hy74_, hz74_⟩ := Kd.R_celln 0 HO176.out (a1_0 : Int) (of_decide_eq_true (by first | (with_reducible assumption) | assumption)) (of_decide_eq_true (by first | (with_reducible assumption) | assumption))
     have HP74 := Kd.R_putg HO176.out (a1_0 : Int) (wrap64 ((rd t174 a1_0) - t170))
     try go_wp2_with (first | ((with_reducible refine gate_store (t := 3) (p := 28) rfl ?_); refine store_event (t := 3) (p := 28) (v := ?vo_w75) (w1 := (w68.setCell ⟨go9, (a1_0 : Int).toNat, none⟩ (.int .i64 (wrap64 ((rd t174 a1_0) - t170))))) ?hg ?ho ?hn ?hr ?_; (case ho => rfl); (case hg => rfl); (case hn => rfl); (case hr => first | (go_simp; done) | (go_simp; rfl)); intro w75 hw; have hg : w68.grownBy w75 (some go9) := (by rw [hw]; exact HP74.2); have hp_ : Kd.R (Kd.int .i64) 3 w75 w.heap.size (fun k_ => some k_ ≠ (.slice Ao65 t171.length co65 : Value).ownBlock) (.slice (some ⟨go9, 0, none⟩) t174.length co64) y179 := (by rw [hw, Ny179.out]; exact HP74.1); clear HP74; replace BK167 := Aside0.mk (blk_grown (g := gb167) (o := .cells #[.slice A0_0 l0_0.length c0_0, .slice A0_1 l0_1.length c0_1] 29 (0, 0)) (bk BK167) hg (Kd.R_ne HO176.out BK167.out (by decide))); replace BK168 := Aside0.mk (blk_grown (g := gb168) (o := .cells #[.int .i64 a1_0, .int .i64 a1_1] 49 (0, 0)) (bk BK168) hg (Kd.R_ne HO176.out BK168.out (by decide))); replace BK169 := Aside0.mk (blk_grown (g := gb169) (o := .cells #[.slice none 0 0, .slice none 0 0] 29 (0, 0)) (bk BK169) hg (Kd.R_ne HO176.out BK169.out (by decide))); replace HO173 := Aside0.mk (Kd.R_after (v := (.slice (some ⟨go9, 0, none⟩) t174.length co64)) (v1 := (.slice (some ⟨go9, 0, none⟩) t174.length co64)) (ok := (fun _ => True)) (by (with_reducible repeat (first | apply Kd.R_alloc | apply Kd.R_drewN | apply Kd.R_drew)); exact Kd.R_mono HO173.out (fun _ hk => ⟨trivial, hk⟩)) hg (.inl rfl)); replace BK177 := Aside0.mk (blk_grown (g := gb177) (o := .cells #[.slice Ao65 t171.length co65, .slice (some ⟨go9, 0, none⟩) t174.length co64] 29 (0, 0)) (bk BK177) hg (Kd.R_ne HO176.out BK177.out (by decide))); replace HO176 := Aside0.mk (hp_); replace HB := Aside0.mk ((by rw [hw]; exact below_set (HB.out) GB9.out : Below w.heap.size w w75)); clear hg hw hp_; have hcz76_0 := bc0 BK168; have hcz76_1 := bc1 BK168; have hfz76_0 := blk_frozen BK168.out 0; have hfz76_1 := blk_frozen BK168.out 1; have hcz77_0 := bc0 BK177; have hcz77_1 := bc1 BK177; have hfz77_0 := blk_frozen BK177.out 0; have hfz77_1 := blk_frozen BK177.out 1; have hcz78_0 := bc0 BK169; have hcz78_1 := bc1 BK169; have hfz78_0 := blk_frozen BK169.out 0; have hfz78_1 := blk_frozen BK169.out 1))
     refine bodyPost_ret (results_cell_row rfl _ _ gb169 29 #[.slice Ao65 t171.length co65, .slice (some ⟨go9, 0, none⟩) t174.length co64] (0, 0) _ rfl (by (with_reducible repeat (first | refine blk_drewN ?_ _ | refine blk_drew ?_ | refine blk_alloc ?_ _)); refine blk_put (cs := #[.slice Ao65 t171.length co65, .slice none 0 0]) ?_ 1 _ rfl; (with_reducible repeat (first | refine blk_drewN ?_ _ | refine blk_drew ?_ | refine blk_alloc ?_ _)); refine blk_put (cs := #[.slice none 0 0, .slice none 0 0]) ?_ 0 _ rfl; exact bk BK169) Try.underlying29 rfl (by kernel_rfl)) rfl ?_
     exact ⟨_, _, by first | rfl | (simp [errW_none, errW_some] <;> rfl) | (simp [*, errW_none, errW_some] <;> rfl), by (with_reducible repeat (first | apply Kd.R_alloc | apply Kd.R_drewN | apply Kd.R_drew)); exact Kd.R_mono (Kd.R_far (p := ⟨gb169, 1, none⟩) (Kd.R_far (p := ⟨gb169, 0, none⟩) (Kd.R_types HO173.out BK169.out (by decide)) (fun _ hk => hk.2) (.slice Ao65 t171.length co65)) (fun _ hk => hk.2) (.slice (some ⟨go9, 0, none⟩) t174.length co64)) (fun _ hk => hk.1.2), by (with_reducible repeat (first | apply Kd.R_alloc | apply Kd.R_drewN | apply Kd.R_drew)); exact Kd.R_mono (Kd.R_far (p := ⟨gb169, 1, none⟩) (Kd.R_far (p := ⟨gb169, 0, none⟩) (Kd.R_types HO176.out BK169.out (by decide)) (fun _ hk => hk.2) (.slice Ao65 t171.length co65)) (fun _ hk => hk.2) (.slice (some ⟨go9, 0, none⟩) t174.length co64)) (fun _ hk => hk.1), bw HB⟩
   ·rw [if_neg c8] at H
    exact absurd H (by simp)
  ·rw [if_neg c7] at H
   exact absurd H (by simp)
 ·rw [if_neg c6] at H
  have c6b0 : decide (0 ≤ a1_0) = false := decide_eq_false c6
  clear c6
  by_cases c79 : a1_1 ≥ 0
  ·rw [if_pos c79] at H
   have c79b0 : decide (0 ≤ a1_1) = true := decide_eq_true c79
   clear c79
   by_cases c80 : 0 ≤ a1_1
   ·rw [if_pos c80] at H
    have c80b0 : decide (0 ≤ a1_1) = true := decide_eq_true c80
    clear c80
    by_cases c81 : a1_1 < (t174.length : Int)
    ·rw [if_pos c81] at H
     have c81b0 : decide (a1_1 < (t174.length : Int)) = true := decide_eq_true c81
     clear c81
     obtain ⟨y183, hy183⟩ : ∃ y_ : List Int, y_ = (t174.set (a1_1 : Int).toNat (wrap64 ((rd t174 a1_1) + t170))) := ⟨_, rfl⟩
     replace H : (some (t171, y183)) = some (r1, r2) := by first | (rw [hy183]; with_reducible exact H) | (have H2_ := (Option.bind_some _ _).symm.trans H; rw [hy183]; with_reducible exact H2_) | (have H2_ := (Option.bind_some _ _).symm.trans H; with_reducible exact H2_) | with_reducible exact H | (rw [hy183]; exact H) | exact H
     have Ny183 := Aside0.mk hy183
     clear hy183
     simp only [Option.some.injEq, Prod.mk.injEq] at H
     obtain ⟨rfl, rfl⟩ := H
     go_enter Try.func55, Try.ntmps55
     try go_wp2_with (first | ((with_reducible refine gate_dst (N := 2) rfl ?_); refine bx 2 #[.slice A0_0 l0_0.length c0_0, .slice A0_1 l0_1.length c0_1] 29 ?_; intro gb167 hg w83 hbox hb; have BK167 := Aside0.mk (hbox); have GW167 := ge HB hg; have GE167 := ge HB hg; replace HB := bs HB hb; clear hb hbox hg) | ((with_reducible refine gate_dst (N := 3) rfl ?_); refine bx 3 #[.int .i64 a1_0, .int .i64 a1_1] 49 ?_; intro gb168 hg w84 hbox hb; have BK168 := Aside0.mk (hbox); have GW168 := ge HB hg; have GE168 := ge HB hg; replace HB := bs HB hb; have NB167_168 := nl BK167 hg; have NB168_167 := nr BK167 hg; replace BK167 := bb BK167 hb; clear hb hbox hg) | ((with_reducible refine gate_dst (N := 4) rfl ?_); refine bx 4 #[.slice none 0 0, .slice none 0 0] 29 ?_; intro gb169 hg w85 hbox hb; have BK169 := Aside0.mk (hbox); have GW169 := ge HB hg; have GE169 := ge HB hg; replace HB := bs HB hb; have NB167_169 := nl BK167 hg; have NB169_167 := nr BK167 hg; replace BK167 := bb BK167 hb; have NB168_169 := nl BK168 hg; have NB169_168 := nr BK168 hg; replace BK168 := bb BK168 hb; clear hb hbox hg; have hnb86 := NB167_168.out; have hnc86 := NB168_167.out; have hnb87 := NB167_169.out; have hnc87 := NB169_167.out; have hcz88_0 := bc0 BK167; have hcz88_1 := bc1 BK167; have hfz88_0 := blk_frozen BK167.out 0; have hfz88_1 := blk_frozen BK167.out 1; have hnb89 := NB168_169.out; have hnc89 := NB169_168.out; have hcz90_0 := bc0 BK168; have hcz90_1 := bc1 BK168; have hfz90_0 := blk_frozen BK168.out 0; have hfz90_1 := blk_frozen BK168.out 1) | ((with_reducible refine gate_callee (f := 78) rfl ?_); refine gl 9 Try.func78 #[.agg #[.slice A0_0 l0_0.length c0_0, .slice A0_1 l0_1.length c0_1], .agg #[.int .i64 a1_0, .int .i64 a1_1]] ?_; (with_reducible refine (spec_veAmount.calls _ _ l0_0 _ _ l0_1 a1_0 a1_1 t170 _ ?side1 ?side2 ?side3 ?side4 A3.out).mono ?_); (case side1 => exact ck HR0_0 HB); (case side2 => exact HC0_0.out); (case side3 => exact ck HR0_1 HB); (case side4 => exact HC0_1.out); rintro e w91 ⟨rfl, hb⟩; refine ⟨_, rfl, ?_⟩; replace BK167 := bb BK167 hb; replace BK168 := bb BK168 hb; replace BK169 := bb BK169 hb; replace HB := bs HB hb; (try clear hb)))
     replace BK167 := Aside0.mk (blk_drew BK167.out)
     replace BK168 := Aside0.mk (blk_drew BK168.out)
     replace BK169 := Aside0.mk (blk_drew BK169.out)
     replace HB := Aside0.mk (below_drew1 HB.out)
     refine start_ (n := 9) (S := fun w' => w'.cell? ⟨gb167, 0, none⟩ = some (.slice A0_0 l0_0.length c0_0) ∧ w'.cell? ⟨gb167, 1, none⟩ = some (.slice A0_1 l0_1.length c0_1)) (ds := []) #[false, false, false, false, false, false, false, false, false] (by kernel_rfl) rfl rfl ⟨bc0 BK167, bc1 BK167⟩ (fun hHeld => ?_); refine with_tabW spec_veMake.tab2 spec_veMake.bits2 (fun HT_ HW_ => ?_)
     generalize w91.drew = w92 at BK167 BK168 BK169 HB hHeld ⊢
     refine pure_ (i := 0) (N := some 10) (v := ?_) (a' := ?_) #[true, false, false, false, false, false, false, false, false] rfl rfl (any_of HT_.out (by kernel_rfl)) (fun _ _ _ h => h) (Or.inl ⟨by rfl, ?_⟩) ?_ ?_
     rotate_left
     ·intro w'
      go_simp
      with_reducible rfl
     rotate_left
     ·simp only [Act.put, List.setIfInBounds_toArray, List.set_cons_zero, List.set_cons_succ, i64_w, i32_w]
      rfl
     refine pure_ (i := 3) (N := some 13) (v := ?_) (a' := ?_) #[true, false, false, true, false, false, false, false, false] rfl rfl (any_of HT_.out (by kernel_rfl)) (fun _ _ _ h => h) (Or.inl ⟨by rfl, ?_⟩) ?_ ?_
     rotate_left
     ·intro w'
      go_simp
      with_reducible rfl
     rotate_left
     ·simp only [Act.put, List.setIfInBounds_toArray, List.set_cons_zero, List.set_cons_succ, i64_w, i32_w]
      rfl
     refine take_ (i := 1) (N := some 11) (v := ?_) (a' := ?_) #[true, true, false, true, false, false, false, false, false] rfl rfl (take_ofW HT_.out HW_.out (by kernel_rfl)) (fun _ _ _ h => h) (Or.inl ⟨by rfl, ?_⟩) hHeld ?_ ?_
     rotate_left
     ·rintro w' ⟨s0, s1⟩
      go_simp
      with_reducible rfl
     rotate_left
     ·simp only [Act.put, List.setIfInBounds_toArray, List.set_cons_zero, List.set_cons_succ, i64_w, i32_w]
      rfl
     refine take_ (i := 4) (N := some 14) (v := ?_) (a' := ?_) #[true, true, false, true, true, false, false, false, false] rfl rfl (take_ofW HT_.out HW_.out (by kernel_rfl)) (fun _ _ _ h => h) (Or.inl ⟨by rfl, ?_⟩) hHeld ?_ ?_
     rotate_left
     ·rintro w' ⟨s0, s1⟩
      go_simp
      with_reducible rfl
     rotate_left
     ·simp only [Act.put, List.setIfInBounds_toArray, List.set_cons_zero, List.set_cons_succ, i64_w, i32_w]
      rfl
     refine join_ (σ := Value × Value × Nat) 1 #[true, true, true, true, true, true, true, true, false] (fun s_ => [(12, s_.1), (15, s_.2.1), (6, .pointer (some ⟨s_.2.2, 0, none⟩)), (16, .agg #[s_.1, s_.2.1])]) (fun s_ w' => (w'.cell? ⟨gb167, 0, none⟩ = some (.slice A0_0 l0_0.length c0_0) ∧ w'.cell? ⟨gb167, 1, none⟩ = some (.slice A0_1 l0_1.length c0_1)) ∧ (Kd.R (Kd.int .i64) 3 w' w.heap.size (fun k_ => some k_ ≠ (s_.2.1 : Value).ownBlock) s_.1 t171) ∧ (Kd.R (Kd.int .i64) 3 w' w.heap.size (fun k_ => some k_ ≠ (s_.1 : Value).ownBlock) s_.2.1 t174) ∧ (w'.heap[gb167]? = some (.cells #[.slice A0_0 l0_0.length c0_0, .slice A0_1 l0_1.length c0_1] 29 (0, 0))) ∧ (w'.heap[gb168]? = some (.cells #[.int .i64 a1_0, .int .i64 a1_1] 49 (0, 0))) ∧ (w'.heap[gb169]? = some (.cells #[.slice none 0 0, .slice none 0 0] 29 (0, 0))) ∧ (w'.heap[s_.2.2]? = some (.cells #[.slice none 0 0, .slice none 0 0] 29 (0, 0))) ∧ (w.heap.size ≤ s_.2.2) ∧ (w.heap.size ≤ s_.2.2) ∧ (gb167 ≠ s_.2.2) ∧ (s_.2.2 ≠ gb167) ∧ (gb168 ≠ s_.2.2) ∧ (s_.2.2 ≠ gb168) ∧ (gb169 ≠ s_.2.2) ∧ (s_.2.2 ≠ gb169) ∧ (Below w.heap.size w w')) ?_ ?_
     rotate_left
     ·intro hCont
      refine two_ (i := 2) (j := 7) (Ni := some 12) (Nj := some 6) #[true, true, true, true, true, false, false, false, false] #[true, true, false, true, true, false, false, true, false] rfl rfl rfl rfl (two_of HT_.out (by kernel_rfl)) (by decide) (by decide) (fun K hK => ?_) (fun K hK => ?_)
      ·skip
       refine goes_ Try.func71 (by kernel_rfl) rfl #[.slice A0_0 l0_0.length c0_0] (by rfl) rfl rfl (by (try simp only [List.map_toArray, List.map_cons, List.map_nil]); first | done | rfl | (simp only [List.length_drop, List.length_take]; rfl)) ?_
       with_reducible refine (spec_l1Own.calls _ _ l0_0 t171 _ ?side1 ?side2 A4.out).mono ?_
       (case side1 => exact ck HR0_0 HB)
       (case side2 => exact HC0_0.out)
       rintro e w93 ⟨v172, rfl, ho0, hb⟩
       refine ⟨_, rfl, ?_⟩
       have HO173 := lo ho0 HB
       replace BK167 := bb BK167 hb
       replace BK168 := bb BK168 hb
       replace BK169 := bb BK169 hb
       replace HB := bs HB hb
       (try clear hb)
       (try clear hb2)
       (try clear hk)
       (try clear hi)
       (try clear ho0)
       refine hK.out _ _ ⟨bc0 BK167, bc1 BK167⟩ (fun hHeld => ?_)
       clear hK K
       refine norm_ (a' := ?_) ?_ ?_
       rotate_left
       ·show Act.put _ (some 12) _ = _
        simp only [Act.put, List.setIfInBounds_toArray, List.set_cons_zero, List.set_cons_succ, i64_w, i32_w]
        rfl
       refine two_ (i := 5) (j := 7) (Ni := some 15) (Nj := some 6) #[true, true, true, true, true, true, false, false, false] #[true, true, true, true, true, false, false, true, false] rfl rfl rfl rfl (two_of HT_.out (by kernel_rfl)) (by decide) (by decide) (fun K hK => ?_) (fun K hK => ?_)
       ·skip
        refine goes_ Try.func71 (by kernel_rfl) rfl #[.slice A0_1 l0_1.length c0_1] (by rfl) rfl rfl (by (try simp only [List.map_toArray, List.map_cons, List.map_nil]); first | done | rfl | (simp only [List.length_drop, List.length_take]; rfl)) ?_
        with_reducible refine (spec_l1Own.calls _ _ l0_1 t174 _ ?side1 ?side2 A5.out).mono ?_
        (case side1 => exact ck HR0_1 HB)
        (case side2 => exact HC0_1.out)
        rintro e w94 ⟨v175, rfl, ho0, hb⟩
        refine ⟨_, rfl, ?_⟩
        have HO176 := Aside0.mk (Kd.R_lower (Kd.R_new' ho0 (Kd.R_lt (rk HO173))) (below_size (bw HB)))
        replace HO173 := Aside0.mk (Kd.R_elder' (rk HO173) (Kd.R_base ho0) hb)
        replace BK167 := bb BK167 hb
        replace BK168 := bb BK168 hb
        replace BK169 := bb BK169 hb
        replace HB := bs HB hb
        (try clear hb)
        (try clear hb2)
        (try clear hk)
        (try clear hi)
        (try clear ho0)
        obtain ⟨Ao95, co95, eo95⟩ := Kd.R_slice HO176.out
        (first | subst eo95 | (injection eo95 with f1_ f2_ f3_; have f4_ := f1_.symm; have f5_ := f3_.symm; clear f1_ f2_ f3_; subst f4_; subst f5_))
        obtain ⟨Ao96, co96, eo96⟩ := Kd.R_slice HO173.out
        (first | subst eo96 | (injection eo96 with f1_ f2_ f3_; have f4_ := f1_.symm; have f5_ := f3_.symm; clear f1_ f2_ f3_; subst f4_; subst f5_))
        refine hK.out _ _ ⟨bc0 BK167, bc1 BK167⟩ (fun hHeld => ?_)
        clear hK K
        refine norm_ (a' := ?_) ?_ ?_
        rotate_left
        ·show Act.put _ (some 15) _ = _
         simp only [Act.put, List.setIfInBounds_toArray, List.set_cons_zero, List.set_cons_succ, i64_w, i32_w]
         rfl
        refine pure_ (i := 6) (N := some 16) (v := ?_) (a' := ?_) #[true, true, true, true, true, true, true, false, false] rfl rfl (any_of HT_.out (by kernel_rfl)) (fun _ _ _ h => h) (Or.inl ⟨by rfl, ?_⟩) ?_ ?_
        rotate_left
        ·intro w'
         go_simp
         with_reducible rfl
        rotate_left
        ·simp only [Act.put, List.setIfInBounds_toArray, List.set_cons_zero, List.set_cons_succ, i64_w, i32_w]
         rfl
        refine one_ (i := 7) (N := some 6) #[true, true, true, true, true, true, true, true, false] rfl rfl (one_of HT_.out (by kernel_rfl)) (by decide) (fun K hK => ?_)
        refine box_step ?hg (N := 6) ?hd (cs := #[.slice none 0 0, .slice none 0 0]) (t := 29) ?hr ?_; (case hd => rfl); (case hg => rfl); (case hr => first | (go_simp; done) | (go_simp; rfl))
        intro gb177 hg w97 hbox hb
        replace HO173 := rb HO173 hb
        replace HO176 := rb HO176 hb
        have BK177 := Aside0.mk (hbox)
        have GW177 := ge HB hg
        have GE177 := ge HB hg
        replace HB := bs HB hb
        have NB167_177 := nl BK167 hg
        have NB177_167 := nr BK167 hg
        replace BK167 := bb BK167 hb
        have NB168_177 := nl BK168 hg
        have NB177_168 := nr BK168 hg
        replace BK168 := bb BK168 hb
        have NB169_177 := nl BK169 hg
        have NB177_169 := nr BK169 hg
        replace BK169 := bb BK169 hb
        clear hb hbox hg
        refine hK.out _ _ ⟨bc0 BK167, bc1 BK167⟩ (fun hHeld => ?_)
        clear hK K
        refine norm_ (a' := ?_) ?_ ?_
        rotate_left
        ·show Act.put _ (some 6) _ = _
         simp only [Act.put, List.setIfInBounds_toArray, List.set_cons_zero, List.set_cons_succ, i64_w, i32_w]
         rfl
        exact norm_ (by simp only [putAll, Act.put, List.setIfInBounds_toArray, List.set_cons_zero, List.set_cons_succ]) (hCont (.slice Ao96 t171.length co96, .slice Ao95 t174.length co95, gb177) _ ⟨hHeld, (by (with_reducible repeat (first | apply Kd.R_alloc | apply Kd.R_drewN | apply Kd.R_drew)); exact Kd.R_mono HO173.out (fun _ hk => hk.2)), (by (with_reducible repeat (first | apply Kd.R_alloc | apply Kd.R_drewN | apply Kd.R_drew)); exact Kd.R_mono HO176.out (fun _ hk => hk.2)), (bk BK167), (bk BK168), (bk BK169), (bk BK177), GW177.out, GE177.out, NB167_177.out, NB177_167.out, NB168_177.out, NB177_168.out, NB169_177.out, NB177_169.out, (bw HB)⟩)
       ·skip
        refine box_step ?hg (N := 6) ?hd (cs := #[.slice none 0 0, .slice none 0 0]) (t := 29) ?hr ?_; (case hd => rfl); (case hg => rfl); (case hr => first | (go_simp; done) | (go_simp; rfl))
        intro gb177 hg w94 hbox hb
        replace HO173 := rb HO173 hb
        have BK177 := Aside0.mk (hbox)
        have GW177 := ge HB hg
        have GE177 := ge HB hg
        replace HB := bs HB hb
        have NB167_177 := nl BK167 hg
        have NB177_167 := nr BK167 hg
        replace BK167 := bb BK167 hb
        have NB168_177 := nl BK168 hg
        have NB177_168 := nr BK168 hg
        replace BK168 := bb BK168 hb
        have NB169_177 := nl BK169 hg
        have NB177_169 := nr BK169 hg
        replace BK169 := bb BK169 hb
        clear hb hbox hg
        refine hK.out _ _ ⟨bc0 BK167, bc1 BK167⟩ (fun hHeld => ?_)
        clear hK K
        refine norm_ (a' := ?_) ?_ ?_
        rotate_left
        ·show Act.put _ (some 6) _ = _
         simp only [Act.put, List.setIfInBounds_toArray, List.set_cons_zero, List.set_cons_succ, i64_w, i32_w]
         rfl
        refine one_ (i := 5) (N := some 15) #[true, true, true, true, true, true, false, true, false] rfl rfl (one_of HT_.out (by kernel_rfl)) (by decide) (fun K hK => ?_)
        refine goes_ Try.func71 (by kernel_rfl) rfl #[.slice A0_1 l0_1.length c0_1] (by rfl) rfl rfl (by (try simp only [List.map_toArray, List.map_cons, List.map_nil]); first | done | rfl | (simp only [List.length_drop, List.length_take]; rfl)) ?_
        with_reducible refine (spec_l1Own.calls _ _ l0_1 t174 _ ?side1 ?side2 A5.out).mono ?_
        (case side1 => exact ck HR0_1 HB)
        (case side2 => exact HC0_1.out)
        rintro e w95 ⟨v175, rfl, ho0, hb⟩
        refine ⟨_, rfl, ?_⟩
        have HO176 := Aside0.mk (Kd.R_lower (Kd.R_new' ho0 (Kd.R_lt (rk HO173))) (below_size (bw HB)))
        replace HO173 := Aside0.mk (Kd.R_elder' (rk HO173) (Kd.R_base ho0) hb)
        replace BK167 := bb BK167 hb
        replace BK168 := bb BK168 hb
        replace BK169 := bb BK169 hb
        replace BK177 := bb BK177 hb
        replace HB := bs HB hb
        (try clear hb)
        (try clear hb2)
        (try clear hk)
        (try clear hi)
        (try clear ho0)
        obtain ⟨Ao96, co96, eo96⟩ := Kd.R_slice HO176.out
        (first | subst eo96 | (injection eo96 with f1_ f2_ f3_; have f4_ := f1_.symm; have f5_ := f3_.symm; clear f1_ f2_ f3_; subst f4_; subst f5_))
        obtain ⟨Ao97, co97, eo97⟩ := Kd.R_slice HO173.out
        (first | subst eo97 | (injection eo97 with f1_ f2_ f3_; have f4_ := f1_.symm; have f5_ := f3_.symm; clear f1_ f2_ f3_; subst f4_; subst f5_))
        refine hK.out _ _ ⟨bc0 BK167, bc1 BK167⟩ (fun hHeld => ?_)
        clear hK K
        refine norm_ (a' := ?_) ?_ ?_
        rotate_left
        ·show Act.put _ (some 15) _ = _
         simp only [Act.put, List.setIfInBounds_toArray, List.set_cons_zero, List.set_cons_succ, i64_w, i32_w]
         rfl
        refine pure_ (i := 6) (N := some 16) (v := ?_) (a' := ?_) #[true, true, true, true, true, true, true, true, false] rfl rfl (any_of HT_.out (by kernel_rfl)) (fun _ _ _ h => h) (Or.inl ⟨by rfl, ?_⟩) ?_ ?_
        rotate_left
        ·intro w'
         go_simp
         with_reducible rfl
        rotate_left
        ·simp only [Act.put, List.setIfInBounds_toArray, List.set_cons_zero, List.set_cons_succ, i64_w, i32_w]
         rfl
        exact norm_ (by simp only [putAll, Act.put, List.setIfInBounds_toArray, List.set_cons_zero, List.set_cons_succ]) (hCont (.slice Ao97 t171.length co97, .slice Ao96 t174.length co96, gb177) _ ⟨hHeld, (by (with_reducible repeat (first | apply Kd.R_alloc | apply Kd.R_drewN | apply Kd.R_drew)); exact Kd.R_mono HO173.out (fun _ hk => hk.2)), (by (with_reducible repeat (first | apply Kd.R_alloc | apply Kd.R_drewN | apply Kd.R_drew)); exact Kd.R_mono HO176.out (fun _ hk => hk.2)), (bk BK167), (bk BK168), (bk BK169), (bk BK177), GW177.out, GE177.out, NB167_177.out, NB177_167.out, NB168_177.out, NB177_168.out, NB169_177.out, NB177_169.out, (bw HB)⟩)
      ·skip
       refine box_step ?hg (N := 6) ?hd (cs := #[.slice none 0 0, .slice none 0 0]) (t := 29) ?hr ?_; (case hd => rfl); (case hg => rfl); (case hr => first | (go_simp; done) | (go_simp; rfl))
       intro gb177 hg w93 hbox hb
       have BK177 := Aside0.mk (hbox)
       have GW177 := ge HB hg
       have GE177 := ge HB hg
       replace HB := bs HB hb
       have NB167_177 := nl BK167 hg
       have NB177_167 := nr BK167 hg
       replace BK167 := bb BK167 hb
       have NB168_177 := nl BK168 hg
       have NB177_168 := nr BK168 hg
       replace BK168 := bb BK168 hb
       have NB169_177 := nl BK169 hg
       have NB177_169 := nr BK169 hg
       replace BK169 := bb BK169 hb
       clear hb hbox hg
       refine hK.out _ _ ⟨bc0 BK167, bc1 BK167⟩ (fun hHeld => ?_)
       clear hK K
       refine norm_ (a' := ?_) ?_ ?_
       rotate_left
       ·show Act.put _ (some 6) _ = _
        simp only [Act.put, List.setIfInBounds_toArray, List.set_cons_zero, List.set_cons_succ, i64_w, i32_w]
        rfl
       refine one_ (i := 2) (N := some 12) #[true, true, true, true, true, false, false, true, false] rfl rfl (one_of HT_.out (by kernel_rfl)) (by decide) (fun K hK => ?_)
       refine goes_ Try.func71 (by kernel_rfl) rfl #[.slice A0_0 l0_0.length c0_0] (by rfl) rfl rfl (by (try simp only [List.map_toArray, List.map_cons, List.map_nil]); first | done | rfl | (simp only [List.length_drop, List.length_take]; rfl)) ?_
       with_reducible refine (spec_l1Own.calls _ _ l0_0 t171 _ ?side1 ?side2 A4.out).mono ?_
       (case side1 => exact ck HR0_0 HB)
       (case side2 => exact HC0_0.out)
       rintro e w94 ⟨v172, rfl, ho0, hb⟩
       refine ⟨_, rfl, ?_⟩
       have HO173 := lo ho0 HB
       replace BK167 := bb BK167 hb
       replace BK168 := bb BK168 hb
       replace BK169 := bb BK169 hb
       replace BK177 := bb BK177 hb
       replace HB := bs HB hb
       (try clear hb)
       (try clear hb2)
       (try clear hk)
       (try clear hi)
       (try clear ho0)
       refine hK.out _ _ ⟨bc0 BK167, bc1 BK167⟩ (fun hHeld => ?_)
       clear hK K
       refine norm_ (a' := ?_) ?_ ?_
       rotate_left
       ·show Act.put _ (some 12) _ = _
        simp only [Act.put, List.setIfInBounds_toArray, List.set_cons_zero, List.set_cons_succ, i64_w, i32_w]
        rfl
       refine one_ (i := 5) (N := some 15) #[true, true, true, true, true, true, false, true, false] rfl rfl (one_of HT_.out (by kernel_rfl)) (by decide) (fun K hK => ?_)
       refine goes_ Try.func71 (by kernel_rfl) rfl #[.slice A0_1 l0_1.length c0_1] (by rfl) rfl rfl (by (try simp only [List.map_toArray, List.map_cons, List.map_nil]); first | done | rfl | (simp only [List.length_drop, List.length_take]; rfl)) ?_
       with_reducible refine (spec_l1Own.calls _ _ l0_1 t174 _ ?side1 ?side2 A5.out).mono ?_
       (case side1 => exact ck HR0_1 HB)
       (case side2 => exact HC0_1.out)
       rintro e w95 ⟨v175, rfl, ho0, hb⟩
       refine ⟨_, rfl, ?_⟩
       have HO176 := Aside0.mk (Kd.R_lower (Kd.R_new' ho0 (Kd.R_lt (rk HO173))) (below_size (bw HB)))
       replace HO173 := Aside0.mk (Kd.R_elder' (rk HO173) (Kd.R_base ho0) hb)
       replace BK167 := bb BK167 hb
       replace BK168 := bb BK168 hb
       replace BK169 := bb BK169 hb
       replace BK177 := bb BK177 hb
       replace HB := bs HB hb
       (try clear hb)
       (try clear hb2)
       (try clear hk)
       (try clear hi)
       (try clear ho0)
       obtain ⟨Ao96, co96, eo96⟩ := Kd.R_slice HO176.out
       (first | subst eo96 | (injection eo96 with f1_ f2_ f3_; have f4_ := f1_.symm; have f5_ := f3_.symm; clear f1_ f2_ f3_; subst f4_; subst f5_))
       obtain ⟨Ao97, co97, eo97⟩ := Kd.R_slice HO173.out
       (first | subst eo97 | (injection eo97 with f1_ f2_ f3_; have f4_ := f1_.symm; have f5_ := f3_.symm; clear f1_ f2_ f3_; subst f4_; subst f5_))
       refine hK.out _ _ ⟨bc0 BK167, bc1 BK167⟩ (fun hHeld => ?_)
       clear hK K
       refine norm_ (a' := ?_) ?_ ?_
       rotate_left
       ·show Act.put _ (some 15) _ = _
        simp only [Act.put, List.setIfInBounds_toArray, List.set_cons_zero, List.set_cons_succ, i64_w, i32_w]
        rfl
       refine pure_ (i := 6) (N := some 16) (v := ?_) (a' := ?_) #[true, true, true, true, true, true, true, true, false] rfl rfl (any_of HT_.out (by kernel_rfl)) (fun _ _ _ h => h) (Or.inl ⟨by rfl, ?_⟩) ?_ ?_
       rotate_left
       ·intro w'
        go_simp
        with_reducible rfl
       rotate_left
       ·simp only [Act.put, List.setIfInBounds_toArray, List.set_cons_zero, List.set_cons_succ, i64_w, i32_w]
        rfl
       exact norm_ (by simp only [putAll, Act.put, List.setIfInBounds_toArray, List.set_cons_zero, List.set_cons_succ]) (hCont (.slice Ao97 t171.length co97, .slice Ao96 t174.length co96, gb177) _ ⟨hHeld, (by (with_reducible repeat (first | apply Kd.R_alloc | apply Kd.R_drewN | apply Kd.R_drew)); exact Kd.R_mono HO173.out (fun _ hk => hk.2)), (by (with_reducible repeat (first | apply Kd.R_alloc | apply Kd.R_drewN | apply Kd.R_drew)); exact Kd.R_mono HO176.out (fun _ hk => hk.2)), (bk BK167), (bk BK168), (bk BK169), (bk BK177), GW177.out, GE177.out, NB167_177.out, NB177_167.out, NB168_177.out, NB177_168.out, NB169_177.out, NB177_169.out, (bw HB)⟩)
     rintro ⟨v172, v175, gb177⟩ w98 ⟨hS_, h0_, h1_, h2_, h3_, h4_, h5_, h6_, h7_, h8_, h9_, h10_, h11_, h12_, h13_, h14_⟩
     have HO173 := Aside0.mk h0_
     have HO176 := Aside0.mk h1_
     replace BK167 := Aside0.mk h2_
     replace BK168 := Aside0.mk h3_
     replace BK169 := Aside0.mk h4_
     have BK177 := Aside0.mk h5_
     have GW177 := GeC.mk h6_
     have GE177 := GeC.mk h7_
     have NB167_177 := NeC.mk h8_
     have NB177_167 := NeC.mk h9_
     have NB168_177 := NeC.mk h10_
     have NB177_168 := NeC.mk h11_
     have NB169_177 := NeC.mk h12_
     have NB177_169 := NeC.mk h13_
     replace HB := Aside0.mk h14_
     clear h0_ h1_ h2_ h3_ h4_ h5_ h6_ h7_ h8_ h9_ h10_ h11_ h12_ h13_ h14_
     have hHeld : w98.cell? ⟨gb167, 0, none⟩ = some (.slice A0_0 l0_0.length c0_0) ∧ w98.cell? ⟨gb167, 1, none⟩ = some (.slice A0_1 l0_1.length c0_1) := hS_
     obtain ⟨Ao99, co99, eo99⟩ := Kd.R_slice HO176.out
     (first | subst eo99 | (injection eo99 with f1_ f2_ f3_; have f4_ := f1_.symm; have f5_ := f3_.symm; clear f1_ f2_ f3_; subst f4_; subst f5_))
     obtain ⟨Ao100, co100, eo100⟩ := Kd.R_slice HO173.out
     (first | subst eo100 | (injection eo100 with f1_ f2_ f3_; have f4_ := f1_.symm; have f5_ := f3_.symm; clear f1_ f2_ f3_; subst f4_; subst f5_))
     refine norm_ (a' := ?_) ?_ ?_
     rotate_left
     ·simp only [putAll, Act.put, List.setIfInBounds_toArray, List.set_cons_zero, List.set_cons_succ]
      rfl
     refine one_ (i := 8) (N := none) #[true, true, true, true, true, true, true, true, true] rfl rfl (one_of HT_.out (by kernel_rfl)) (by decide) (fun K hK => ?_)
     have hs101 : w98.cell? ⟨gb177, 0, none⟩ = some (.slice none 0 0) := bc0 BK177
     have hfs101 := blk_frozen BK177.out 0
     have hns101_0 := NB167_177.out
     have hns101_1 := NB168_177.out
     have hns101_2 := NB169_177.out
     have hms101_0 := NB177_167.out
     have hms101_1 := NB177_168.out
     have hms101_2 := NB177_169.out
     have hs102 : w98.cell? ⟨gb177, 1, none⟩ = some (.slice none 0 0) := bc1 BK177
     have hfs102 := blk_frozen BK177.out 1
     have hns102_0 := NB167_177.out
     have hns102_1 := NB168_177.out
     have hns102_2 := NB169_177.out
     have hms102_0 := NB177_167.out
     have hms102_1 := NB177_168.out
     have hms102_2 := NB177_169.out
     refine skip_ (w1 := ?_) (by rfl) rfl ?_ ?_
     rotate_left
     ·go_simp
      rfl
     refine hK.out _ _ ⟨((cell_far (p := ⟨gb177, _, none⟩) NB167_177.out _).trans (((cell_far (p := ⟨gb177, _, none⟩) NB167_177.out _).trans (hHeld.1)))), ((cell_far (p := ⟨gb177, _, none⟩) NB167_177.out _).trans (((cell_far (p := ⟨gb177, _, none⟩) NB167_177.out _).trans (hHeld.2))))⟩ (fun hHeld => ?_)
     clear hK K
     refine done_ (done_of HT_.out (by kernel_rfl)) ?_
     have n0_ : Aside0 (Kd.R (Kd.int .i64) 3 ((w98.setCell ⟨gb177, 0, none⟩ (.slice Ao100 t171.length co100)).setCell ⟨gb177, 1, none⟩ (.slice Ao99 t174.length co99)) w.heap.size (fun k_ => some k_ ≠ (.slice Ao99 t174.length co99 : Value).ownBlock) (.slice Ao100 t171.length co100) t171) := ⟨by (with_reducible repeat (first | apply Kd.R_alloc | apply Kd.R_drewN | apply Kd.R_drew)); exact Kd.R_mono (Kd.R_far (p := ⟨gb177, 1, none⟩) (Kd.R_far (p := ⟨gb177, 0, none⟩) (Kd.R_types HO173.out BK177.out (by decide)) (fun _ hk => hk.2) (.slice Ao100 t171.length co100)) (fun _ hk => hk.2) (.slice Ao99 t174.length co99)) (fun _ hk => hk.1)⟩
     have n1_ : Aside0 (Kd.R (Kd.int .i64) 3 ((w98.setCell ⟨gb177, 0, none⟩ (.slice Ao100 t171.length co100)).setCell ⟨gb177, 1, none⟩ (.slice Ao99 t174.length co99)) w.heap.size (fun k_ => some k_ ≠ (.slice Ao100 t171.length co100 : Value).ownBlock) (.slice Ao99 t174.length co99) t174) := ⟨by (with_reducible repeat (first | apply Kd.R_alloc | apply Kd.R_drewN | apply Kd.R_drew)); exact Kd.R_mono (Kd.R_far (p := ⟨gb177, 1, none⟩) (Kd.R_far (p := ⟨gb177, 0, none⟩) (Kd.R_types HO176.out BK177.out (by decide)) (fun _ hk => hk.2) (.slice Ao100 t171.length co100)) (fun _ hk => hk.2) (.slice Ao99 t174.length co99)) (fun _ hk => hk.1)⟩
     have n2_ : Aside0 (((w98.setCell ⟨gb177, 0, none⟩ (.slice Ao100 t171.length co100)).setCell ⟨gb177, 1, none⟩ (.slice Ao99 t174.length co99)).heap[gb167]? = some (.cells #[.slice A0_0 l0_0.length c0_0, .slice A0_1 l0_1.length c0_1] 29 (0, 0))) := ⟨bk BK167⟩
     have n3_ : Aside0 (((w98.setCell ⟨gb177, 0, none⟩ (.slice Ao100 t171.length co100)).setCell ⟨gb177, 1, none⟩ (.slice Ao99 t174.length co99)).heap[gb168]? = some (.cells #[.int .i64 a1_0, .int .i64 a1_1] 49 (0, 0))) := ⟨bk BK168⟩
     have n4_ : Aside0 (((w98.setCell ⟨gb177, 0, none⟩ (.slice Ao100 t171.length co100)).setCell ⟨gb177, 1, none⟩ (.slice Ao99 t174.length co99)).heap[gb169]? = some (.cells #[.slice none 0 0, .slice none 0 0] 29 (0, 0))) := ⟨bk BK169⟩
     have n5_ : Aside0 (((w98.setCell ⟨gb177, 0, none⟩ (.slice Ao100 t171.length co100)).setCell ⟨gb177, 1, none⟩ (.slice Ao99 t174.length co99)).heap[gb177]? = some (.cells #[.slice Ao100 t171.length co100, .slice Ao99 t174.length co99] 29 (0, 0))) := ⟨by (with_reducible repeat (first | refine blk_drewN ?_ _ | refine blk_drew ?_ | refine blk_alloc ?_ _)); refine blk_put (cs := #[.slice Ao100 t171.length co100, .slice none 0 0]) ?_ 1 _ rfl; (with_reducible repeat (first | refine blk_drewN ?_ _ | refine blk_drew ?_ | refine blk_alloc ?_ _)); refine blk_put (cs := #[.slice none 0 0, .slice none 0 0]) ?_ 0 _ rfl; exact bk BK177⟩
     have n6_ : Aside0 (Below w.heap.size w ((w98.setCell ⟨gb177, 0, none⟩ (.slice Ao100 t171.length co100)).setCell ⟨gb177, 1, none⟩ (.slice Ao99 t174.length co99))) := ⟨bw HB⟩
     (try clear HO173)
     (try clear HO176)
     (try clear BK167)
     (try clear BK168)
     (try clear BK169)
     (try clear BK177)
     (try clear HB)
     generalize ((w98.setCell ⟨gb177, 0, none⟩ (.slice Ao100 t171.length co100)).setCell ⟨gb177, 1, none⟩ (.slice Ao99 t174.length co99)) = w103 at n0_ n1_ n2_ n3_ n4_ n5_ n6_ ⊢
     have HO173 := n0_
     have HO176 := n1_
     have BK167 := n2_
     have BK168 := n3_
     have BK169 := n4_
     have BK177 := n5_
     have HB := n6_
     clear n0_ n1_ n2_ n3_ n4_ n5_ n6_
     have hnb104 := NB168_177.out
     have hnc104 := NB177_168.out
     have hcz105_0 := bc0 BK168
     have hcz105_1 := bc1 BK168
     have hfz105_0 := blk_frozen BK168.out 0
     have hfz105_1 := blk_frozen BK168.out 1
     have hnb106 := NB177_167.out
     have hnc106 := NB167_177.out
     have hnb107 := NB177_169.out
     have hnc107 := NB169_177.out
     have hcz108_0 := bc0 BK177
     have hcz108_1 := bc1 BK177
     have hfz108_0 := blk_frozen BK177.out 0
     have hfz108_1 := blk_frozen BK177.out 1
     have p182 : 0 ≤ (a1_1 : Int) := of_decide_eq_true (by first | (with_reducible assumption) | assumption)
     have q182 : a1_1 < (t174.length : Int) := of_decide_eq_true (by first | (with_reducible assumption) | assumption)
     obtain ⟨ad182, e182, hx182_0⟩ := Kd.at_int (Kd.R_reads' HO176.out).2.2 a1_1 p182 q182
     cases e182
     replace p182 := eq_true p182
     replace q182 := eq_true q182
     have p82 : 0 ≤ (a1_1 : Int) := of_decide_eq_true (by first | (with_reducible assumption) | assumption)
     have q82 : (a1_1 : Int) < ((t174.length : Int) : Int) := of_decide_eq_true (by first | (with_reducible assumption) | assumption)
     obtain ⟨go82, co82, eo82, gb82, gl82, cl82, HG82⟩ := Kd.R_form HO176.out (by omega)
     (first | cases eo82 | (injection eo82 with ea_ en_ ec_; (first | subst ea_ | (injection ea_ with ea_; subst ea_)); subst ec_; clear en_))
     have GB82 := Aside0.mk gb82
     have GG82 := Aside0.mk HG82
     clear gb82 gl82 HG82
     (first | simp only [add_plain] at hx182_0 | skip)
     obtain ⟨hx82_0, hf82_0⟩ := Kd.R_celln 0 HO176.out (a1_1 : Int) p82 q82
     replace p82 := eq_true p82
     replace q82 := eq_true q82
     obtain ⟨hy109_, hz109_⟩ := Kd.R_celln 0 HO176.out (a1_1 : Int) (of_decide_eq_true (by first | (with_reducible assumption) | assumption)) (of_decide_eq_true (by first | (with_reducible assumption) | assumption))
     have HP109 := Kd.R_putg HO176.out (a1_1 : Int) (wrap64 ((rd t174 a1_1) + t170))
     try go_wp2_with (first | ((with_reducible refine gate_store (t := 3) (p := 40) rfl ?_); refine store_event (t := 3) (p := 40) (v := ?vo_w110) (w1 := (w103.setCell ⟨go82, (a1_1 : Int).toNat, none⟩ (.int .i64 (wrap64 ((rd t174 a1_1) + t170))))) ?hg ?ho ?hn ?hr ?_; (case ho => rfl); (case hg => rfl); (case hn => rfl); (case hr => first | (go_simp; done) | (go_simp; rfl)); intro w110 hw; have hg : w103.grownBy w110 (some go82) := (by rw [hw]; exact HP109.2); have hp_ : Kd.R (Kd.int .i64) 3 w110 w.heap.size (fun k_ => some k_ ≠ (.slice Ao100 t171.length co100 : Value).ownBlock) (.slice (some ⟨go82, 0, none⟩) t174.length co99) y183 := (by rw [hw, Ny183.out]; exact HP109.1); clear HP109; replace BK167 := Aside0.mk (blk_grown (g := gb167) (o := .cells #[.slice A0_0 l0_0.length c0_0, .slice A0_1 l0_1.length c0_1] 29 (0, 0)) (bk BK167) hg (Kd.R_ne HO176.out BK167.out (by decide))); replace BK168 := Aside0.mk (blk_grown (g := gb168) (o := .cells #[.int .i64 a1_0, .int .i64 a1_1] 49 (0, 0)) (bk BK168) hg (Kd.R_ne HO176.out BK168.out (by decide))); replace BK169 := Aside0.mk (blk_grown (g := gb169) (o := .cells #[.slice none 0 0, .slice none 0 0] 29 (0, 0)) (bk BK169) hg (Kd.R_ne HO176.out BK169.out (by decide))); replace HO173 := Aside0.mk (Kd.R_after (v := (.slice (some ⟨go82, 0, none⟩) t174.length co99)) (v1 := (.slice (some ⟨go82, 0, none⟩) t174.length co99)) (ok := (fun _ => True)) (by (with_reducible repeat (first | apply Kd.R_alloc | apply Kd.R_drewN | apply Kd.R_drew)); exact Kd.R_mono HO173.out (fun _ hk => ⟨trivial, hk⟩)) hg (.inl rfl)); replace BK177 := Aside0.mk (blk_grown (g := gb177) (o := .cells #[.slice Ao100 t171.length co100, .slice (some ⟨go82, 0, none⟩) t174.length co99] 29 (0, 0)) (bk BK177) hg (Kd.R_ne HO176.out BK177.out (by decide))); replace HO176 := Aside0.mk (hp_); replace HB := Aside0.mk ((by rw [hw]; exact below_set (HB.out) GB82.out : Below w.heap.size w w110)); clear hg hw hp_; have hcz111_0 := bc0 BK177; have hcz111_1 := bc1 BK177; have hfz111_0 := blk_frozen BK177.out 0; have hfz111_1 := blk_frozen BK177.out 1; have hcz112_0 := bc0 BK169; have hcz112_1 := bc1 BK169; have hfz112_0 := blk_frozen BK169.out 0; have hfz112_1 := blk_frozen BK169.out 1))
     refine bodyPost_ret (results_cell_row rfl _ _ gb169 29 #[.slice Ao100 t171.length co100, .slice (some ⟨go82, 0, none⟩) t174.length co99] (0, 0) _ rfl (by (with_reducible repeat (first | refine blk_drewN ?_ _ | refine blk_drew ?_ | refine blk_alloc ?_ _)); refine blk_put (cs := #[.slice Ao100 t171.length co100, .slice none 0 0]) ?_ 1 _ rfl; (with_reducible repeat (first | refine blk_drewN ?_ _ | refine blk_drew ?_ | refine blk_alloc ?_ _)); refine blk_put (cs := #[.slice none 0 0, .slice none 0 0]) ?_ 0 _ rfl; exact bk BK169) Try.underlying29 rfl (by kernel_rfl)) rfl ?_
     exact ⟨_, _, by first | rfl | (simp [errW_none, errW_some] <;> rfl) | (simp [*, errW_none, errW_some] <;> rfl), by (with_reducible repeat (first | apply Kd.R_alloc | apply Kd.R_drewN | apply Kd.R_drew)); exact Kd.R_mono (Kd.R_far (p := ⟨gb169, 1, none⟩) (Kd.R_far (p := ⟨gb169, 0, none⟩) (Kd.R_types HO173.out BK169.out (by decide)) (fun _ hk => hk.2) (.slice Ao100 t171.length co100)) (fun _ hk => hk.2) (.slice (some ⟨go82, 0, none⟩) t174.length co99)) (fun _ hk => hk.1.2), by (with_reducible repeat (first | apply Kd.R_alloc | apply Kd.R_drewN | apply Kd.R_drew)); exact Kd.R_mono (Kd.R_far (p := ⟨gb169, 1, none⟩) (Kd.R_far (p := ⟨gb169, 0, none⟩) (Kd.R_types HO176.out BK169.out (by decide)) (fun _ hk => hk.2) (.slice Ao100 t171.length co100)) (fun _ hk => hk.2) (.slice (some ⟨go82, 0, none⟩) t174.length co99)) (fun _ hk => hk.1), bw HB⟩
    ·rw [if_neg c81] at H
     exact absurd H (by simp)
   ·rw [if_neg c80] at H
    exact absurd H (by simp)
  ·rw [if_neg c79] at H
   have c79b0 : decide (0 ≤ a1_1) = false := decide_eq_false c79
   clear c79
   simp only [Option.some.injEq, Prod.mk.injEq] at H
   obtain ⟨rfl, rfl⟩ := H
   go_enter Try.func55, Try.ntmps55
   try go_wp2_with (first | ((with_reducible refine gate_dst (N := 2) rfl ?_); refine bx 2 #[.slice A0_0 l0_0.length c0_0, .slice A0_1 l0_1.length c0_1] 29 ?_; intro gb167 hg w113 hbox hb; have BK167 := Aside0.mk (hbox); have GW167 := ge HB hg; have GE167 := ge HB hg; replace HB := bs HB hb; clear hb hbox hg) | ((with_reducible refine gate_dst (N := 3) rfl ?_); refine bx 3 #[.int .i64 a1_0, .int .i64 a1_1] 49 ?_; intro gb168 hg w114 hbox hb; have BK168 := Aside0.mk (hbox); have GW168 := ge HB hg; have GE168 := ge HB hg; replace HB := bs HB hb; have NB167_168 := nl BK167 hg; have NB168_167 := nr BK167 hg; replace BK167 := bb BK167 hb; clear hb hbox hg) | ((with_reducible refine gate_dst (N := 4) rfl ?_); refine bx 4 #[.slice none 0 0, .slice none 0 0] 29 ?_; intro gb169 hg w115 hbox hb; have BK169 := Aside0.mk (hbox); have GW169 := ge HB hg; have GE169 := ge HB hg; replace HB := bs HB hb; have NB167_169 := nl BK167 hg; have NB169_167 := nr BK167 hg; replace BK167 := bb BK167 hb; have NB168_169 := nl BK168 hg; have NB169_168 := nr BK168 hg; replace BK168 := bb BK168 hb; clear hb hbox hg; have hnb116 := NB167_168.out; have hnc116 := NB168_167.out; have hnb117 := NB167_169.out; have hnc117 := NB169_167.out; have hcz118_0 := bc0 BK167; have hcz118_1 := bc1 BK167; have hfz118_0 := blk_frozen BK167.out 0; have hfz118_1 := blk_frozen BK167.out 1; have hnb119 := NB168_169.out; have hnc119 := NB169_168.out; have hcz120_0 := bc0 BK168; have hcz120_1 := bc1 BK168; have hfz120_0 := blk_frozen BK168.out 0; have hfz120_1 := blk_frozen BK168.out 1) | ((with_reducible refine gate_callee (f := 78) rfl ?_); refine gl 9 Try.func78 #[.agg #[.slice A0_0 l0_0.length c0_0, .slice A0_1 l0_1.length c0_1], .agg #[.int .i64 a1_0, .int .i64 a1_1]] ?_; (with_reducible refine (spec_veAmount.calls _ _ l0_0 _ _ l0_1 a1_0 a1_1 t170 _ ?side1 ?side2 ?side3 ?side4 A3.out).mono ?_); (case side1 => exact ck HR0_0 HB); (case side2 => exact HC0_0.out); (case side3 => exact ck HR0_1 HB); (case side4 => exact HC0_1.out); rintro e w121 ⟨rfl, hb⟩; refine ⟨_, rfl, ?_⟩; replace BK167 := bb BK167 hb; replace BK168 := bb BK168 hb; replace BK169 := bb BK169 hb; replace HB := bs HB hb; (try clear hb)))
   replace BK167 := Aside0.mk (blk_drew BK167.out)
   replace BK168 := Aside0.mk (blk_drew BK168.out)
   replace BK169 := Aside0.mk (blk_drew BK169.out)
   replace HB := Aside0.mk (below_drew1 HB.out)
   refine start_ (n := 9) (S := fun w' => w'.cell? ⟨gb167, 0, none⟩ = some (.slice A0_0 l0_0.length c0_0) ∧ w'.cell? ⟨gb167, 1, none⟩ = some (.slice A0_1 l0_1.length c0_1)) (ds := []) #[false, false, false, false, false, false, false, false, false] (by kernel_rfl) rfl rfl ⟨bc0 BK167, bc1 BK167⟩ (fun hHeld => ?_); refine with_tabW spec_veMake.tab2 spec_veMake.bits2 (fun HT_ HW_ => ?_)
   generalize w121.drew = w122 at BK167 BK168 BK169 HB hHeld ⊢
   refine pure_ (i := 0) (N := some 10) (v := ?_) (a' := ?_) #[true, false, false, false, false, false, false, false, false] rfl rfl (any_of HT_.out (by kernel_rfl)) (fun _ _ _ h => h) (Or.inl ⟨by rfl, ?_⟩) ?_ ?_
   rotate_left
   ·intro w'
    go_simp
    with_reducible rfl
   rotate_left
   ·simp only [Act.put, List.setIfInBounds_toArray, List.set_cons_zero, List.set_cons_succ, i64_w, i32_w]
    rfl
   refine pure_ (i := 3) (N := some 13) (v := ?_) (a' := ?_) #[true, false, false, true, false, false, false, false, false] rfl rfl (any_of HT_.out (by kernel_rfl)) (fun _ _ _ h => h) (Or.inl ⟨by rfl, ?_⟩) ?_ ?_
   rotate_left
   ·intro w'
    go_simp
    with_reducible rfl
   rotate_left
   ·simp only [Act.put, List.setIfInBounds_toArray, List.set_cons_zero, List.set_cons_succ, i64_w, i32_w]
    rfl
   refine take_ (i := 1) (N := some 11) (v := ?_) (a' := ?_) #[true, true, false, true, false, false, false, false, false] rfl rfl (take_ofW HT_.out HW_.out (by kernel_rfl)) (fun _ _ _ h => h) (Or.inl ⟨by rfl, ?_⟩) hHeld ?_ ?_
   rotate_left
   ·rintro w' ⟨s0, s1⟩
    go_simp
    with_reducible rfl
   rotate_left
   ·simp only [Act.put, List.setIfInBounds_toArray, List.set_cons_zero, List.set_cons_succ, i64_w, i32_w]
    rfl
   refine take_ (i := 4) (N := some 14) (v := ?_) (a' := ?_) #[true, true, false, true, true, false, false, false, false] rfl rfl (take_ofW HT_.out HW_.out (by kernel_rfl)) (fun _ _ _ h => h) (Or.inl ⟨by rfl, ?_⟩) hHeld ?_ ?_
   rotate_left
   ·rintro w' ⟨s0, s1⟩
    go_simp
    with_reducible rfl
   rotate_left
   ·simp only [Act.put, List.setIfInBounds_toArray, List.set_cons_zero, List.set_cons_succ, i64_w, i32_w]
    rfl
   refine join_ (σ := Value × Value × Nat) 1 #[true, true, true, true, true, true, true, true, false] (fun s_ => [(12, s_.1), (15, s_.2.1), (6, .pointer (some ⟨s_.2.2, 0, none⟩)), (16, .agg #[s_.1, s_.2.1])]) (fun s_ w' => (w'.cell? ⟨gb167, 0, none⟩ = some (.slice A0_0 l0_0.length c0_0) ∧ w'.cell? ⟨gb167, 1, none⟩ = some (.slice A0_1 l0_1.length c0_1)) ∧ (Kd.R (Kd.int .i64) 3 w' w.heap.size (fun k_ => some k_ ≠ (s_.2.1 : Value).ownBlock) s_.1 t171) ∧ (Kd.R (Kd.int .i64) 3 w' w.heap.size (fun k_ => some k_ ≠ (s_.1 : Value).ownBlock) s_.2.1 t174) ∧ (w'.heap[gb167]? = some (.cells #[.slice A0_0 l0_0.length c0_0, .slice A0_1 l0_1.length c0_1] 29 (0, 0))) ∧ (w'.heap[gb168]? = some (.cells #[.int .i64 a1_0, .int .i64 a1_1] 49 (0, 0))) ∧ (w'.heap[gb169]? = some (.cells #[.slice none 0 0, .slice none 0 0] 29 (0, 0))) ∧ (w'.heap[s_.2.2]? = some (.cells #[.slice none 0 0, .slice none 0 0] 29 (0, 0))) ∧ (w.heap.size ≤ s_.2.2) ∧ (w.heap.size ≤ s_.2.2) ∧ (gb167 ≠ s_.2.2) ∧ (s_.2.2 ≠ gb167) ∧ (gb168 ≠ s_.2.2) ∧ (s_.2.2 ≠ gb168) ∧ (gb169 ≠ s_.2.2) ∧ (s_.2.2 ≠ gb169) ∧ (Below w.heap.size w w')) ?_ ?_
   rotate_left
   ·intro hCont
    refine two_ (i := 2) (j := 7) (Ni := some 12) (Nj := some 6) #[true, true, true, true, true, false, false, false, false] #[true, true, false, true, true, false, false, true, false] rfl rfl rfl rfl (two_of HT_.out (by kernel_rfl)) (by decide) (by decide) (fun K hK => ?_) (fun K hK => ?_)
    ·skip
     refine goes_ Try.func71 (by kernel_rfl) rfl #[.slice A0_0 l0_0.length c0_0] (by rfl) rfl rfl (by (try simp only [List.map_toArray, List.map_cons, List.map_nil]); first | done | rfl | (simp only [List.length_drop, List.length_take]; rfl)) ?_
     with_reducible refine (spec_l1Own.calls _ _ l0_0 t171 _ ?side1 ?side2 A4.out).mono ?_
     (case side1 => exact ck HR0_0 HB)
     (case side2 => exact HC0_0.out)
     rintro e w123 ⟨v172, rfl, ho0, hb⟩
     refine ⟨_, rfl, ?_⟩
     have HO173 := lo ho0 HB
     replace BK167 := bb BK167 hb
     replace BK168 := bb BK168 hb
     replace BK169 := bb BK169 hb
     replace HB := bs HB hb
     (try clear hb)
     (try clear hb2)
     (try clear hk)
     (try clear hi)
     (try clear ho0)
     refine hK.out _ _ ⟨bc0 BK167, bc1 BK167⟩ (fun hHeld => ?_)
     clear hK K
     refine norm_ (a' := ?_) ?_ ?_
     rotate_left
     ·show Act.put _ (some 12) _ = _
      simp only [Act.put, List.setIfInBounds_toArray, List.set_cons_zero, List.set_cons_succ, i64_w, i32_w]
      rfl
     refine two_ (i := 5) (j := 7) (Ni := some 15) (Nj := some 6) #[true, true, true, true, true, true, false, false, false] #[true, true, true, true, true, false, false, true, false] rfl rfl rfl rfl (two_of HT_.out (by kernel_rfl)) (by decide) (by decide) (fun K hK => ?_) (fun K hK => ?_)
     ·skip
      refine goes_ Try.func71 (by kernel_rfl) rfl #[.slice A0_1 l0_1.length c0_1] (by rfl) rfl rfl (by (try simp only [List.map_toArray, List.map_cons, List.map_nil]); first | done | rfl | (simp only [List.length_drop, List.length_take]; rfl)) ?_
      with_reducible refine (spec_l1Own.calls _ _ l0_1 t174 _ ?side1 ?side2 A5.out).mono ?_
      (case side1 => exact ck HR0_1 HB)
      (case side2 => exact HC0_1.out)
      rintro e w124 ⟨v175, rfl, ho0, hb⟩
      refine ⟨_, rfl, ?_⟩
      have HO176 := Aside0.mk (Kd.R_lower (Kd.R_new' ho0 (Kd.R_lt (rk HO173))) (below_size (bw HB)))
      replace HO173 := Aside0.mk (Kd.R_elder' (rk HO173) (Kd.R_base ho0) hb)
      replace BK167 := bb BK167 hb
      replace BK168 := bb BK168 hb
      replace BK169 := bb BK169 hb
      replace HB := bs HB hb
      (try clear hb)
      (try clear hb2)
      (try clear hk)
      (try clear hi)
      (try clear ho0)
      obtain ⟨Ao125, co125, eo125⟩ := Kd.R_slice HO176.out
      (first | subst eo125 | (injection eo125 with f1_ f2_ f3_; have f4_ := f1_.symm; have f5_ := f3_.symm; clear f1_ f2_ f3_; subst f4_; subst f5_))
      obtain ⟨Ao126, co126, eo126⟩ := Kd.R_slice HO173.out
      (first | subst eo126 | (injection eo126 with f1_ f2_ f3_; have f4_ := f1_.symm; have f5_ := f3_.symm; clear f1_ f2_ f3_; subst f4_; subst f5_))
      refine hK.out _ _ ⟨bc0 BK167, bc1 BK167⟩ (fun hHeld => ?_)
      clear hK K
      refine norm_ (a' := ?_) ?_ ?_
      rotate_left
      ·show Act.put _ (some 15) _ = _
       simp only [Act.put, List.setIfInBounds_toArray, List.set_cons_zero, List.set_cons_succ, i64_w, i32_w]
       rfl
      refine pure_ (i := 6) (N := some 16) (v := ?_) (a' := ?_) #[true, true, true, true, true, true, true, false, false] rfl rfl (any_of HT_.out (by kernel_rfl)) (fun _ _ _ h => h) (Or.inl ⟨by rfl, ?_⟩) ?_ ?_
      rotate_left
      ·intro w'
       go_simp
       with_reducible rfl
      rotate_left
      ·simp only [Act.put, List.setIfInBounds_toArray, List.set_cons_zero, List.set_cons_succ, i64_w, i32_w]
       rfl
      refine one_ (i := 7) (N := some 6) #[true, true, true, true, true, true, true, true, false] rfl rfl (one_of HT_.out (by kernel_rfl)) (by decide) (fun K hK => ?_)
      refine box_step ?hg (N := 6) ?hd (cs := #[.slice none 0 0, .slice none 0 0]) (t := 29) ?hr ?_; (case hd => rfl); (case hg => rfl); (case hr => first | (go_simp; done) | (go_simp; rfl))
      intro gb177 hg w127 hbox hb
      replace HO173 := rb HO173 hb
      replace HO176 := rb HO176 hb
      have BK177 := Aside0.mk (hbox)
      have GW177 := ge HB hg
      have GE177 := ge HB hg
      replace HB := bs HB hb
      have NB167_177 := nl BK167 hg
      have NB177_167 := nr BK167 hg
      replace BK167 := bb BK167 hb
      have NB168_177 := nl BK168 hg
      have NB177_168 := nr BK168 hg
      replace BK168 := bb BK168 hb
      have NB169_177 := nl BK169 hg
      have NB177_169 := nr BK169 hg
      replace BK169 := bb BK169 hb
      clear hb hbox hg
      refine hK.out _ _ ⟨bc0 BK167, bc1 BK167⟩ (fun hHeld => ?_)
      clear hK K
      refine norm_ (a' := ?_) ?_ ?_
      rotate_left
      ·show Act.put _ (some 6) _ = _
       simp only [Act.put, List.setIfInBounds_toArray, List.set_cons_zero, List.set_cons_succ, i64_w, i32_w]
       rfl
      exact norm_ (by simp only [putAll, Act.put, List.setIfInBounds_toArray, List.set_cons_zero, List.set_cons_succ]) (hCont (.slice Ao126 t171.length co126, .slice Ao125 t174.length co125, gb177) _ ⟨hHeld, (by (with_reducible repeat (first | apply Kd.R_alloc | apply Kd.R_drewN | apply Kd.R_drew)); exact Kd.R_mono HO173.out (fun _ hk => hk.2)), (by (with_reducible repeat (first | apply Kd.R_alloc | apply Kd.R_drewN | apply Kd.R_drew)); exact Kd.R_mono HO176.out (fun _ hk => hk.2)), (bk BK167), (bk BK168), (bk BK169), (bk BK177), GW177.out, GE177.out, NB167_177.out, NB177_167.out, NB168_177.out, NB177_168.out, NB169_177.out, NB177_169.out, (bw HB)⟩)
     ·skip
      refine box_step ?hg (N := 6) ?hd (cs := #[.slice none 0 0, .slice none 0 0]) (t := 29) ?hr ?_; (case hd => rfl); (case hg => rfl); (case hr => first | (go_simp; done) | (go_simp; rfl))
      intro gb177 hg w124 hbox hb
      replace HO173 := rb HO173 hb
      have BK177 := Aside0.mk (hbox)
      have GW177 := ge HB hg
      have GE177 := ge HB hg
      replace HB := bs HB hb
      have NB167_177 := nl BK167 hg
      have NB177_167 := nr BK167 hg
      replace BK167 := bb BK167 hb
      have NB168_177 := nl BK168 hg
      have NB177_168 := nr BK168 hg
      replace BK168 := bb BK168 hb
      have NB169_177 := nl BK169 hg
      have NB177_169 := nr BK169 hg
      replace BK169 := bb BK169 hb
      clear hb hbox hg
      refine hK.out _ _ ⟨bc0 BK167, bc1 BK167⟩ (fun hHeld => ?_)
      clear hK K
      refine norm_ (a' := ?_) ?_ ?_
      rotate_left
      ·show Act.put _ (some 6) _ = _
       simp only [Act.put, List.setIfInBounds_toArray, List.set_cons_zero, List.set_cons_succ, i64_w, i32_w]
       rfl
      refine one_ (i := 5) (N := some 15) #[true, true, true, true, true, true, false, true, false] rfl rfl (one_of HT_.out (by kernel_rfl)) (by decide) (fun K hK => ?_)
      refine goes_ Try.func71 (by kernel_rfl) rfl #[.slice A0_1 l0_1.length c0_1] (by rfl) rfl rfl (by (try simp only [List.map_toArray, List.map_cons, List.map_nil]); first | done | rfl | (simp only [List.length_drop, List.length_take]; rfl)) ?_
      with_reducible refine (spec_l1Own.calls _ _ l0_1 t174 _ ?side1 ?side2 A5.out).mono ?_
      (case side1 => exact ck HR0_1 HB)
      (case side2 => exact HC0_1.out)
      rintro e w125 ⟨v175, rfl, ho0, hb⟩
      refine ⟨_, rfl, ?_⟩
      have HO176 := Aside0.mk (Kd.R_lower (Kd.R_new' ho0 (Kd.R_lt (rk HO173))) (below_size (bw HB)))
      replace HO173 := Aside0.mk (Kd.R_elder' (rk HO173) (Kd.R_base ho0) hb)
      replace BK167 := bb BK167 hb
      replace BK168 := bb BK168 hb
      replace BK169 := bb BK169 hb
      replace BK177 := bb BK177 hb
      replace HB := bs HB hb
      (try clear hb)
      (try clear hb2)
      (try clear hk)
      (try clear hi)
      (try clear ho0)
      obtain ⟨Ao126, co126, eo126⟩ := Kd.R_slice HO176.out
      (first | subst eo126 | (injection eo126 with f1_ f2_ f3_; have f4_ := f1_.symm; have f5_ := f3_.symm; clear f1_ f2_ f3_; subst f4_; subst f5_))
      obtain ⟨Ao127, co127, eo127⟩ := Kd.R_slice HO173.out
      (first | subst eo127 | (injection eo127 with f1_ f2_ f3_; have f4_ := f1_.symm; have f5_ := f3_.symm; clear f1_ f2_ f3_; subst f4_; subst f5_))
      refine hK.out _ _ ⟨bc0 BK167, bc1 BK167⟩ (fun hHeld => ?_)
      clear hK K
      refine norm_ (a' := ?_) ?_ ?_
      rotate_left
      ·show Act.put _ (some 15) _ = _
       simp only [Act.put, List.setIfInBounds_toArray, List.set_cons_zero, List.set_cons_succ, i64_w, i32_w]
       rfl
      refine pure_ (i := 6) (N := some 16) (v := ?_) (a' := ?_) #[true, true, true, true, true, true, true, true, false] rfl rfl (any_of HT_.out (by kernel_rfl)) (fun _ _ _ h => h) (Or.inl ⟨by rfl, ?_⟩) ?_ ?_
      rotate_left
      ·intro w'
       go_simp
       with_reducible rfl
      rotate_left
      ·simp only [Act.put, List.setIfInBounds_toArray, List.set_cons_zero, List.set_cons_succ, i64_w, i32_w]
       rfl
      exact norm_ (by simp only [putAll, Act.put, List.setIfInBounds_toArray, List.set_cons_zero, List.set_cons_succ]) (hCont (.slice Ao127 t171.length co127, .slice Ao126 t174.length co126, gb177) _ ⟨hHeld, (by (with_reducible repeat (first | apply Kd.R_alloc | apply Kd.R_drewN | apply Kd.R_drew)); exact Kd.R_mono HO173.out (fun _ hk => hk.2)), (by (with_reducible repeat (first | apply Kd.R_alloc | apply Kd.R_drewN | apply Kd.R_drew)); exact Kd.R_mono HO176.out (fun _ hk => hk.2)), (bk BK167), (bk BK168), (bk BK169), (bk BK177), GW177.out, GE177.out, NB167_177.out, NB177_167.out, NB168_177.out, NB177_168.out, NB169_177.out, NB177_169.out, (bw HB)⟩)
    ·skip
     refine box_step ?hg (N := 6) ?hd (cs := #[.slice none 0 0, .slice none 0 0]) (t := 29) ?hr ?_; (case hd => rfl); (case hg => rfl); (case hr => first | (go_simp; done) | (go_simp; rfl))
     intro gb177 hg w123 hbox hb
     have BK177 := Aside0.mk (hbox)
     have GW177 := ge HB hg
     have GE177 := ge HB hg
     replace HB := bs HB hb
     have NB167_177 := nl BK167 hg
     have NB177_167 := nr BK167 hg
     replace BK167 := bb BK167 hb
     have NB168_177 := nl BK168 hg
     have NB177_168 := nr BK168 hg
     replace BK168 := bb BK168 hb
     have NB169_177 := nl BK169 hg
     have NB177_169 := nr BK169 hg
     replace BK169 := bb BK169 hb
     clear hb hbox hg
     refine hK.out _ _ ⟨bc0 BK167, bc1 BK167⟩ (fun hHeld => ?_)
     clear hK K
     refine norm_ (a' := ?_) ?_ ?_
     rotate_left
     ·show Act.put _ (some 6) _ = _
      simp only [Act.put, List.setIfInBounds_toArray, List.set_cons_zero, List.set_cons_succ, i64_w, i32_w]
      rfl
     refine one_ (i := 2) (N := some 12) #[true, true, true, true, true, false, false, true, false] rfl rfl (one_of HT_.out (by kernel_rfl)) (by decide) (fun K hK => ?_)
     refine goes_ Try.func71 (by kernel_rfl) rfl #[.slice A0_0 l0_0.length c0_0] (by rfl) rfl rfl (by (try simp only [List.map_toArray, List.map_cons, List.map_nil]); first | done | rfl | (simp only [List.length_drop, List.length_take]; rfl)) ?_
     with_reducible refine (spec_l1Own.calls _ _ l0_0 t171 _ ?side1 ?side2 A4.out).mono ?_
     (case side1 => exact ck HR0_0 HB)
     (case side2 => exact HC0_0.out)
     rintro e w124 ⟨v172, rfl, ho0, hb⟩
     refine ⟨_, rfl, ?_⟩
     have HO173 := lo ho0 HB
     replace BK167 := bb BK167 hb
     replace BK168 := bb BK168 hb
     replace BK169 := bb BK169 hb
     replace BK177 := bb BK177 hb
     replace HB := bs HB hb
     (try clear hb)
     (try clear hb2)
     (try clear hk)
     (try clear hi)
     (try clear ho0)
     refine hK.out _ _ ⟨bc0 BK167, bc1 BK167⟩ (fun hHeld => ?_)
     clear hK K
     refine norm_ (a' := ?_) ?_ ?_
     rotate_left
     ·show Act.put _ (some 12) _ = _
      simp only [Act.put, List.setIfInBounds_toArray, List.set_cons_zero, List.set_cons_succ, i64_w, i32_w]
      rfl
     refine one_ (i := 5) (N := some 15) #[true, true, true, true, true, true, false, true, false] rfl rfl (one_of HT_.out (by kernel_rfl)) (by decide) (fun K hK => ?_)
     refine goes_ Try.func71 (by kernel_rfl) rfl #[.slice A0_1 l0_1.length c0_1] (by rfl) rfl rfl (by (try simp only [List.map_toArray, List.map_cons, List.map_nil]); first | done | rfl | (simp only [List.length_drop, List.length_take]; rfl)) ?_
     with_reducible refine (spec_l1Own.calls _ _ l0_1 t174 _ ?side1 ?side2 A5.out).mono ?_
     (case side1 => exact ck HR0_1 HB)
     (case side2 => exact HC0_1.out)
     rintro e w125 ⟨v175, rfl, ho0, hb⟩
     refine ⟨_, rfl, ?_⟩
     have HO176 := Aside0.mk (Kd.R_lower (Kd.R_new' ho0 (Kd.R_lt (rk HO173))) (below_size (bw HB)))
     replace HO173 := Aside0.mk (Kd.R_elder' (rk HO173) (Kd.R_base ho0) hb)
     replace BK167 := bb BK167 hb
     replace BK168 := bb BK168 hb
     replace BK169 := bb BK169 hb
     replace BK177 := bb BK177 hb
     replace HB := bs HB hb
     (try clear hb)
     (try clear hb2)
     (try clear hk)
     (try clear hi)
     (try clear ho0)
     obtain ⟨Ao126, co126, eo126⟩ := Kd.R_slice HO176.out
     (first | subst eo126 | (injection eo126 with f1_ f2_ f3_; have f4_ := f1_.symm; have f5_ := f3_.symm; clear f1_ f2_ f3_; subst f4_; subst f5_))
     obtain ⟨Ao127, co127, eo127⟩ := Kd.R_slice HO173.out
     (first | subst eo127 | (injection eo127 with f1_ f2_ f3_; have f4_ := f1_.symm; have f5_ := f3_.symm; clear f1_ f2_ f3_; subst f4_; subst f5_))
     refine hK.out _ _ ⟨bc0 BK167, bc1 BK167⟩ (fun hHeld => ?_)
     clear hK K
     refine norm_ (a' := ?_) ?_ ?_
     rotate_left
     ·show Act.put _ (some 15) _ = _
      simp only [Act.put, List.setIfInBounds_toArray, List.set_cons_zero, List.set_cons_succ, i64_w, i32_w]
      rfl
     refine pure_ (i := 6) (N := some 16) (v := ?_) (a' := ?_) #[true, true, true, true, true, true, true, true, false] rfl rfl (any_of HT_.out (by kernel_rfl)) (fun _ _ _ h => h) (Or.inl ⟨by rfl, ?_⟩) ?_ ?_
     rotate_left
     ·intro w'
      go_simp
      with_reducible rfl
     rotate_left
     ·simp only [Act.put, List.setIfInBounds_toArray, List.set_cons_zero, List.set_cons_succ, i64_w, i32_w]
      rfl
     exact norm_ (by simp only [putAll, Act.put, List.setIfInBounds_toArray, List.set_cons_zero, List.set_cons_succ]) (hCont (.slice Ao127 t171.length co127, .slice Ao126 t174.length co126, gb177) _ ⟨hHeld, (by (with_reducible repeat (first | apply Kd.R_alloc | apply Kd.R_drewN | apply Kd.R_drew)); exact Kd.R_mono HO173.out (fun _ hk => hk.2)), (by (with_reducible repeat (first | apply Kd.R_alloc | apply Kd.R_drewN | apply Kd.R_drew)); exact Kd.R_mono HO176.out (fun _ hk => hk.2)), (bk BK167), (bk BK168), (bk BK169), (bk BK177), GW177.out, GE177.out, NB167_177.out, NB177_167.out, NB168_177.out, NB177_168.out, NB169_177.out, NB177_169.out, (bw HB)⟩)
   rintro ⟨v172, v175, gb177⟩ w128 ⟨hS_, h0_, h1_, h2_, h3_, h4_, h5_, h6_, h7_, h8_, h9_, h10_, h11_, h12_, h13_, h14_⟩
   have HO173 := Aside0.mk h0_
   have HO176 := Aside0.mk h1_
   replace BK167 := Aside0.mk h2_
   replace BK168 := Aside0.mk h3_
   replace BK169 := Aside0.mk h4_
   have BK177 := Aside0.mk h5_
   have GW177 := GeC.mk h6_
   have GE177 := GeC.mk h7_
   have NB167_177 := NeC.mk h8_
   have NB177_167 := NeC.mk h9_
   have NB168_177 := NeC.mk h10_
   have NB177_168 := NeC.mk h11_
   have NB169_177 := NeC.mk h12_
   have NB177_169 := NeC.mk h13_
   replace HB := Aside0.mk h14_
   clear h0_ h1_ h2_ h3_ h4_ h5_ h6_ h7_ h8_ h9_ h10_ h11_ h12_ h13_ h14_
   have hHeld : w128.cell? ⟨gb167, 0, none⟩ = some (.slice A0_0 l0_0.length c0_0) ∧ w128.cell? ⟨gb167, 1, none⟩ = some (.slice A0_1 l0_1.length c0_1) := hS_
   obtain ⟨Ao129, co129, eo129⟩ := Kd.R_slice HO176.out
   (first | subst eo129 | (injection eo129 with f1_ f2_ f3_; have f4_ := f1_.symm; have f5_ := f3_.symm; clear f1_ f2_ f3_; subst f4_; subst f5_))
   obtain ⟨Ao130, co130, eo130⟩ := Kd.R_slice HO173.out
   (first | subst eo130 | (injection eo130 with f1_ f2_ f3_; have f4_ := f1_.symm; have f5_ := f3_.symm; clear f1_ f2_ f3_; subst f4_; subst f5_))
   refine norm_ (a' := ?_) ?_ ?_
   rotate_left
   ·simp only [putAll, Act.put, List.setIfInBounds_toArray, List.set_cons_zero, List.set_cons_succ]
    rfl
   refine one_ (i := 8) (N := none) #[true, true, true, true, true, true, true, true, true] rfl rfl (one_of HT_.out (by kernel_rfl)) (by decide) (fun K hK => ?_)
   have hs131 : w128.cell? ⟨gb177, 0, none⟩ = some (.slice none 0 0) := bc0 BK177
   have hfs131 := blk_frozen BK177.out 0
   have hns131_0 := NB167_177.out
   have hns131_1 := NB168_177.out
   have hns131_2 := NB169_177.out
   have hms131_0 := NB177_167.out
   have hms131_1 := NB177_168.out
   have hms131_2 := NB177_169.out
   have hs132 : w128.cell? ⟨gb177, 1, none⟩ = some (.slice none 0 0) := bc1 BK177
   have hfs132 := blk_frozen BK177.out 1
   have hns132_0 := NB167_177.out
   have hns132_1 := NB168_177.out
   have hns132_2 := NB169_177.out
   have hms132_0 := NB177_167.out
   have hms132_1 := NB177_168.out
   have hms132_2 := NB177_169.out
   refine skip_ (w1 := ?_) (by rfl) rfl ?_ ?_
   rotate_left
   ·go_simp
    rfl
   refine hK.out _ _ ⟨((cell_far (p := ⟨gb177, _, none⟩) NB167_177.out _).trans (((cell_far (p := ⟨gb177, _, none⟩) NB167_177.out _).trans (hHeld.1)))), ((cell_far (p := ⟨gb177, _, none⟩) NB167_177.out _).trans (((cell_far (p := ⟨gb177, _, none⟩) NB167_177.out _).trans (hHeld.2))))⟩ (fun hHeld => ?_)
   clear hK K
   refine done_ (done_of HT_.out (by kernel_rfl)) ?_
   have hnb133 := NB168_177.out
   have hnc133 := NB177_168.out
   have hcz134_0 := bc0 BK168
   have hcz134_1 := bc1 BK168
   have hfz134_0 := blk_frozen BK168.out 0
   have hfz134_1 := blk_frozen BK168.out 1
   have hnb135 := NB177_167.out
   have hnc135 := NB167_177.out
   have hnb136 := NB177_169.out
   have hnc136 := NB169_177.out
   have hcz137_0 := bc0 BK177
   have hcz137_1 := bc1 BK177
   have hfz137_0 := blk_frozen BK177.out 0
   have hfz137_1 := blk_frozen BK177.out 1
   have hcz138_0 := bc0 BK169
   have hcz138_1 := bc1 BK169
   have hfz138_0 := blk_frozen BK169.out 0
   have hfz138_1 := blk_frozen BK169.out 1
   try go_wp2
   refine bodyPost_ret (results_cell_row rfl _ _ gb169 29 #[.slice Ao130 t171.length co130, .slice Ao129 t174.length co129] (0, 0) _ rfl (by (with_reducible repeat (first | refine blk_drewN ?_ _ | refine blk_drew ?_ | refine blk_alloc ?_ _)); refine blk_put (cs := #[.slice Ao130 t171.length co130, .slice none 0 0]) ?_ 1 _ rfl; (with_reducible repeat (first | refine blk_drewN ?_ _ | refine blk_drew ?_ | refine blk_alloc ?_ _)); refine blk_put (cs := #[.slice none 0 0, .slice none 0 0]) ?_ 0 _ rfl; exact bk BK169) Try.underlying29 rfl (by kernel_rfl)) rfl ?_
   exact ⟨_, _, by first | rfl | (simp [errW_none, errW_some] <;> rfl) | (simp [*, errW_none, errW_some] <;> rfl), by (with_reducible repeat (first | apply Kd.R_alloc | apply Kd.R_drewN | apply Kd.R_drew)); exact Kd.R_mono (Kd.R_far (p := ⟨gb169, 1, none⟩) (Kd.R_far (p := ⟨gb169, 0, none⟩) (Kd.R_far (p := ⟨gb177, 1, none⟩) (Kd.R_far (p := ⟨gb177, 0, none⟩) (Kd.R_types (Kd.R_types HO173.out BK177.out (by decide)) BK169.out (by decide)) (fun _ hk => hk.1.2) (.slice Ao130 t171.length co130)) (fun _ hk => hk.1.2) (.slice Ao129 t174.length co129)) (fun _ hk => hk.2) (.slice Ao130 t171.length co130)) (fun _ hk => hk.2) (.slice Ao129 t174.length co129)) (fun _ hk => hk.1.1), by (with_reducible repeat (first | apply Kd.R_alloc | apply Kd.R_drewN | apply Kd.R_drew)); exact Kd.R_mono (Kd.R_far (p := ⟨gb169, 1, none⟩) (Kd.R_far (p := ⟨gb169, 0, none⟩) (Kd.R_far (p := ⟨gb177, 1, none⟩) (Kd.R_far (p := ⟨gb177, 0, none⟩) (Kd.R_types (Kd.R_types HO176.out BK177.out (by decide)) BK169.out (by decide)) (fun _ hk => hk.1.2) (.slice Ao130 t171.length co130)) (fun _ hk => hk.1.2) (.slice Ao129 t174.length co129)) (fun _ hk => hk.2) (.slice Ao130 t171.length co130)) (fun _ hk => hk.2) (.slice Ao129 t174.length co129)) (fun _ hk => hk.1.1), bw HB⟩

end Go.Proofs.Ytigpkicbigpilaa.U
