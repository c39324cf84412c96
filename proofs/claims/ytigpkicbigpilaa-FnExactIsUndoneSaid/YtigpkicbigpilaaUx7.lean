-- Functions of the program as plain functions, and that the calls come to them. Written by a program (ownprint.py); nothing here is trusted: Lean checks it.
import Derived.Test.YtigpkicbigpilaaUx0
import Derived.Test.YtigpkicbigpilaaUx6
namespace Go.Proofs.Ytigpkicbigpilaa.U
open Go.RowKit Go.Proofs.YtigpkicbigpilaaW.PrintWords Go.Proofs.YtigpkicbigpilaaW.PrintLast Go.Proofs.YtigpkicbigpilaaW.PrintMore Go.Proofs.Ytigpkicbigpilaa.Sq
attribute [local go_sem] max2_int min2_int max_two min_two max_three min_three max_four min_four   -- for this text's walks alone
set_option linter.unusedVariables false
set_option linter.unusedSimpArgs false

/-! ### impl_Vessels_behind: function 59 -/
def impl_Vessels_behind.f (l0_0 : List Int) (l0_1 : List Int) (a1_0 : Int) (a1_1 : Int) : Option (List Int × List Int) := (impl_Vessels_own.f l0_0 l0_1).bind fun bt240 => ((impl_Vessels_amount.f l0_0 l0_1 a1_0 a1_1).bind fun t246 => (if a1_0 ≥ 0 then (if 0 ≤ a1_0 then (if a1_0 < (bt240.2.length : Int) then ((some (bt240.2.set (a1_0 : Int).toNat (wrap64 ((rd bt240.2 a1_0) - t246)) : List Int)).bind fun y249 => (if a1_1 ≥ 0 then (if 0 ≤ a1_1 then (if a1_1 < (bt240.2.length : Int) then (some (bt240.1, (y249.set (a1_1 : Int).toNat (wrap64 ((rd y249 a1_1) + t246))))) else (none)) else (none)) else (some (bt240.1, y249)))) else (none)) else (none)) else (if a1_1 ≥ 0 then (if 0 ≤ a1_1 then (if a1_1 < (bt240.2.length : Int) then (some (bt240.1, (bt240.2.set (a1_1 : Int).toNat (wrap64 ((rd bt240.2 a1_1) + t246))))) else (none)) else (none)) else (some (bt240.1, bt240.2)))))
def impl_Vessels_behind.T1 : Bool × List (List Nat × List Nat) := (true, [([], []), ([0], [0]), ([], []), ([], []), ([2, 3, 1], [2, 3]), ([], []), ([5, 1, 4, 0, 1, 5], [1, 5]), ([4, 6, 0, 1, 2, 3, 4, 5, 6], [4])])
def impl_Vessels_behind.B1 : List Nat := [0, 1, 0, 0, 15, 0, 63, 127]
theorem impl_Vessels_behind.tab1 : rtab .any (opsOf Try.f59 1) = impl_Vessels_behind.T1 := by kernel_rfl
theorem impl_Vessels_behind.bits1 : waitsOk impl_Vessels_behind.T1.2 impl_Vessels_behind.B1 = true := by kernel_rfl
set_option maxHeartbeats 8000000 in
set_option maxRecDepth 100000 in
theorem impl_Vessels_behind.calls (A0_0 : Option Addr) (c0_0 : Nat) (l0_0 : List Int) (A0_1 : Option Addr) (c0_1 : Nat) (l0_1 : List Int) (a1_0 : Int) (a1_1 : Int) (r1 : List Int) (r2 : List Int) (w : World) (hr0_0 : Kd.C (Kd.int .i64) w A0_0 l0_0.length l0_0) (hc0_0 : l0_0.length ≤ c0_0) (hr0_1 : Kd.C (Kd.int .i64) w A0_1 l0_1.length l0_1) (hc0_1 : l0_1.length ≤ c0_1) (h : impl_Vessels_behind.f l0_0 l0_1 a1_0 a1_1 = some (r1, r2)) :
  Calls Try.prog 59 #[.agg #[.slice A0_0 l0_0.length c0_0, .slice A0_1 l0_1.length c0_1], .agg #[.int .i64 a1_0, .int .i64 a1_1]] w fun e w' => ∃ v0_ v1_ : Value, e = .returned (.agg #[v0_, v1_]) ∧ Kd.R (Kd.int .i64) 3 w' w.heap.size (fun k_ => some k_ ≠ (v1_ : Value).ownBlock) v0_ r1 ∧ Kd.R (Kd.int .i64) 3 w' w.heap.size (fun k_ => some k_ ≠ (v0_ : Value).ownBlock) v1_ r2 ∧ Below w.heap.size w w' := by
 have hu29 := Try.underlying29
 have hu49 := Try.underlying49
 have HR0_0 := Aside0.mk hr0_0
 have HC0_0 := Aside0.mk hc0_0
 clear hr0_0 hc0_0
 have HR0_1 := Aside0.mk hr0_1
 have HC0_1 := Aside0.mk hc0_1
 clear hr0_1 hc0_1
 have HB := Aside0.mk (Below.refl w.heap.size w)
 have H : ((impl_Vessels_own.f l0_0 l0_1).bind fun bt240 => ((impl_Vessels_amount.f l0_0 l0_1 a1_0 a1_1).bind fun t246 => (if a1_0 ≥ 0 then (if 0 ≤ a1_0 then (if a1_0 < (bt240.2.length : Int) then ((some (bt240.2.set (a1_0 : Int).toNat (wrap64 ((rd bt240.2 a1_0) - t246)) : List Int)).bind fun y249 => (if a1_1 ≥ 0 then (if 0 ≤ a1_1 then (if a1_1 < (bt240.2.length : Int) then (some (bt240.1, (y249.set (a1_1 : Int).toNat (wrap64 ((rd y249 a1_1) + t246))))) else (none)) else (none)) else (some (bt240.1, y249)))) else (none)) else (none)) else (if a1_1 ≥ 0 then (if 0 ≤ a1_1 then (if a1_1 < (bt240.2.length : Int) then (some (bt240.1, (bt240.2.set (a1_1 : Int).toNat (wrap64 ((rd bt240.2 a1_1) + t246))))) else (none)) else (none)) else (some (bt240.1, bt240.2)))))) = some (r1, r2) := h
 clear h
 replace H := Option.bind_eq_some_iff.mp H
 obtain ⟨⟨t240, t243⟩, A30, H⟩ := H
 replace H : ((impl_Vessels_amount.f l0_0 l0_1 a1_0 a1_1).bind fun t246 => (if a1_0 ≥ 0 then (if 0 ≤ a1_0 then (if a1_0 < (t243.length : Int) then ((some (t243.set (a1_0 : Int).toNat (wrap64 ((rd t243 a1_0) - t246)) : List Int)).bind fun y249 => (if a1_1 ≥ 0 then (if 0 ≤ a1_1 then (if a1_1 < (t243.length : Int) then (some (t240, (y249.set (a1_1 : Int).toNat (wrap64 ((rd y249 a1_1) + t246))))) else (none)) else (none)) else (some (t240, y249)))) else (none)) else (none)) else (if a1_1 ≥ 0 then (if 0 ≤ a1_1 then (if a1_1 < (t243.length : Int) then (some (t240, (t243.set (a1_1 : Int).toNat (wrap64 ((rd t243 a1_1) + t246))))) else (none)) else (none)) else (some (t240, t243))))) = some (r1, r2) := H
 have A3 := Aside0.mk A30
 clear A30
 replace H := Option.bind_eq_some_iff.mp H
 obtain ⟨t246, A40, H⟩ := H
 replace H : (if a1_0 ≥ 0 then (if 0 ≤ a1_0 then (if a1_0 < (t243.length : Int) then ((some (t243.set (a1_0 : Int).toNat (wrap64 ((rd t243 a1_0) - t246)) : List Int)).bind fun y249 => (if a1_1 ≥ 0 then (if 0 ≤ a1_1 then (if a1_1 < (t243.length : Int) then (some (t240, (y249.set (a1_1 : Int).toNat (wrap64 ((rd y249 a1_1) + t246))))) else (none)) else (none)) else (some (t240, y249)))) else (none)) else (none)) else (if a1_1 ≥ 0 then (if 0 ≤ a1_1 then (if a1_1 < (t243.length : Int) then (some (t240, (t243.set (a1_1 : Int).toNat (wrap64 ((rd t243 a1_1) + t246))))) else (none)) else (none)) else (some (t240, t243)))) = some (r1, r2) := H
 have A4 := Aside0.mk A40
 clear A40
 by_cases c5 : a1_0 ≥ 0
 ·rw [if_pos c5] at H
  have c5b0 : decide (0 ≤ a1_0) = true := decide_eq_true c5
  clear c5
  by_cases c6 : 0 ≤ a1_0
  ·rw [if_pos c6] at H
   have c6b0 : decide (0 ≤ a1_0) = true := decide_eq_true c6
   clear c6
   by_cases c7 : a1_0 < (t243.length : Int)
   ·rw [if_pos c7] at H
    have c7b0 : decide (a1_0 < (t243.length : Int)) = true := decide_eq_true c7
    clear c7
    obtain ⟨y249, hy249⟩ : ∃ y_ : List Int, y_ = (t243.set (a1_0 : Int).toNat (wrap64 ((rd t243 a1_0) - t246))) := ⟨_, rfl⟩
    replace H : (if a1_1 ≥ 0 then (if 0 ≤ a1_1 then (if a1_1 < (t243.length : Int) then (some (t240, (y249.set (a1_1 : Int).toNat (wrap64 ((rd y249 a1_1) + t246))))) else (none)) else (none)) else (some (t240, y249))) = some (r1, r2) := by first | (rw [hy249]; with_reducible exact H) | (have H2_ := (Option.bind_some _ _).symm.trans H; rw [hy249]; with_reducible exact H2_) | (have H2_ := (Option.bind_some _ _).symm.trans H; with_reducible exact H2_) | with_reducible exact H | (rw [hy249]; exact H) | exact H
    have Ny249 := Aside0.mk hy249
    clear hy249
    by_cases c9 : a1_1 ≥ 0
    ·rw [if_pos c9] at H
     have c9b0 : decide (0 ≤ a1_1) = true := decide_eq_true c9
     clear c9
     by_cases c10 : 0 ≤ a1_1
     ·rw [if_pos c10] at H
      have c10b0 : decide (0 ≤ a1_1) = true := decide_eq_true c10
      clear c10
      by_cases c11 : a1_1 < (t243.length : Int)
      ·rw [if_pos c11] at H
       have c11b0 : decide (a1_1 < (t243.length : Int)) = true := decide_eq_true c11
       clear c11
       obtain ⟨y251, hy251⟩ : ∃ y_ : List Int, y_ = (y249.set (a1_1 : Int).toNat (wrap64 ((rd y249 a1_1) + t246))) := ⟨_, rfl⟩
       replace H : (some (t240, y251)) = some (r1, r2) := by first | (rw [hy251]; with_reducible exact H) | (have H2_ := (Option.bind_some _ _).symm.trans H; rw [hy251]; with_reducible exact H2_) | (have H2_ := (Option.bind_some _ _).symm.trans H; with_reducible exact H2_) | with_reducible exact H | (rw [hy251]; exact H) | exact H
       have Ny251 := Aside0.mk hy251
       clear hy251
       simp only [Option.some.injEq, Prod.mk.injEq] at H
       obtain ⟨rfl, rfl⟩ := H
       go_enter Try.func59, Try.ntmps59
       try go_wp2_with (first | ((with_reducible refine gate_dst (N := 2) rfl ?_); refine bx 2 #[.slice A0_0 l0_0.length c0_0, .slice A0_1 l0_1.length c0_1] 29 ?_; intro gb237 hg w13 hbox hb; have BK237 := Aside0.mk (hbox); have GW237 := ge HB hg; have GE237 := ge HB hg; replace HB := bs HB hb; clear hb hbox hg) | ((with_reducible refine gate_dst (N := 3) rfl ?_); refine bx 3 #[.int .i64 a1_0, .int .i64 a1_1] 49 ?_; intro gb238 hg w14 hbox hb; have BK238 := Aside0.mk (hbox); have GW238 := ge HB hg; have GE238 := ge HB hg; replace HB := bs HB hb; have NB237_238 := nl BK237 hg; have NB238_237 := nr BK237 hg; replace BK237 := bb BK237 hb; clear hb hbox hg) | ((with_reducible refine gate_dst (N := 4) rfl ?_); refine bx 4 #[.slice none 0 0, .slice none 0 0] 29 ?_; intro gb239 hg w15 hbox hb; have BK239 := Aside0.mk (hbox); have GW239 := ge HB hg; have GE239 := ge HB hg; replace HB := bs HB hb; have NB237_239 := nl BK237 hg; have NB239_237 := nr BK237 hg; replace BK237 := bb BK237 hb; have NB238_239 := nl BK238 hg; have NB239_238 := nr BK238 hg; replace BK238 := bb BK238 hb; clear hb hbox hg))
       replace BK237 := Aside0.mk (blk_drew BK237.out)
       replace BK238 := Aside0.mk (blk_drew BK238.out)
       replace BK239 := Aside0.mk (blk_drew BK239.out)
       replace HB := Aside0.mk (below_drew1 HB.out)
       refine start_ (n := 8) (S := fun w' => w'.cell? ⟨gb237, 0, none⟩ = some (.slice A0_0 l0_0.length c0_0) ∧ w'.cell? ⟨gb237, 1, none⟩ = some (.slice A0_1 l0_1.length c0_1) ∧ w'.cell? ⟨gb238, 0, none⟩ = some (.int .i64 a1_0) ∧ w'.cell? ⟨gb238, 1, none⟩ = some (.int .i64 a1_1)) (ds := []) #[false, false, false, false, false, false, false, false] (by kernel_rfl) rfl rfl ⟨bc0 BK237, bc1 BK237, bc0 BK238, bc1 BK238⟩ (fun hHeld => ?_); refine with_tabW impl_Vessels_behind.tab1 impl_Vessels_behind.bits1 (fun HT_ HW_ => ?_)
       generalize w15.drew = w16 at BK237 BK238 BK239 HB hHeld ⊢
       refine take_ (i := 0) (N := some 7) (v := ?_) (a' := ?_) #[true, false, false, false, false, false, false, false] rfl rfl (take_ofW HT_.out HW_.out (by kernel_rfl)) (fun _ _ _ h => h) (Or.inl ⟨by rfl, ?_⟩) hHeld ?_ ?_
       rotate_left
       ·rintro w' ⟨s0, s1, s2, s3⟩
        go_simp
        with_reducible rfl
       rotate_left
       ·simp only [Act.put, List.setIfInBounds_toArray, List.set_cons_zero, List.set_cons_succ, i64_w, i32_w]
        rfl
       refine take_ (i := 2) (N := some 9) (v := ?_) (a' := ?_) #[true, false, true, false, false, false, false, false] rfl rfl (take_ofW HT_.out HW_.out (by kernel_rfl)) (fun _ _ _ h => h) (Or.inl ⟨by rfl, ?_⟩) hHeld ?_ ?_
       rotate_left
       ·rintro w' ⟨s0, s1, s2, s3⟩
        go_simp
        with_reducible rfl
       rotate_left
       ·simp only [Act.put, List.setIfInBounds_toArray, List.set_cons_zero, List.set_cons_succ, i64_w, i32_w]
        rfl
       refine take_ (i := 3) (N := some 10) (v := ?_) (a' := ?_) #[true, false, true, true, false, false, false, false] rfl rfl (take_ofW HT_.out HW_.out (by kernel_rfl)) (fun _ _ _ h => h) (Or.inl ⟨by rfl, ?_⟩) hHeld ?_ ?_
       rotate_left
       ·rintro w' ⟨s0, s1, s2, s3⟩
        go_simp
        with_reducible rfl
       rotate_left
       ·simp only [Act.put, List.setIfInBounds_toArray, List.set_cons_zero, List.set_cons_succ, i64_w, i32_w]
        rfl
       refine join_ (σ := Value × Value × Nat) 2 #[true, true, true, true, true, true, false, false] (fun s_ => [(8, .agg #[s_.1, s_.2.1]), (11, .int .i64 t246), (5, .pointer (some ⟨s_.2.2, 0, none⟩))]) (fun s_ w' => (w'.cell? ⟨gb237, 0, none⟩ = some (.slice A0_0 l0_0.length c0_0) ∧ w'.cell? ⟨gb237, 1, none⟩ = some (.slice A0_1 l0_1.length c0_1) ∧ w'.cell? ⟨gb238, 0, none⟩ = some (.int .i64 a1_0) ∧ w'.cell? ⟨gb238, 1, none⟩ = some (.int .i64 a1_1)) ∧ (Kd.R (Kd.int .i64) 3 w' w.heap.size (fun k_ => some k_ ≠ (s_.2.1 : Value).ownBlock) s_.1 t240) ∧ (Kd.R (Kd.int .i64) 3 w' w.heap.size (fun k_ => some k_ ≠ (s_.1 : Value).ownBlock) s_.2.1 t243) ∧ (w'.heap[gb237]? = some (.cells #[.slice A0_0 l0_0.length c0_0, .slice A0_1 l0_1.length c0_1] 29 (0, 0))) ∧ (w'.heap[gb238]? = some (.cells #[.int .i64 a1_0, .int .i64 a1_1] 49 (0, 0))) ∧ (w'.heap[gb239]? = some (.cells #[.slice none 0 0, .slice none 0 0] 29 (0, 0))) ∧ (w'.heap[s_.2.2]? = some (.cells #[.slice none 0 0, .slice none 0 0] 29 (0, 0))) ∧ (w.heap.size ≤ s_.2.2) ∧ (w.heap.size ≤ s_.2.2) ∧ (gb237 ≠ s_.2.2) ∧ (s_.2.2 ≠ gb237) ∧ (gb238 ≠ s_.2.2) ∧ (s_.2.2 ≠ gb238) ∧ (gb239 ≠ s_.2.2) ∧ (s_.2.2 ≠ gb239) ∧ (Below w.heap.size w w')) ?_ ?_
       rotate_left
       ·intro hCont
        refine two_ (i := 1) (j := 5) (Ni := some 8) (Nj := some 5) #[true, true, true, true, false, false, false, false] #[true, false, true, true, false, true, false, false] rfl rfl rfl rfl (two_of HT_.out (by kernel_rfl)) (by decide) (by decide) (fun K hK => ?_) (fun K hK => ?_)
        ·skip
         refine goes_ Try.func73 (by kernel_rfl) rfl #[.agg #[.slice A0_0 l0_0.length c0_0, .slice A0_1 l0_1.length c0_1]] (by rfl) rfl rfl (by (try simp only [List.map_toArray, List.map_cons, List.map_nil]); first | done | rfl | (simp only [List.length_drop, List.length_take]; rfl)) ?_
         with_reducible refine (impl_Vessels_own.calls _ _ l0_0 _ _ l0_1 t240 t243 _ ?side1 ?side2 ?side3 ?side4 A3.out).mono ?_
         (case side1 => exact ck HR0_0 HB)
         (case side2 => exact HC0_0.out)
         (case side3 => exact ck HR0_1 HB)
         (case side4 => exact HC0_1.out)
         rintro e w17 ⟨v241, v244, rfl, ho0, ho1, hb⟩
         refine ⟨_, rfl, ?_⟩
         have HO242 := lo ho0 HB
         have HO245 := lo ho1 HB
         replace BK237 := bb BK237 hb
         replace BK238 := bb BK238 hb
         replace BK239 := bb BK239 hb
         replace HB := bs HB hb
         (try clear hb)
         (try clear hb2)
         (try clear hk)
         (try clear hi)
         (try clear ho0)
         (try clear ho1)
         refine hK.out _ _ ⟨bc0 BK237, bc1 BK237, bc0 BK238, bc1 BK238⟩ (fun hHeld => ?_)
         clear hK K
         refine norm_ (a' := ?_) ?_ ?_
         rotate_left
         ·show Act.put _ (some 8) _ = _
          simp only [Act.put, List.setIfInBounds_toArray, List.set_cons_zero, List.set_cons_succ, i64_w, i32_w]
          rfl
         refine two_ (i := 4) (j := 5) (Ni := some 11) (Nj := some 5) #[true, true, true, true, true, false, false, false] #[true, true, true, true, false, true, false, false] rfl rfl rfl rfl (two_of HT_.out (by kernel_rfl)) (by decide) (by decide) (fun K hK => ?_) (fun K hK => ?_)
         ·skip
          refine goes_ Try.func58 (by kernel_rfl) rfl #[.agg #[.slice A0_0 l0_0.length c0_0, .slice A0_1 l0_1.length c0_1], .agg #[.int .i64 a1_0, .int .i64 a1_1]] (by rfl) rfl rfl (by (try simp only [List.map_toArray, List.map_cons, List.map_nil]); first | done | rfl | (simp only [List.length_drop, List.length_take]; rfl)) ?_
          with_reducible refine (impl_Vessels_amount.calls _ _ l0_0 _ _ l0_1 a1_0 a1_1 t246 _ ?side1 ?side2 ?side3 ?side4 A4.out).mono ?_
          (case side1 => exact ck HR0_0 HB)
          (case side2 => exact HC0_0.out)
          (case side3 => exact ck HR0_1 HB)
          (case side4 => exact HC0_1.out)
          rintro e w18 ⟨rfl, hb⟩
          refine ⟨_, rfl, ?_⟩
          replace HO242 := rb HO242 hb
          replace HO245 := rb HO245 hb
          replace BK237 := bb BK237 hb
          replace BK238 := bb BK238 hb
          replace BK239 := bb BK239 hb
          replace HB := bs HB hb
          (try clear hb)
          (try clear hb2)
          (try clear hk)
          (try clear hi)
          refine hK.out _ _ ⟨bc0 BK237, bc1 BK237, bc0 BK238, bc1 BK238⟩ (fun hHeld => ?_)
          clear hK K
          refine norm_ (a' := ?_) ?_ ?_
          rotate_left
          ·show Act.put _ (some 11) _ = _
           simp only [Act.put, List.setIfInBounds_toArray, List.set_cons_zero, List.set_cons_succ, i64_w, i32_w]
           rfl
          refine one_ (i := 5) (N := some 5) #[true, true, true, true, true, true, false, false] rfl rfl (one_of HT_.out (by kernel_rfl)) (by decide) (fun K hK => ?_)
          refine box_step ?hg (N := 5) ?hd (cs := #[.slice none 0 0, .slice none 0 0]) (t := 29) ?hr ?_; (case hd => rfl); (case hg => rfl); (case hr => first | (go_simp; done) | (go_simp; rfl))
          intro gb247 hg w19 hbox hb
          replace HO242 := rb HO242 hb
          replace HO245 := rb HO245 hb
          have BK247 := Aside0.mk (hbox)
          have GW247 := ge HB hg
          have GE247 := ge HB hg
          replace HB := bs HB hb
          have NB237_247 := nl BK237 hg
          have NB247_237 := nr BK237 hg
          replace BK237 := bb BK237 hb
          have NB238_247 := nl BK238 hg
          have NB247_238 := nr BK238 hg
          replace BK238 := bb BK238 hb
          have NB239_247 := nl BK239 hg
          have NB247_239 := nr BK239 hg
          replace BK239 := bb BK239 hb
          clear hb hbox hg
          refine hK.out _ _ ⟨bc0 BK237, bc1 BK237, bc0 BK238, bc1 BK238⟩ (fun hHeld => ?_)
          clear hK K
          refine norm_ (a' := ?_) ?_ ?_
          rotate_left
          ·show Act.put _ (some 5) _ = _
           simp only [Act.put, List.setIfInBounds_toArray, List.set_cons_zero, List.set_cons_succ, i64_w, i32_w]
           rfl
          exact norm_ (by simp only [putAll, Act.put, List.setIfInBounds_toArray, List.set_cons_zero, List.set_cons_succ]) (hCont (v241, v244, gb247) _ ⟨hHeld, (rk HO242), (rk HO245), (bk BK237), (bk BK238), (bk BK239), (bk BK247), GW247.out, GE247.out, NB237_247.out, NB247_237.out, NB238_247.out, NB247_238.out, NB239_247.out, NB247_239.out, (bw HB)⟩)
         ·skip
          refine box_step ?hg (N := 5) ?hd (cs := #[.slice none 0 0, .slice none 0 0]) (t := 29) ?hr ?_; (case hd => rfl); (case hg => rfl); (case hr => first | (go_simp; done) | (go_simp; rfl))
          intro gb247 hg w18 hbox hb
          replace HO242 := rb HO242 hb
          replace HO245 := rb HO245 hb
          have BK247 := Aside0.mk (hbox)
          have GW247 := ge HB hg
          have GE247 := ge HB hg
          replace HB := bs HB hb
          have NB237_247 := nl BK237 hg
          have NB247_237 := nr BK237 hg
          replace BK237 := bb BK237 hb
          have NB238_247 := nl BK238 hg
          have NB247_238 := nr BK238 hg
          replace BK238 := bb BK238 hb
          have NB239_247 := nl BK239 hg
          have NB247_239 := nr BK239 hg
          replace BK239 := bb BK239 hb
          clear hb hbox hg
          refine hK.out _ _ ⟨bc0 BK237, bc1 BK237, bc0 BK238, bc1 BK238⟩ (fun hHeld => ?_)
          clear hK K
          refine norm_ (a' := ?_) ?_ ?_
          rotate_left
          ·show Act.put _ (some 5) _ = _
           simp only [Act.put, List.setIfInBounds_toArray, List.set_cons_zero, List.set_cons_succ, i64_w, i32_w]
           rfl
          refine one_ (i := 4) (N := some 11) #[true, true, true, true, true, true, false, false] rfl rfl (one_of HT_.out (by kernel_rfl)) (by decide) (fun K hK => ?_)
          refine goes_ Try.func58 (by kernel_rfl) rfl #[.agg #[.slice A0_0 l0_0.length c0_0, .slice A0_1 l0_1.length c0_1], .agg #[.int .i64 a1_0, .int .i64 a1_1]] (by rfl) rfl rfl (by (try simp only [List.map_toArray, List.map_cons, List.map_nil]); first | done | rfl | (simp only [List.length_drop, List.length_take]; rfl)) ?_
          with_reducible refine (impl_Vessels_amount.calls _ _ l0_0 _ _ l0_1 a1_0 a1_1 t246 _ ?side1 ?side2 ?side3 ?side4 A4.out).mono ?_
          (case side1 => exact ck HR0_0 HB)
          (case side2 => exact HC0_0.out)
          (case side3 => exact ck HR0_1 HB)
          (case side4 => exact HC0_1.out)
          rintro e w19 ⟨rfl, hb⟩
          refine ⟨_, rfl, ?_⟩
          replace HO242 := rb HO242 hb
          replace HO245 := rb HO245 hb
          replace BK237 := bb BK237 hb
          replace BK238 := bb BK238 hb
          replace BK239 := bb BK239 hb
          replace BK247 := bb BK247 hb
          replace HB := bs HB hb
          (try clear hb)
          (try clear hb2)
          (try clear hk)
          (try clear hi)
          refine hK.out _ _ ⟨bc0 BK237, bc1 BK237, bc0 BK238, bc1 BK238⟩ (fun hHeld => ?_)
          clear hK K
          refine norm_ (a' := ?_) ?_ ?_
          rotate_left
          ·show Act.put _ (some 11) _ = _
           simp only [Act.put, List.setIfInBounds_toArray, List.set_cons_zero, List.set_cons_succ, i64_w, i32_w]
           rfl
          exact norm_ (by simp only [putAll, Act.put, List.setIfInBounds_toArray, List.set_cons_zero, List.set_cons_succ]) (hCont (v241, v244, gb247) _ ⟨hHeld, (rk HO242), (rk HO245), (bk BK237), (bk BK238), (bk BK239), (bk BK247), GW247.out, GE247.out, NB237_247.out, NB247_237.out, NB238_247.out, NB247_238.out, NB239_247.out, NB247_239.out, (bw HB)⟩)
        ·skip
         refine box_step ?hg (N := 5) ?hd (cs := #[.slice none 0 0, .slice none 0 0]) (t := 29) ?hr ?_; (case hd => rfl); (case hg => rfl); (case hr => first | (go_simp; done) | (go_simp; rfl))
         intro gb247 hg w17 hbox hb
         have BK247 := Aside0.mk (hbox)
         have GW247 := ge HB hg
         have GE247 := ge HB hg
         replace HB := bs HB hb
         have NB237_247 := nl BK237 hg
         have NB247_237 := nr BK237 hg
         replace BK237 := bb BK237 hb
         have NB238_247 := nl BK238 hg
         have NB247_238 := nr BK238 hg
         replace BK238 := bb BK238 hb
         have NB239_247 := nl BK239 hg
         have NB247_239 := nr BK239 hg
         replace BK239 := bb BK239 hb
         clear hb hbox hg
         refine hK.out _ _ ⟨bc0 BK237, bc1 BK237, bc0 BK238, bc1 BK238⟩ (fun hHeld => ?_)
         clear hK K
         refine norm_ (a' := ?_) ?_ ?_
         rotate_left
         ·show Act.put _ (some 5) _ = _
          simp only [Act.put, List.setIfInBounds_toArray, List.set_cons_zero, List.set_cons_succ, i64_w, i32_w]
          rfl
         refine one_ (i := 1) (N := some 8) #[true, true, true, true, false, true, false, false] rfl rfl (one_of HT_.out (by kernel_rfl)) (by decide) (fun K hK => ?_)
         refine goes_ Try.func73 (by kernel_rfl) rfl #[.agg #[.slice A0_0 l0_0.length c0_0, .slice A0_1 l0_1.length c0_1]] (by rfl) rfl rfl (by (try simp only [List.map_toArray, List.map_cons, List.map_nil]); first | done | rfl | (simp only [List.length_drop, List.length_take]; rfl)) ?_
         with_reducible refine (impl_Vessels_own.calls _ _ l0_0 _ _ l0_1 t240 t243 _ ?side1 ?side2 ?side3 ?side4 A3.out).mono ?_
         (case side1 => exact ck HR0_0 HB)
         (case side2 => exact HC0_0.out)
         (case side3 => exact ck HR0_1 HB)
         (case side4 => exact HC0_1.out)
         rintro e w18 ⟨v241, v244, rfl, ho0, ho1, hb⟩
         refine ⟨_, rfl, ?_⟩
         have HO242 := lo ho0 HB
         have HO245 := lo ho1 HB
         replace BK237 := bb BK237 hb
         replace BK238 := bb BK238 hb
         replace BK239 := bb BK239 hb
         replace BK247 := bb BK247 hb
         replace HB := bs HB hb
         (try clear hb)
         (try clear hb2)
         (try clear hk)
         (try clear hi)
         (try clear ho0)
         (try clear ho1)
         refine hK.out _ _ ⟨bc0 BK237, bc1 BK237, bc0 BK238, bc1 BK238⟩ (fun hHeld => ?_)
         clear hK K
         refine norm_ (a' := ?_) ?_ ?_
         rotate_left
         ·show Act.put _ (some 8) _ = _
          simp only [Act.put, List.setIfInBounds_toArray, List.set_cons_zero, List.set_cons_succ, i64_w, i32_w]
          rfl
         refine one_ (i := 4) (N := some 11) #[true, true, true, true, true, true, false, false] rfl rfl (one_of HT_.out (by kernel_rfl)) (by decide) (fun K hK => ?_)
         refine goes_ Try.func58 (by kernel_rfl) rfl #[.agg #[.slice A0_0 l0_0.length c0_0, .slice A0_1 l0_1.length c0_1], .agg #[.int .i64 a1_0, .int .i64 a1_1]] (by rfl) rfl rfl (by (try simp only [List.map_toArray, List.map_cons, List.map_nil]); first | done | rfl | (simp only [List.length_drop, List.length_take]; rfl)) ?_
         with_reducible refine (impl_Vessels_amount.calls _ _ l0_0 _ _ l0_1 a1_0 a1_1 t246 _ ?side1 ?side2 ?side3 ?side4 A4.out).mono ?_
         (case side1 => exact ck HR0_0 HB)
         (case side2 => exact HC0_0.out)
         (case side3 => exact ck HR0_1 HB)
         (case side4 => exact HC0_1.out)
         rintro e w19 ⟨rfl, hb⟩
         refine ⟨_, rfl, ?_⟩
         replace HO242 := rb HO242 hb
         replace HO245 := rb HO245 hb
         replace BK237 := bb BK237 hb
         replace BK238 := bb BK238 hb
         replace BK239 := bb BK239 hb
         replace BK247 := bb BK247 hb
         replace HB := bs HB hb
         (try clear hb)
         (try clear hb2)
         (try clear hk)
         (try clear hi)
         refine hK.out _ _ ⟨bc0 BK237, bc1 BK237, bc0 BK238, bc1 BK238⟩ (fun hHeld => ?_)
         clear hK K
         refine norm_ (a' := ?_) ?_ ?_
         rotate_left
         ·show Act.put _ (some 11) _ = _
          simp only [Act.put, List.setIfInBounds_toArray, List.set_cons_zero, List.set_cons_succ, i64_w, i32_w]
          rfl
         exact norm_ (by simp only [putAll, Act.put, List.setIfInBounds_toArray, List.set_cons_zero, List.set_cons_succ]) (hCont (v241, v244, gb247) _ ⟨hHeld, (rk HO242), (rk HO245), (bk BK237), (bk BK238), (bk BK239), (bk BK247), GW247.out, GE247.out, NB237_247.out, NB247_237.out, NB238_247.out, NB247_238.out, NB239_247.out, NB247_239.out, (bw HB)⟩)
       rintro ⟨v241, v244, gb247⟩ w20 ⟨hS_, h0_, h1_, h2_, h3_, h4_, h5_, h6_, h7_, h8_, h9_, h10_, h11_, h12_, h13_, h14_⟩
       have HO242 := Aside0.mk h0_
       have HO245 := Aside0.mk h1_
       replace BK237 := Aside0.mk h2_
       replace BK238 := Aside0.mk h3_
       replace BK239 := Aside0.mk h4_
       have BK247 := Aside0.mk h5_
       have GW247 := GeC.mk h6_
       have GE247 := GeC.mk h7_
       have NB237_247 := NeC.mk h8_
       have NB247_237 := NeC.mk h9_
       have NB238_247 := NeC.mk h10_
       have NB247_238 := NeC.mk h11_
       have NB239_247 := NeC.mk h12_
       have NB247_239 := NeC.mk h13_
       replace HB := Aside0.mk h14_
       clear h0_ h1_ h2_ h3_ h4_ h5_ h6_ h7_ h8_ h9_ h10_ h11_ h12_ h13_ h14_
       have hHeld : w20.cell? ⟨gb237, 0, none⟩ = some (.slice A0_0 l0_0.length c0_0) ∧ w20.cell? ⟨gb237, 1, none⟩ = some (.slice A0_1 l0_1.length c0_1) ∧ w20.cell? ⟨gb238, 0, none⟩ = some (.int .i64 a1_0) ∧ w20.cell? ⟨gb238, 1, none⟩ = some (.int .i64 a1_1) := hS_
       obtain ⟨Ao21, co21, eo21⟩ := Kd.R_slice HO242.out
       (first | subst eo21 | (injection eo21 with f1_ f2_ f3_; have f4_ := f1_.symm; have f5_ := f3_.symm; clear f1_ f2_ f3_; subst f4_; subst f5_))
       obtain ⟨Ao23, co23, eo23⟩ := Kd.R_slice HO245.out
       (first | subst eo23 | (injection eo23 with f1_ f2_ f3_; have f4_ := f1_.symm; have f5_ := f3_.symm; clear f1_ f2_ f3_; subst f4_; subst f5_))
       refine norm_ (a' := ?_) ?_ ?_
       rotate_left
       ·simp only [putAll, Act.put, List.setIfInBounds_toArray, List.set_cons_zero, List.set_cons_succ]
        rfl
       refine one_ (i := 6) (N := none) #[true, true, true, true, true, true, true, false] rfl rfl (one_of HT_.out (by kernel_rfl)) (by decide) (fun K hK => ?_)
       have hs22 : w20.cell? ⟨gb247, 0, none⟩ = some (.slice none 0 0) := bc0 BK247
       have hfs22 := blk_frozen BK247.out 0
       have hns22_0 := NB237_247.out
       have hns22_1 := NB238_247.out
       have hns22_2 := NB239_247.out
       have hms22_0 := NB247_237.out
       have hms22_1 := NB247_238.out
       have hms22_2 := NB247_239.out
       have hs24 : w20.cell? ⟨gb247, 1, none⟩ = some (.slice none 0 0) := bc1 BK247
       have hfs24 := blk_frozen BK247.out 1
       have hns24_0 := NB237_247.out
       have hns24_1 := NB238_247.out
       have hns24_2 := NB239_247.out
       have hms24_0 := NB247_237.out
       have hms24_1 := NB247_238.out
       have hms24_2 := NB247_239.out
       refine skip_ (w1 := ?_) (by rfl) rfl ?_ ?_
       rotate_left
       ·go_simp
        rfl
       refine hK.out _ _ ⟨((cell_far (p := ⟨gb247, _, none⟩) NB237_247.out _).trans (((cell_far (p := ⟨gb247, _, none⟩) NB237_247.out _).trans (hHeld.1)))), ((cell_far (p := ⟨gb247, _, none⟩) NB237_247.out _).trans (((cell_far (p := ⟨gb247, _, none⟩) NB237_247.out _).trans (hHeld.2.1)))), ((cell_far (p := ⟨gb247, _, none⟩) NB238_247.out _).trans (((cell_far (p := ⟨gb247, _, none⟩) NB238_247.out _).trans (hHeld.2.2.1)))), ((cell_far (p := ⟨gb247, _, none⟩) NB238_247.out _).trans (((cell_far (p := ⟨gb247, _, none⟩) NB238_247.out _).trans (hHeld.2.2.2))))⟩ (fun hHeld => ?_)
       clear hK K
       refine pure_ (i := 7) (N := some 6) (v := ?_) (a' := ?_) #[true, true, true, true, true, true, true, true] rfl rfl (any_of HT_.out (by kernel_rfl)) (fun _ _ _ h => h) (Or.inl ⟨by rfl, ?_⟩) ?_ ?_
       rotate_left
       ·intro w'
        go_simp
        with_reducible rfl
       rotate_left
       ·simp only [Act.put, List.setIfInBounds_toArray, List.set_cons_zero, List.set_cons_succ, i64_w, i32_w]
        rfl
       refine done_ (done_of HT_.out (by kernel_rfl)) ?_
       have n0_ : Aside0 (Kd.R (Kd.int .i64) 3 ((w20.setCell ⟨gb247, 0, none⟩ (.slice Ao21 t240.length co21)).setCell ⟨gb247, 1, none⟩ (.slice Ao23 t243.length co23)) w.heap.size (fun k_ => some k_ ≠ (.slice Ao23 t243.length co23 : Value).ownBlock) (.slice Ao21 t240.length co21) t240) := ⟨by (with_reducible repeat (first | apply Kd.R_alloc | apply Kd.R_drewN | apply Kd.R_drew)); exact Kd.R_mono (Kd.R_far (p := ⟨gb247, 1, none⟩) (Kd.R_far (p := ⟨gb247, 0, none⟩) (Kd.R_types HO242.out BK247.out (by decide)) (fun _ hk => hk.2) (.slice Ao21 t240.length co21)) (fun _ hk => hk.2) (.slice Ao23 t243.length co23)) (fun _ hk => hk.1)⟩
       have n1_ : Aside0 (Kd.R (Kd.int .i64) 3 ((w20.setCell ⟨gb247, 0, none⟩ (.slice Ao21 t240.length co21)).setCell ⟨gb247, 1, none⟩ (.slice Ao23 t243.length co23)) w.heap.size (fun k_ => some k_ ≠ (.slice Ao21 t240.length co21 : Value).ownBlock) (.slice Ao23 t243.length co23) t243) := ⟨by (with_reducible repeat (first | apply Kd.R_alloc | apply Kd.R_drewN | apply Kd.R_drew)); exact Kd.R_mono (Kd.R_far (p := ⟨gb247, 1, none⟩) (Kd.R_far (p := ⟨gb247, 0, none⟩) (Kd.R_types HO245.out BK247.out (by decide)) (fun _ hk => hk.2) (.slice Ao21 t240.length co21)) (fun _ hk => hk.2) (.slice Ao23 t243.length co23)) (fun _ hk => hk.1)⟩
       have n2_ : Aside0 (((w20.setCell ⟨gb247, 0, none⟩ (.slice Ao21 t240.length co21)).setCell ⟨gb247, 1, none⟩ (.slice Ao23 t243.length co23)).heap[gb237]? = some (.cells #[.slice A0_0 l0_0.length c0_0, .slice A0_1 l0_1.length c0_1] 29 (0, 0))) := ⟨bk BK237⟩
       have n3_ : Aside0 (((w20.setCell ⟨gb247, 0, none⟩ (.slice Ao21 t240.length co21)).setCell ⟨gb247, 1, none⟩ (.slice Ao23 t243.length co23)).heap[gb238]? = some (.cells #[.int .i64 a1_0, .int .i64 a1_1] 49 (0, 0))) := ⟨bk BK238⟩
       have n4_ : Aside0 (((w20.setCell ⟨gb247, 0, none⟩ (.slice Ao21 t240.length co21)).setCell ⟨gb247, 1, none⟩ (.slice Ao23 t243.length co23)).heap[gb239]? = some (.cells #[.slice none 0 0, .slice none 0 0] 29 (0, 0))) := ⟨bk BK239⟩
       have n5_ : Aside0 (((w20.setCell ⟨gb247, 0, none⟩ (.slice Ao21 t240.length co21)).setCell ⟨gb247, 1, none⟩ (.slice Ao23 t243.length co23)).heap[gb247]? = some (.cells #[.slice Ao21 t240.length co21, .slice Ao23 t243.length co23] 29 (0, 0))) := ⟨by (with_reducible repeat (first | refine blk_drewN ?_ _ | refine blk_drew ?_ | refine blk_alloc ?_ _)); refine blk_put (cs := #[.slice Ao21 t240.length co21, .slice none 0 0]) ?_ 1 _ rfl; (with_reducible repeat (first | refine blk_drewN ?_ _ | refine blk_drew ?_ | refine blk_alloc ?_ _)); refine blk_put (cs := #[.slice none 0 0, .slice none 0 0]) ?_ 0 _ rfl; exact bk BK247⟩
       have n6_ : Aside0 (Below w.heap.size w ((w20.setCell ⟨gb247, 0, none⟩ (.slice Ao21 t240.length co21)).setCell ⟨gb247, 1, none⟩ (.slice Ao23 t243.length co23))) := ⟨bw HB⟩
       (try clear HO242)
       (try clear HO245)
       (try clear BK237)
       (try clear BK238)
       (try clear BK239)
       (try clear BK247)
       (try clear HB)
       generalize ((w20.setCell ⟨gb247, 0, none⟩ (.slice Ao21 t240.length co21)).setCell ⟨gb247, 1, none⟩ (.slice Ao23 t243.length co23)) = w25 at n0_ n1_ n2_ n3_ n4_ n5_ n6_ ⊢
       have HO242 := n0_
       have HO245 := n1_
       have BK237 := n2_
       have BK238 := n3_
       have BK239 := n4_
       have BK247 := n5_
       have HB := n6_
       clear n0_ n1_ n2_ n3_ n4_ n5_ n6_
       have hnb26 := NB238_237.out
       have hnc26 := NB237_238.out
       have hnb27 := NB238_239.out
       have hnc27 := NB239_238.out
       have hnb28 := NB238_247.out
       have hnc28 := NB247_238.out
       have hcz29_0 := bc0 BK238
       have hcz29_1 := bc1 BK238
       have hfz29_0 := blk_frozen BK238.out 0
       have hfz29_1 := blk_frozen BK238.out 1
       have hnb30 := NB247_237.out
       have hnc30 := NB237_247.out
       have hnb31 := NB247_239.out
       have hnc31 := NB239_247.out
       have hcz32_0 := bc0 BK247
       have hcz32_1 := bc1 BK247
       have hfz32_0 := blk_frozen BK247.out 0
       have hfz32_1 := blk_frozen BK247.out 1
       have p248 : 0 ≤ (a1_0 : Int) := of_decide_eq_true (by first | (with_reducible assumption) | assumption)
       have q248 : a1_0 < (t243.length : Int) := of_decide_eq_true (by first | (with_reducible assumption) | assumption)
       obtain ⟨ad248, e248, hx248_0⟩ := Kd.at_int (Kd.R_reads' HO245.out).2.2 a1_0 p248 q248
       cases e248
       replace p248 := eq_true p248
       replace q248 := eq_true q248
       have p8 : 0 ≤ (a1_0 : Int) := of_decide_eq_true (by first | (with_reducible assumption) | assumption)
       have q8 : (a1_0 : Int) < ((t243.length : Int) : Int) := of_decide_eq_true (by first | (with_reducible assumption) | assumption)
       obtain ⟨go8, co8, eo8, gb8, gl8, cl8, HG8⟩ := Kd.R_form HO245.out (by omega)
       (first | cases eo8 | (injection eo8 with ea_ en_ ec_; (first | subst ea_ | (injection ea_ with ea_; subst ea_)); subst ec_; clear en_))
       have GB8 := Aside0.mk gb8
       have GG8 := Aside0.mk HG8
       clear gb8 gl8 HG8
       (first | simp only [add_plain] at hx248_0 | skip)
       obtain ⟨hx8_0, hf8_0⟩ := Kd.R_celln 0 HO245.out (a1_0 : Int) p8 q8
       replace p8 := eq_true p8
       replace q8 := eq_true q8
       obtain ⟨hy33_, hz33_⟩ := Kd.R_celln 0 HO245.out (a1_0 : Int) (of_decide_eq_true (by first | (with_reducible assumption) | assumption)) (of_decide_eq_true (by first | (with_reducible assumption) | assumption))
       have HP33 := Kd.R_putg HO245.out (a1_0 : Int) (wrap64 ((rd t243 a1_0) - t246))
       try go_wp2_with (first | ((with_reducible refine gate_store (t := 3) (p := 23) rfl ?_); refine store_event (t := 3) (p := 23) (v := ?vo_w34) (w1 := (w25.setCell ⟨go8, (a1_0 : Int).toNat, none⟩ (.int .i64 (wrap64 ((rd t243 a1_0) - t246))))) ?hg ?ho ?hn ?hr ?_; (case ho => rfl); (case hg => rfl); (case hn => rfl); (case hr => first | (go_simp; done) | (go_simp; rfl)); intro w34 hw; have hg : w25.grownBy w34 (some go8) := (by rw [hw]; exact HP33.2); have hp_ : Kd.R (Kd.int .i64) 3 w34 w.heap.size (fun k_ => some k_ ≠ (.slice Ao21 t240.length co21 : Value).ownBlock) (.slice (some ⟨go8, 0, none⟩) t243.length co23) y249 := (by rw [hw, Ny249.out]; exact HP33.1); clear HP33; replace BK237 := Aside0.mk (blk_grown (g := gb237) (o := .cells #[.slice A0_0 l0_0.length c0_0, .slice A0_1 l0_1.length c0_1] 29 (0, 0)) (bk BK237) hg (Kd.R_ne HO245.out BK237.out (by decide))); replace BK238 := Aside0.mk (blk_grown (g := gb238) (o := .cells #[.int .i64 a1_0, .int .i64 a1_1] 49 (0, 0)) (bk BK238) hg (Kd.R_ne HO245.out BK238.out (by decide))); replace BK239 := Aside0.mk (blk_grown (g := gb239) (o := .cells #[.slice none 0 0, .slice none 0 0] 29 (0, 0)) (bk BK239) hg (Kd.R_ne HO245.out BK239.out (by decide))); replace HO242 := Aside0.mk (Kd.R_after (v := (.slice (some ⟨go8, 0, none⟩) t243.length co23)) (v1 := (.slice (some ⟨go8, 0, none⟩) t243.length co23)) (ok := (fun _ => True)) (by (with_reducible repeat (first | apply Kd.R_alloc | apply Kd.R_drewN | apply Kd.R_drew)); exact Kd.R_mono HO242.out (fun _ hk => ⟨trivial, hk⟩)) hg (.inl rfl)); replace BK247 := Aside0.mk (blk_grown (g := gb247) (o := .cells #[.slice Ao21 t240.length co21, .slice (some ⟨go8, 0, none⟩) t243.length co23] 29 (0, 0)) (bk BK247) hg (Kd.R_ne HO245.out BK247.out (by decide))); replace HO245 := Aside0.mk (hp_); replace HB := Aside0.mk ((by rw [hw]; exact below_set (HB.out) GB8.out : Below w.heap.size w w34)); clear hg hw hp_; have hcz35_0 := bc0 BK238; have hcz35_1 := bc1 BK238; have hfz35_0 := blk_frozen BK238.out 0; have hfz35_1 := blk_frozen BK238.out 1; have hcz36_0 := bc0 BK247; have hcz36_1 := bc1 BK247; have hfz36_0 := blk_frozen BK247.out 0; have hfz36_1 := blk_frozen BK247.out 1; have p250 : 0 ≤ (a1_1 : Int) := of_decide_eq_true (by first | (with_reducible assumption) | assumption); have q250 : a1_1 < (y249.length : Int) := (by have h_ : (a1_1 : Int) < ((t243.length : Int) : Int) := of_decide_eq_true (by first | (with_reducible assumption) | assumption); first | (have e_ := (Kd.R_reads' HO245.out).1; omega) | simpa only [Ny249.out, List.length_set] using h_); have ql250 : ((a1_1 : Int) < ((t243.length : Int) : Int)) = True := eq_true (of_decide_eq_true (by first | (with_reducible assumption) | assumption)); obtain ⟨ad250, e250, hx250_0⟩ := Kd.at_int (Kd.R_reads' HO245.out).2.2 a1_1 p250 q250; obtain rfl : (⟨go8, 0, none⟩ : Addr) = ad250 := (by injection e250); (first | simp only [add_plain] at hx250_0 | simp only [add_at] at hx250_0 | simp only [Addr.add, Nat.zero_add] at hx250_0 | skip); replace p250 := eq_true p250; replace q250 := eq_true q250; have p12 : 0 ≤ (a1_1 : Int) := of_decide_eq_true (by first | (with_reducible assumption) | assumption); have q12 : (a1_1 : Int) < ((t243.length : Int) : Int) := of_decide_eq_true (by first | (with_reducible assumption) | assumption); obtain ⟨hx12_0, hf12_0⟩ := Kd.R_celln 0 HO245.out (a1_1 : Int) p12 q12; replace p12 := eq_true p12; replace q12 := eq_true q12; obtain ⟨hy37_, hz37_⟩ := Kd.R_celln 0 HO245.out (a1_1 : Int) (of_decide_eq_true (by first | (with_reducible assumption) | assumption)) (of_decide_eq_true (by first | (with_reducible assumption) | assumption)); have HP37 := Kd.R_putg HO245.out (a1_1 : Int) (wrap64 ((rd y249 a1_1) + t246))) | ((with_reducible refine gate_store (t := 3) (p := 35) rfl ?_); refine store_event (t := 3) (p := 35) (v := ?vo_w38) (w1 := (w34.setCell ⟨go8, (a1_1 : Int).toNat, none⟩ (.int .i64 (wrap64 ((rd y249 a1_1) + t246))))) ?hg ?ho ?hn ?hr ?_; (case ho => rfl); (case hg => rfl); (case hn => rfl); (case hr => first | (go_simp; done) | (go_simp; rfl)); intro w38 hw; have hg : w34.grownBy w38 (some go8) := (by rw [hw]; exact HP37.2); have hp_ : Kd.R (Kd.int .i64) 3 w38 w.heap.size (fun k_ => some k_ ≠ (.slice Ao21 t240.length co21 : Value).ownBlock) (.slice (some ⟨go8, 0, none⟩) t243.length co23) y251 := (by rw [hw, Ny251.out]; exact HP37.1); clear HP37; replace BK237 := Aside0.mk (blk_grown (g := gb237) (o := .cells #[.slice A0_0 l0_0.length c0_0, .slice A0_1 l0_1.length c0_1] 29 (0, 0)) (bk BK237) hg (Kd.R_ne HO245.out BK237.out (by decide))); replace BK238 := Aside0.mk (blk_grown (g := gb238) (o := .cells #[.int .i64 a1_0, .int .i64 a1_1] 49 (0, 0)) (bk BK238) hg (Kd.R_ne HO245.out BK238.out (by decide))); replace BK239 := Aside0.mk (blk_grown (g := gb239) (o := .cells #[.slice none 0 0, .slice none 0 0] 29 (0, 0)) (bk BK239) hg (Kd.R_ne HO245.out BK239.out (by decide))); replace HO242 := Aside0.mk (Kd.R_after (v := (.slice (some ⟨go8, 0, none⟩) t243.length co23)) (v1 := (.slice (some ⟨go8, 0, none⟩) t243.length co23)) (ok := (fun _ => True)) (rk HO242) hg (.inl rfl)); replace BK247 := Aside0.mk (blk_grown (g := gb247) (o := .cells #[.slice Ao21 t240.length co21, .slice (some ⟨go8, 0, none⟩) t243.length co23] 29 (0, 0)) (bk BK247) hg (Kd.R_ne HO245.out BK247.out (by decide))); replace HO245 := Aside0.mk (hp_); replace HB := Aside0.mk ((by rw [hw]; exact below_set (HB.out) GB8.out : Below w.heap.size w w38)); clear hg hw hp_; have hcz39_0 := bc0 BK247; have hcz39_1 := bc1 BK247; have hfz39_0 := blk_frozen BK247.out 0; have hfz39_1 := blk_frozen BK247.out 1; have hnb40 := NB239_237.out; have hnc40 := NB237_239.out; have hcz41_0 := bc0 BK239; have hcz41_1 := bc1 BK239; have hfz41_0 := blk_frozen BK239.out 0; have hfz41_1 := blk_frozen BK239.out 1))
       refine bodyPost_ret (results_cell_row rfl _ _ gb239 29 #[.slice Ao21 t240.length co21, .slice (some ⟨go8, 0, none⟩) t243.length co23] (0, 0) _ rfl (by (with_reducible repeat (first | refine blk_drewN ?_ _ | refine blk_drew ?_ | refine blk_alloc ?_ _)); refine blk_put (cs := #[.slice Ao21 t240.length co21, .slice none 0 0]) ?_ 1 _ rfl; (with_reducible repeat (first | refine blk_drewN ?_ _ | refine blk_drew ?_ | refine blk_alloc ?_ _)); refine blk_put (cs := #[.slice none 0 0, .slice none 0 0]) ?_ 0 _ rfl; exact bk BK239) Try.underlying29 rfl (by kernel_rfl)) rfl ?_
       exact ⟨_, _, by first | rfl | (simp [errW_none, errW_some] <;> rfl) | (simp [*, errW_none, errW_some] <;> rfl), by (with_reducible repeat (first | apply Kd.R_alloc | apply Kd.R_drewN | apply Kd.R_drew)); exact Kd.R_mono (Kd.R_far (p := ⟨gb239, 1, none⟩) (Kd.R_far (p := ⟨gb239, 0, none⟩) (Kd.R_types HO242.out BK239.out (by decide)) (fun _ hk => hk.2) (.slice Ao21 t240.length co21)) (fun _ hk => hk.2) (.slice (some ⟨go8, 0, none⟩) t243.length co23)) (fun _ hk => hk.1.2), by (with_reducible repeat (first | apply Kd.R_alloc | apply Kd.R_drewN | apply Kd.R_drew)); exact Kd.R_mono (Kd.R_far (p := ⟨gb239, 1, none⟩) (Kd.R_far (p := ⟨gb239, 0, none⟩) (Kd.R_types HO245.out BK239.out (by decide)) (fun _ hk => hk.2) (.slice Ao21 t240.length co21)) (fun _ hk => hk.2) (.slice (some ⟨go8, 0, none⟩) t243.length co23)) (fun _ hk => hk.1), bw HB⟩
      ·rw [if_neg c11] at H
       exact absurd H (by simp)
     ·rw [if_neg c10] at H
      exact absurd H (by simp)
    ·rw [if_neg c9] at H
     have c9b0 : decide (0 ≤ a1_1) = false := decide_eq_false c9
     clear c9
     simp only [Option.some.injEq, Prod.mk.injEq] at H
     obtain ⟨rfl, rfl⟩ := H
     go_enter Try.func59, Try.ntmps59
     try go_wp2_with (first | ((with_reducible refine gate_dst (N := 2) rfl ?_); refine bx 2 #[.slice A0_0 l0_0.length c0_0, .slice A0_1 l0_1.length c0_1] 29 ?_; intro gb237 hg w42 hbox hb; have BK237 := Aside0.mk (hbox); have GW237 := ge HB hg; have GE237 := ge HB hg; replace HB := bs HB hb; clear hb hbox hg) | ((with_reducible refine gate_dst (N := 3) rfl ?_); refine bx 3 #[.int .i64 a1_0, .int .i64 a1_1] 49 ?_; intro gb238 hg w43 hbox hb; have BK238 := Aside0.mk (hbox); have GW238 := ge HB hg; have GE238 := ge HB hg; replace HB := bs HB hb; have NB237_238 := nl BK237 hg; have NB238_237 := nr BK237 hg; replace BK237 := bb BK237 hb; clear hb hbox hg) | ((with_reducible refine gate_dst (N := 4) rfl ?_); refine bx 4 #[.slice none 0 0, .slice none 0 0] 29 ?_; intro gb239 hg w44 hbox hb; have BK239 := Aside0.mk (hbox); have GW239 := ge HB hg; have GE239 := ge HB hg; replace HB := bs HB hb; have NB237_239 := nl BK237 hg; have NB239_237 := nr BK237 hg; replace BK237 := bb BK237 hb; have NB238_239 := nl BK238 hg; have NB239_238 := nr BK238 hg; replace BK238 := bb BK238 hb; clear hb hbox hg))
     replace BK237 := Aside0.mk (blk_drew BK237.out)
     replace BK238 := Aside0.mk (blk_drew BK238.out)
     replace BK239 := Aside0.mk (blk_drew BK239.out)
     replace HB := Aside0.mk (below_drew1 HB.out)
     refine start_ (n := 8) (S := fun w' => w'.cell? ⟨gb237, 0, none⟩ = some (.slice A0_0 l0_0.length c0_0) ∧ w'.cell? ⟨gb237, 1, none⟩ = some (.slice A0_1 l0_1.length c0_1) ∧ w'.cell? ⟨gb238, 0, none⟩ = some (.int .i64 a1_0) ∧ w'.cell? ⟨gb238, 1, none⟩ = some (.int .i64 a1_1)) (ds := []) #[false, false, false, false, false, false, false, false] (by kernel_rfl) rfl rfl ⟨bc0 BK237, bc1 BK237, bc0 BK238, bc1 BK238⟩ (fun hHeld => ?_); refine with_tabW impl_Vessels_behind.tab1 impl_Vessels_behind.bits1 (fun HT_ HW_ => ?_)
     generalize w44.drew = w45 at BK237 BK238 BK239 HB hHeld ⊢
     refine take_ (i := 0) (N := some 7) (v := ?_) (a' := ?_) #[true, false, false, false, false, false, false, false] rfl rfl (take_ofW HT_.out HW_.out (by kernel_rfl)) (fun _ _ _ h => h) (Or.inl ⟨by rfl, ?_⟩) hHeld ?_ ?_
     rotate_left
     ·rintro w' ⟨s0, s1, s2, s3⟩
      go_simp
      with_reducible rfl
     rotate_left
     ·simp only [Act.put, List.setIfInBounds_toArray, List.set_cons_zero, List.set_cons_succ, i64_w, i32_w]
      rfl
     refine take_ (i := 2) (N := some 9) (v := ?_) (a' := ?_) #[true, false, true, false, false, false, false, false] rfl rfl (take_ofW HT_.out HW_.out (by kernel_rfl)) (fun _ _ _ h => h) (Or.inl ⟨by rfl, ?_⟩) hHeld ?_ ?_
     rotate_left
     ·rintro w' ⟨s0, s1, s2, s3⟩
      go_simp
      with_reducible rfl
     rotate_left
     ·simp only [Act.put, List.setIfInBounds_toArray, List.set_cons_zero, List.set_cons_succ, i64_w, i32_w]
      rfl
     refine take_ (i := 3) (N := some 10) (v := ?_) (a' := ?_) #[true, false, true, true, false, false, false, false] rfl rfl (take_ofW HT_.out HW_.out (by kernel_rfl)) (fun _ _ _ h => h) (Or.inl ⟨by rfl, ?_⟩) hHeld ?_ ?_
     rotate_left
     ·rintro w' ⟨s0, s1, s2, s3⟩
      go_simp
      with_reducible rfl
     rotate_left
     ·simp only [Act.put, List.setIfInBounds_toArray, List.set_cons_zero, List.set_cons_succ, i64_w, i32_w]
      rfl
     refine join_ (σ := Value × Value × Nat) 2 #[true, true, true, true, true, true, false, false] (fun s_ => [(8, .agg #[s_.1, s_.2.1]), (11, .int .i64 t246), (5, .pointer (some ⟨s_.2.2, 0, none⟩))]) (fun s_ w' => (w'.cell? ⟨gb237, 0, none⟩ = some (.slice A0_0 l0_0.length c0_0) ∧ w'.cell? ⟨gb237, 1, none⟩ = some (.slice A0_1 l0_1.length c0_1) ∧ w'.cell? ⟨gb238, 0, none⟩ = some (.int .i64 a1_0) ∧ w'.cell? ⟨gb238, 1, none⟩ = some (.int .i64 a1_1)) ∧ (Kd.R (Kd.int .i64) 3 w' w.heap.size (fun k_ => some k_ ≠ (s_.2.1 : Value).ownBlock) s_.1 t240) ∧ (Kd.R (Kd.int .i64) 3 w' w.heap.size (fun k_ => some k_ ≠ (s_.1 : Value).ownBlock) s_.2.1 t243) ∧ (w'.heap[gb237]? = some (.cells #[.slice A0_0 l0_0.length c0_0, .slice A0_1 l0_1.length c0_1] 29 (0, 0))) ∧ (w'.heap[gb238]? = some (.cells #[.int .i64 a1_0, .int .i64 a1_1] 49 (0, 0))) ∧ (w'.heap[gb239]? = some (.cells #[.slice none 0 0, .slice none 0 0] 29 (0, 0))) ∧ (w'.heap[s_.2.2]? = some (.cells #[.slice none 0 0, .slice none 0 0] 29 (0, 0))) ∧ (w.heap.size ≤ s_.2.2) ∧ (w.heap.size ≤ s_.2.2) ∧ (gb237 ≠ s_.2.2) ∧ (s_.2.2 ≠ gb237) ∧ (gb238 ≠ s_.2.2) ∧ (s_.2.2 ≠ gb238) ∧ (gb239 ≠ s_.2.2) ∧ (s_.2.2 ≠ gb239) ∧ (Below w.heap.size w w')) ?_ ?_
     rotate_left
     ·intro hCont
      refine two_ (i := 1) (j := 5) (Ni := some 8) (Nj := some 5) #[true, true, true, true, false, false, false, false] #[true, false, true, true, false, true, false, false] rfl rfl rfl rfl (two_of HT_.out (by kernel_rfl)) (by decide) (by decide) (fun K hK => ?_) (fun K hK => ?_)
      ·skip
       refine goes_ Try.func73 (by kernel_rfl) rfl #[.agg #[.slice A0_0 l0_0.length c0_0, .slice A0_1 l0_1.length c0_1]] (by rfl) rfl rfl (by (try simp only [List.map_toArray, List.map_cons, List.map_nil]); first | done | rfl | (simp only [List.length_drop, List.length_take]; rfl)) ?_
       with_reducible refine (impl_Vessels_own.calls _ _ l0_0 _ _ l0_1 t240 t243 _ ?side1 ?side2 ?side3 ?side4 A3.out).mono ?_
       (case side1 => exact ck HR0_0 HB)
       (case side2 => exact HC0_0.out)
       (case side3 => exact ck HR0_1 HB)
       (case side4 => exact HC0_1.out)
       rintro e w46 ⟨v241, v244, rfl, ho0, ho1, hb⟩
       refine ⟨_, rfl, ?_⟩
       have HO242 := lo ho0 HB
       have HO245 := lo ho1 HB
       replace BK237 := bb BK237 hb
       replace BK238 := bb BK238 hb
       replace BK239 := bb BK239 hb
       replace HB := bs HB hb
       (try clear hb)
       (try clear hb2)
       (try clear hk)
       (try clear hi)
       (try clear ho0)
       (try clear ho1)
       refine hK.out _ _ ⟨bc0 BK237, bc1 BK237, bc0 BK238, bc1 BK238⟩ (fun hHeld => ?_)
       clear hK K
       refine norm_ (a' := ?_) ?_ ?_
       rotate_left
       ·show Act.put _ (some 8) _ = _
        simp only [Act.put, List.setIfInBounds_toArray, List.set_cons_zero, List.set_cons_succ, i64_w, i32_w]
        rfl
       refine two_ (i := 4) (j := 5) (Ni := some 11) (Nj := some 5) #[true, true, true, true, true, false, false, false] #[true, true, true, true, false, true, false, false] rfl rfl rfl rfl (two_of HT_.out (by kernel_rfl)) (by decide) (by decide) (fun K hK => ?_) (fun K hK => ?_)
       ·skip
        refine goes_ Try.func58 (by kernel_rfl) rfl #[.agg #[.slice A0_0 l0_0.length c0_0, .slice A0_1 l0_1.length c0_1], .agg #[.int .i64 a1_0, .int .i64 a1_1]] (by rfl) rfl rfl (by (try simp only [List.map_toArray, List.map_cons, List.map_nil]); first | done | rfl | (simp only [List.length_drop, List.length_take]; rfl)) ?_
        with_reducible refine (impl_Vessels_amount.calls _ _ l0_0 _ _ l0_1 a1_0 a1_1 t246 _ ?side1 ?side2 ?side3 ?side4 A4.out).mono ?_
        (case side1 => exact ck HR0_0 HB)
        (case side2 => exact HC0_0.out)
        (case side3 => exact ck HR0_1 HB)
        (case side4 => exact HC0_1.out)
        rintro e w47 ⟨rfl, hb⟩
        refine ⟨_, rfl, ?_⟩
        replace HO242 := rb HO242 hb
        replace HO245 := rb HO245 hb
        replace BK237 := bb BK237 hb
        replace BK238 := bb BK238 hb
        replace BK239 := bb BK239 hb
        replace HB := bs HB hb
        (try clear hb)
        (try clear hb2)
        (try clear hk)
        (try clear hi)
        refine hK.out _ _ ⟨bc0 BK237, bc1 BK237, bc0 BK238, bc1 BK238⟩ (fun hHeld => ?_)
        clear hK K
        refine norm_ (a' := ?_) ?_ ?_
        rotate_left
        ·show Act.put _ (some 11) _ = _
         simp only [Act.put, List.setIfInBounds_toArray, List.set_cons_zero, List.set_cons_succ, i64_w, i32_w]
         rfl
        refine one_ (i := 5) (N := some 5) #[true, true, true, true, true, true, false, false] rfl rfl (one_of HT_.out (by kernel_rfl)) (by decide) (fun K hK => ?_)
        refine box_step ?hg (N := 5) ?hd (cs := #[.slice none 0 0, .slice none 0 0]) (t := 29) ?hr ?_; (case hd => rfl); (case hg => rfl); (case hr => first | (go_simp; done) | (go_simp; rfl))
        intro gb247 hg w48 hbox hb
        replace HO242 := rb HO242 hb
        replace HO245 := rb HO245 hb
        have BK247 := Aside0.mk (hbox)
        have GW247 := ge HB hg
        have GE247 := ge HB hg
        replace HB := bs HB hb
        have NB237_247 := nl BK237 hg
        have NB247_237 := nr BK237 hg
        replace BK237 := bb BK237 hb
        have NB238_247 := nl BK238 hg
        have NB247_238 := nr BK238 hg
        replace BK238 := bb BK238 hb
        have NB239_247 := nl BK239 hg
        have NB247_239 := nr BK239 hg
        replace BK239 := bb BK239 hb
        clear hb hbox hg
        refine hK.out _ _ ⟨bc0 BK237, bc1 BK237, bc0 BK238, bc1 BK238⟩ (fun hHeld => ?_)
        clear hK K
        refine norm_ (a' := ?_) ?_ ?_
        rotate_left
        ·show Act.put _ (some 5) _ = _
         simp only [Act.put, List.setIfInBounds_toArray, List.set_cons_zero, List.set_cons_succ, i64_w, i32_w]
         rfl
        exact norm_ (by simp only [putAll, Act.put, List.setIfInBounds_toArray, List.set_cons_zero, List.set_cons_succ]) (hCont (v241, v244, gb247) _ ⟨hHeld, (rk HO242), (rk HO245), (bk BK237), (bk BK238), (bk BK239), (bk BK247), GW247.out, GE247.out, NB237_247.out, NB247_237.out, NB238_247.out, NB247_238.out, NB239_247.out, NB247_239.out, (bw HB)⟩)
       ·skip
        refine box_step ?hg (N := 5) ?hd (cs := #[.slice none 0 0, .slice none 0 0]) (t := 29) ?hr ?_; (case hd => rfl); (case hg => rfl); (case hr => first | (go_simp; done) | (go_simp; rfl))
        intro gb247 hg w47 hbox hb
        replace HO242 := rb HO242 hb
        replace HO245 := rb HO245 hb
        have BK247 := Aside0.mk (hbox)
        have GW247 := ge HB hg
        have GE247 := ge HB hg
        replace HB := bs HB hb
        have NB237_247 := nl BK237 hg
        have NB247_237 := nr BK237 hg
        replace BK237 := bb BK237 hb
        have NB238_247 := nl BK238 hg
        have NB247_238 := nr BK238 hg
        replace BK238 := bb BK238 hb
        have NB239_247 := nl BK239 hg
        have NB247_239 := nr BK239 hg
        replace BK239 := bb BK239 hb
        clear hb hbox hg
        refine hK.out _ _ ⟨bc0 BK237, bc1 BK237, bc0 BK238, bc1 BK238⟩ (fun hHeld => ?_)
        clear hK K
        refine norm_ (a' := ?_) ?_ ?_
        rotate_left
        ·show Act.put _ (some 5) _ = _
         simp only [Act.put, List.setIfInBounds_toArray, List.set_cons_zero, List.set_cons_succ, i64_w, i32_w]
         rfl
        refine one_ (i := 4) (N := some 11) #[true, true, true, true, true, true, false, false] rfl rfl (one_of HT_.out (by kernel_rfl)) (by decide) (fun K hK => ?_)
        refine goes_ Try.func58 (by kernel_rfl) rfl #[.agg #[.slice A0_0 l0_0.length c0_0, .slice A0_1 l0_1.length c0_1], .agg #[.int .i64 a1_0, .int .i64 a1_1]] (by rfl) rfl rfl (by (try simp only [List.map_toArray, List.map_cons, List.map_nil]); first | done | rfl | (simp only [List.length_drop, List.length_take]; rfl)) ?_
        with_reducible refine (impl_Vessels_amount.calls _ _ l0_0 _ _ l0_1 a1_0 a1_1 t246 _ ?side1 ?side2 ?side3 ?side4 A4.out).mono ?_
        (case side1 => exact ck HR0_0 HB)
        (case side2 => exact HC0_0.out)
        (case side3 => exact ck HR0_1 HB)
        (case side4 => exact HC0_1.out)
        rintro e w48 ⟨rfl, hb⟩
        refine ⟨_, rfl, ?_⟩
        replace HO242 := rb HO242 hb
        replace HO245 := rb HO245 hb
        replace BK237 := bb BK237 hb
        replace BK238 := bb BK238 hb
        replace BK239 := bb BK239 hb
        replace BK247 := bb BK247 hb
        replace HB := bs HB hb
        (try clear hb)
        (try clear hb2)
        (try clear hk)
        (try clear hi)
        refine hK.out _ _ ⟨bc0 BK237, bc1 BK237, bc0 BK238, bc1 BK238⟩ (fun hHeld => ?_)
        clear hK K
        refine norm_ (a' := ?_) ?_ ?_
        rotate_left
        ·show Act.put _ (some 11) _ = _
         simp only [Act.put, List.setIfInBounds_toArray, List.set_cons_zero, List.set_cons_succ, i64_w, i32_w]
         rfl
        exact norm_ (by simp only [putAll, Act.put, List.setIfInBounds_toArray, List.set_cons_zero, List.set_cons_succ]) (hCont (v241, v244, gb247) _ ⟨hHeld, (rk HO242), (rk HO245), (bk BK237), (bk BK238), (bk BK239), (bk BK247), GW247.out, GE247.out, NB237_247.out, NB247_237.out, NB238_247.out, NB247_238.out, NB239_247.out, NB247_239.out, (bw HB)⟩)
      ·skip
       refine box_step ?hg (N := 5) ?hd (cs := #[.slice none 0 0, .slice none 0 0]) (t := 29) ?hr ?_; (case hd => rfl); (case hg => rfl); (case hr => first | (go_simp; done) | (go_simp; rfl))
       intro gb247 hg w46 hbox hb
       have BK247 := Aside0.mk (hbox)
       have GW247 := ge HB hg
       have GE247 := ge HB hg
       replace HB := bs HB hb
       have NB237_247 := nl BK237 hg
       have NB247_237 := nr BK237 hg
       replace BK237 := bb BK237 hb
       have NB238_247 := nl BK238 hg
       have NB247_238 := nr BK238 hg
       replace BK238 := bb BK238 hb
       have NB239_247 := nl BK239 hg
       have NB247_239 := nr BK239 hg
       replace BK239 := bb BK239 hb
       clear hb hbox hg
       refine hK.out _ _ ⟨bc0 BK237, bc1 BK237, bc0 BK238, bc1 BK238⟩ (fun hHeld => ?_)
       clear hK K
       refine norm_ (a' := ?_) ?_ ?_
       rotate_left
       ·show Act.put _ (some 5) _ = _
        simp only [Act.put, List.setIfInBounds_toArray, List.set_cons_zero, List.set_cons_succ, i64_w, i32_w]
        rfl
       refine one_ (i := 1) (N := some 8) #[true, true, true, true, false, true, false, false] rfl rfl (one_of HT_.out (by kernel_rfl)) (by decide) (fun K hK => ?_)
       refine goes_ Try.func73 (by kernel_rfl) rfl #[.agg #[.slice A0_0 l0_0.length c0_0, .slice A0_1 l0_1.length c0_1]] (by rfl) rfl rfl (by (try simp only [List.map_toArray, List.map_cons, List.map_nil]); first | done | rfl | (simp only [List.length_drop, List.length_take]; rfl)) ?_
       with_reducible refine (impl_Vessels_own.calls _ _ l0_0 _ _ l0_1 t240 t243 _ ?side1 ?side2 ?side3 ?side4 A3.out).mono ?_
       (case side1 => exact ck HR0_0 HB)
       (case side2 => exact HC0_0.out)
       (case side3 => exact ck HR0_1 HB)
       (case side4 => exact HC0_1.out)
       rintro e w47 ⟨v241, v244, rfl, ho0, ho1, hb⟩
       refine ⟨_, rfl, ?_⟩
       have HO242 := lo ho0 HB
       have HO245 := lo ho1 HB
       replace BK237 := bb BK237 hb
       replace BK238 := bb BK238 hb
       replace BK239 := bb BK239 hb
       replace BK247 := bb BK247 hb
       replace HB := bs HB hb
       (try clear hb)
       (try clear hb2)
       (try clear hk)
       (try clear hi)
       (try clear ho0)
       (try clear ho1)
       refine hK.out _ _ ⟨bc0 BK237, bc1 BK237, bc0 BK238, bc1 BK238⟩ (fun hHeld => ?_)
       clear hK K
       refine norm_ (a' := ?_) ?_ ?_
       rotate_left
       ·show Act.put _ (some 8) _ = _
        simp only [Act.put, List.setIfInBounds_toArray, List.set_cons_zero, List.set_cons_succ, i64_w, i32_w]
        rfl
       refine one_ (i := 4) (N := some 11) #[true, true, true, true, true, true, false, false] rfl rfl (one_of HT_.out (by kernel_rfl)) (by decide) (fun K hK => ?_)
       refine goes_ Try.func58 (by kernel_rfl) rfl #[.agg #[.slice A0_0 l0_0.length c0_0, .slice A0_1 l0_1.length c0_1], .agg #[.int .i64 a1_0, .int .i64 a1_1]] (by rfl) rfl rfl (by (try simp only [List.map_toArray, List.map_cons, List.map_nil]); first | done | rfl | (simp only [List.length_drop, List.length_take]; rfl)) ?_
       with_reducible refine (impl_Vessels_amount.calls _ _ l0_0 _ _ l0_1 a1_0 a1_1 t246 _ ?side1 ?side2 ?side3 ?side4 A4.out).mono ?_
       (case side1 => exact ck HR0_0 HB)
       (case side2 => exact HC0_0.out)
       (case side3 => exact ck HR0_1 HB)
       (case side4 => exact HC0_1.out)
       rintro e w48 ⟨rfl, hb⟩
       refine ⟨_, rfl, ?_⟩
       replace HO242 := rb HO242 hb
       replace HO245 := rb HO245 hb
       replace BK237 := bb BK237 hb
       replace BK238 := bb BK238 hb
       replace BK239 := bb BK239 hb
       replace BK247 := bb BK247 hb
       replace HB := bs HB hb
       (try clear hb)
       (try clear hb2)
       (try clear hk)
       (try clear hi)
       refine hK.out _ _ ⟨bc0 BK237, bc1 BK237, bc0 BK238, bc1 BK238⟩ (fun hHeld => ?_)
       clear hK K
       refine norm_ (a' := ?_) ?_ ?_
       rotate_left
       ·show Act.put _ (some 11) _ = _
        simp only [Act.put, List.setIfInBounds_toArray, List.set_cons_zero, List.set_cons_succ, i64_w, i32_w]
        rfl
       exact norm_ (by simp only [putAll, Act.put, List.setIfInBounds_toArray, List.set_cons_zero, List.set_cons_succ]) (hCont (v241, v244, gb247) _ ⟨hHeld, (rk HO242), (rk HO245), (bk BK237), (bk BK238), (bk BK239), (bk BK247), GW247.out, GE247.out, NB237_247.out, NB247_237.out, NB238_247.out, NB247_238.out, NB239_247.out, NB247_239.out, (bw HB)⟩)
     rintro ⟨v241, v244, gb247⟩ w49 ⟨hS_, h0_, h1_, h2_, h3_, h4_, h5_, h6_, h7_, h8_, h9_, h10_, h11_, h12_, h13_, h14_⟩
     have HO242 := Aside0.mk h0_
     have HO245 := Aside0.mk h1_
     replace BK237 := Aside0.mk h2_
     replace BK238 := Aside0.mk h3_
     replace BK239 := Aside0.mk h4_
     have BK247 := Aside0.mk h5_
     have GW247 := GeC.mk h6_
     have GE247 := GeC.mk h7_
     have NB237_247 := NeC.mk h8_
     have NB247_237 := NeC.mk h9_
     have NB238_247 := NeC.mk h10_
     have NB247_238 := NeC.mk h11_
     have NB239_247 := NeC.mk h12_
     have NB247_239 := NeC.mk h13_
     replace HB := Aside0.mk h14_
     clear h0_ h1_ h2_ h3_ h4_ h5_ h6_ h7_ h8_ h9_ h10_ h11_ h12_ h13_ h14_
     have hHeld : w49.cell? ⟨gb237, 0, none⟩ = some (.slice A0_0 l0_0.length c0_0) ∧ w49.cell? ⟨gb237, 1, none⟩ = some (.slice A0_1 l0_1.length c0_1) ∧ w49.cell? ⟨gb238, 0, none⟩ = some (.int .i64 a1_0) ∧ w49.cell? ⟨gb238, 1, none⟩ = some (.int .i64 a1_1) := hS_
     obtain ⟨Ao50, co50, eo50⟩ := Kd.R_slice HO242.out
     (first | subst eo50 | (injection eo50 with f1_ f2_ f3_; have f4_ := f1_.symm; have f5_ := f3_.symm; clear f1_ f2_ f3_; subst f4_; subst f5_))
     obtain ⟨Ao52, co52, eo52⟩ := Kd.R_slice HO245.out
     (first | subst eo52 | (injection eo52 with f1_ f2_ f3_; have f4_ := f1_.symm; have f5_ := f3_.symm; clear f1_ f2_ f3_; subst f4_; subst f5_))
     refine norm_ (a' := ?_) ?_ ?_
     rotate_left
     ·simp only [putAll, Act.put, List.setIfInBounds_toArray, List.set_cons_zero, List.set_cons_succ]
      rfl
     refine one_ (i := 6) (N := none) #[true, true, true, true, true, true, true, false] rfl rfl (one_of HT_.out (by kernel_rfl)) (by decide) (fun K hK => ?_)
     have hs51 : w49.cell? ⟨gb247, 0, none⟩ = some (.slice none 0 0) := bc0 BK247
     have hfs51 := blk_frozen BK247.out 0
     have hns51_0 := NB237_247.out
     have hns51_1 := NB238_247.out
     have hns51_2 := NB239_247.out
     have hms51_0 := NB247_237.out
     have hms51_1 := NB247_238.out
     have hms51_2 := NB247_239.out
     have hs53 : w49.cell? ⟨gb247, 1, none⟩ = some (.slice none 0 0) := bc1 BK247
     have hfs53 := blk_frozen BK247.out 1
     have hns53_0 := NB237_247.out
     have hns53_1 := NB238_247.out
     have hns53_2 := NB239_247.out
     have hms53_0 := NB247_237.out
     have hms53_1 := NB247_238.out
     have hms53_2 := NB247_239.out
     refine skip_ (w1 := ?_) (by rfl) rfl ?_ ?_
     rotate_left
     ·go_simp
      rfl
     refine hK.out _ _ ⟨((cell_far (p := ⟨gb247, _, none⟩) NB237_247.out _).trans (((cell_far (p := ⟨gb247, _, none⟩) NB237_247.out _).trans (hHeld.1)))), ((cell_far (p := ⟨gb247, _, none⟩) NB237_247.out _).trans (((cell_far (p := ⟨gb247, _, none⟩) NB237_247.out _).trans (hHeld.2.1)))), ((cell_far (p := ⟨gb247, _, none⟩) NB238_247.out _).trans (((cell_far (p := ⟨gb247, _, none⟩) NB238_247.out _).trans (hHeld.2.2.1)))), ((cell_far (p := ⟨gb247, _, none⟩) NB238_247.out _).trans (((cell_far (p := ⟨gb247, _, none⟩) NB238_247.out _).trans (hHeld.2.2.2))))⟩ (fun hHeld => ?_)
     clear hK K
     refine pure_ (i := 7) (N := some 6) (v := ?_) (a' := ?_) #[true, true, true, true, true, true, true, true] rfl rfl (any_of HT_.out (by kernel_rfl)) (fun _ _ _ h => h) (Or.inl ⟨by rfl, ?_⟩) ?_ ?_
     rotate_left
     ·intro w'
      go_simp
      with_reducible rfl
     rotate_left
     ·simp only [Act.put, List.setIfInBounds_toArray, List.set_cons_zero, List.set_cons_succ, i64_w, i32_w]
      rfl
     refine done_ (done_of HT_.out (by kernel_rfl)) ?_
     have n0_ : Aside0 (Kd.R (Kd.int .i64) 3 ((w49.setCell ⟨gb247, 0, none⟩ (.slice Ao50 t240.length co50)).setCell ⟨gb247, 1, none⟩ (.slice Ao52 t243.length co52)) w.heap.size (fun k_ => some k_ ≠ (.slice Ao52 t243.length co52 : Value).ownBlock) (.slice Ao50 t240.length co50) t240) := ⟨by (with_reducible repeat (first | apply Kd.R_alloc | apply Kd.R_drewN | apply Kd.R_drew)); exact Kd.R_mono (Kd.R_far (p := ⟨gb247, 1, none⟩) (Kd.R_far (p := ⟨gb247, 0, none⟩) (Kd.R_types HO242.out BK247.out (by decide)) (fun _ hk => hk.2) (.slice Ao50 t240.length co50)) (fun _ hk => hk.2) (.slice Ao52 t243.length co52)) (fun _ hk => hk.1)⟩
     have n1_ : Aside0 (Kd.R (Kd.int .i64) 3 ((w49.setCell ⟨gb247, 0, none⟩ (.slice Ao50 t240.length co50)).setCell ⟨gb247, 1, none⟩ (.slice Ao52 t243.length co52)) w.heap.size (fun k_ => some k_ ≠ (.slice Ao50 t240.length co50 : Value).ownBlock) (.slice Ao52 t243.length co52) t243) := ⟨by (with_reducible repeat (first | apply Kd.R_alloc | apply Kd.R_drewN | apply Kd.R_drew)); exact Kd.R_mono (Kd.R_far (p := ⟨gb247, 1, none⟩) (Kd.R_far (p := ⟨gb247, 0, none⟩) (Kd.R_types HO245.out BK247.out (by decide)) (fun _ hk => hk.2) (.slice Ao50 t240.length co50)) (fun _ hk => hk.2) (.slice Ao52 t243.length co52)) (fun _ hk => hk.1)⟩
     have n2_ : Aside0 (((w49.setCell ⟨gb247, 0, none⟩ (.slice Ao50 t240.length co50)).setCell ⟨gb247, 1, none⟩ (.slice Ao52 t243.length co52)).heap[gb237]? = some (.cells #[.slice A0_0 l0_0.length c0_0, .slice A0_1 l0_1.length c0_1] 29 (0, 0))) := ⟨bk BK237⟩
     have n3_ : Aside0 (((w49.setCell ⟨gb247, 0, none⟩ (.slice Ao50 t240.length co50)).setCell ⟨gb247, 1, none⟩ (.slice Ao52 t243.length co52)).heap[gb238]? = some (.cells #[.int .i64 a1_0, .int .i64 a1_1] 49 (0, 0))) := ⟨bk BK238⟩
     have n4_ : Aside0 (((w49.setCell ⟨gb247, 0, none⟩ (.slice Ao50 t240.length co50)).setCell ⟨gb247, 1, none⟩ (.slice Ao52 t243.length co52)).heap[gb239]? = some (.cells #[.slice none 0 0, .slice none 0 0] 29 (0, 0))) := ⟨bk BK239⟩
     have n5_ : Aside0 (((w49.setCell ⟨gb247, 0, none⟩ (.slice Ao50 t240.length co50)).setCell ⟨gb247, 1, none⟩ (.slice Ao52 t243.length co52)).heap[gb247]? = some (.cells #[.slice Ao50 t240.length co50, .slice Ao52 t243.length co52] 29 (0, 0))) := ⟨by (with_reducible repeat (first | refine blk_drewN ?_ _ | refine blk_drew ?_ | refine blk_alloc ?_ _)); refine blk_put (cs := #[.slice Ao50 t240.length co50, .slice none 0 0]) ?_ 1 _ rfl; (with_reducible repeat (first | refine blk_drewN ?_ _ | refine blk_drew ?_ | refine blk_alloc ?_ _)); refine blk_put (cs := #[.slice none 0 0, .slice none 0 0]) ?_ 0 _ rfl; exact bk BK247⟩
     have n6_ : Aside0 (Below w.heap.size w ((w49.setCell ⟨gb247, 0, none⟩ (.slice Ao50 t240.length co50)).setCell ⟨gb247, 1, none⟩ (.slice Ao52 t243.length co52))) := ⟨bw HB⟩
     (try clear HO242)
     (try clear HO245)
     (try clear BK237)
     (try clear BK238)
     (try clear BK239)
     (try clear BK247)
     (try clear HB)
     generalize ((w49.setCell ⟨gb247, 0, none⟩ (.slice Ao50 t240.length co50)).setCell ⟨gb247, 1, none⟩ (.slice Ao52 t243.length co52)) = w54 at n0_ n1_ n2_ n3_ n4_ n5_ n6_ ⊢
     have HO242 := n0_
     have HO245 := n1_
     have BK237 := n2_
     have BK238 := n3_
     have BK239 := n4_
     have BK247 := n5_
     have HB := n6_
     clear n0_ n1_ n2_ n3_ n4_ n5_ n6_
     have hnb55 := NB238_237.out
     have hnc55 := NB237_238.out
     have hnb56 := NB238_239.out
     have hnc56 := NB239_238.out
     have hnb57 := NB238_247.out
     have hnc57 := NB247_238.out
     have hcz58_0 := bc0 BK238
     have hcz58_1 := bc1 BK238
     have hfz58_0 := blk_frozen BK238.out 0
     have hfz58_1 := blk_frozen BK238.out 1
     have hnb59 := NB247_237.out
     have hnc59 := NB237_247.out
     have hnb60 := NB247_239.out
     have hnc60 := NB239_247.out
     have hcz61_0 := bc0 BK247
     have hcz61_1 := bc1 BK247
     have hfz61_0 := blk_frozen BK247.out 0
     have hfz61_1 := blk_frozen BK247.out 1
     have p248 : 0 ≤ (a1_0 : Int) := of_decide_eq_true (by first | (with_reducible assumption) | assumption)
     have q248 : a1_0 < (t243.length : Int) := of_decide_eq_true (by first | (with_reducible assumption) | assumption)
     obtain ⟨ad248, e248, hx248_0⟩ := Kd.at_int (Kd.R_reads' HO245.out).2.2 a1_0 p248 q248
     cases e248
     replace p248 := eq_true p248
     replace q248 := eq_true q248
     have p8 : 0 ≤ (a1_0 : Int) := of_decide_eq_true (by first | (with_reducible assumption) | assumption)
     have q8 : (a1_0 : Int) < ((t243.length : Int) : Int) := of_decide_eq_true (by first | (with_reducible assumption) | assumption)
     obtain ⟨go8, co8, eo8, gb8, gl8, cl8, HG8⟩ := Kd.R_form HO245.out (by omega)
     (first | cases eo8 | (injection eo8 with ea_ en_ ec_; (first | subst ea_ | (injection ea_ with ea_; subst ea_)); subst ec_; clear en_))
     have GB8 := Aside0.mk gb8
     have GG8 := Aside0.mk HG8
     clear gb8 gl8 HG8
     (first | simp only [add_plain] at hx248_0 | skip)
     obtain ⟨hx8_0, hf8_0⟩ := Kd.R_celln 0 HO245.out (a1_0 : Int) p8 q8
     replace p8 := eq_true p8
     replace q8 := eq_true q8
     obtain ⟨hy62_, hz62_⟩ := Kd.R_celln 0 HO245.out (a1_0 : Int) (of_decide_eq_true (by first | (with_reducible assumption) | assumption)) (of_decide_eq_true (by first | (with_reducible assumption) | assumption))
     have HP62 := Kd.R_putg HO245.out (a1_0 : Int) (wrap64 ((rd t243 a1_0) - t246))
     try go_wp2_with (first | ((with_reducible refine gate_store (t := 3) (p := 23) rfl ?_); refine store_event (t := 3) (p := 23) (v := ?vo_w63) (w1 := (w54.setCell ⟨go8, (a1_0 : Int).toNat, none⟩ (.int .i64 (wrap64 ((rd t243 a1_0) - t246))))) ?hg ?ho ?hn ?hr ?_; (case ho => rfl); (case hg => rfl); (case hn => rfl); (case hr => first | (go_simp; done) | (go_simp; rfl)); intro w63 hw; have hg : w54.grownBy w63 (some go8) := (by rw [hw]; exact HP62.2); have hp_ : Kd.R (Kd.int .i64) 3 w63 w.heap.size (fun k_ => some k_ ≠ (.slice Ao50 t240.length co50 : Value).ownBlock) (.slice (some ⟨go8, 0, none⟩) t243.length co52) y249 := (by rw [hw, Ny249.out]; exact HP62.1); clear HP62; replace BK237 := Aside0.mk (blk_grown (g := gb237) (o := .cells #[.slice A0_0 l0_0.length c0_0, .slice A0_1 l0_1.length c0_1] 29 (0, 0)) (bk BK237) hg (Kd.R_ne HO245.out BK237.out (by decide))); replace BK238 := Aside0.mk (blk_grown (g := gb238) (o := .cells #[.int .i64 a1_0, .int .i64 a1_1] 49 (0, 0)) (bk BK238) hg (Kd.R_ne HO245.out BK238.out (by decide))); replace BK239 := Aside0.mk (blk_grown (g := gb239) (o := .cells #[.slice none 0 0, .slice none 0 0] 29 (0, 0)) (bk BK239) hg (Kd.R_ne HO245.out BK239.out (by decide))); replace HO242 := Aside0.mk (Kd.R_after (v := (.slice (some ⟨go8, 0, none⟩) t243.length co52)) (v1 := (.slice (some ⟨go8, 0, none⟩) t243.length co52)) (ok := (fun _ => True)) (by (with_reducible repeat (first | apply Kd.R_alloc | apply Kd.R_drewN | apply Kd.R_drew)); exact Kd.R_mono HO242.out (fun _ hk => ⟨trivial, hk⟩)) hg (.inl rfl)); replace BK247 := Aside0.mk (blk_grown (g := gb247) (o := .cells #[.slice Ao50 t240.length co50, .slice (some ⟨go8, 0, none⟩) t243.length co52] 29 (0, 0)) (bk BK247) hg (Kd.R_ne HO245.out BK247.out (by decide))); replace HO245 := Aside0.mk (hp_); replace HB := Aside0.mk ((by rw [hw]; exact below_set (HB.out) GB8.out : Below w.heap.size w w63)); clear hg hw hp_; have hcz64_0 := bc0 BK238; have hcz64_1 := bc1 BK238; have hfz64_0 := blk_frozen BK238.out 0; have hfz64_1 := blk_frozen BK238.out 1; have hcz65_0 := bc0 BK247; have hcz65_1 := bc1 BK247; have hfz65_0 := blk_frozen BK247.out 0; have hfz65_1 := blk_frozen BK247.out 1; have hnb66 := NB239_237.out; have hnc66 := NB237_239.out; have hcz67_0 := bc0 BK239; have hcz67_1 := bc1 BK239; have hfz67_0 := blk_frozen BK239.out 0; have hfz67_1 := blk_frozen BK239.out 1))
     refine bodyPost_ret (results_cell_row rfl _ _ gb239 29 #[.slice Ao50 t240.length co50, .slice (some ⟨go8, 0, none⟩) t243.length co52] (0, 0) _ rfl (by (with_reducible repeat (first | refine blk_drewN ?_ _ | refine blk_drew ?_ | refine blk_alloc ?_ _)); refine blk_put (cs := #[.slice Ao50 t240.length co50, .slice none 0 0]) ?_ 1 _ rfl; (with_reducible repeat (first | refine blk_drewN ?_ _ | refine blk_drew ?_ | refine blk_alloc ?_ _)); refine blk_put (cs := #[.slice none 0 0, .slice none 0 0]) ?_ 0 _ rfl; exact bk BK239) Try.underlying29 rfl (by kernel_rfl)) rfl ?_
     exact ⟨_, _, by first | rfl | (simp [errW_none, errW_some] <;> rfl) | (simp [*, errW_none, errW_some] <;> rfl), by (with_reducible repeat (first | apply Kd.R_alloc | apply Kd.R_drewN | apply Kd.R_drew)); exact Kd.R_mono (Kd.R_far (p := ⟨gb239, 1, none⟩) (Kd.R_far (p := ⟨gb239, 0, none⟩) (Kd.R_types HO242.out BK239.out (by decide)) (fun _ hk => hk.2) (.slice Ao50 t240.length co50)) (fun _ hk => hk.2) (.slice (some ⟨go8, 0, none⟩) t243.length co52)) (fun _ hk => hk.1.2), by (with_reducible repeat (first | apply Kd.R_alloc | apply Kd.R_drewN | apply Kd.R_drew)); exact Kd.R_mono (Kd.R_far (p := ⟨gb239, 1, none⟩) (Kd.R_far (p := ⟨gb239, 0, none⟩) (Kd.R_types HO245.out BK239.out (by decide)) (fun _ hk => hk.2) (.slice Ao50 t240.length co50)) (fun _ hk => hk.2) (.slice (some ⟨go8, 0, none⟩) t243.length co52)) (fun _ hk => hk.1), bw HB⟩
   ·rw [if_neg c7] at H
    exact absurd H (by simp)
  ·rw [if_neg c6] at H
   exact absurd H (by simp)
 ·rw [if_neg c5] at H
  have c5b0 : decide (0 ≤ a1_0) = false := decide_eq_false c5
  clear c5
  by_cases c68 : a1_1 ≥ 0
  ·rw [if_pos c68] at H
   have c68b0 : decide (0 ≤ a1_1) = true := decide_eq_true c68
   clear c68
   by_cases c69 : 0 ≤ a1_1
   ·rw [if_pos c69] at H
    have c69b0 : decide (0 ≤ a1_1) = true := decide_eq_true c69
    clear c69
    by_cases c70 : a1_1 < (t243.length : Int)
    ·rw [if_pos c70] at H
     have c70b0 : decide (a1_1 < (t243.length : Int)) = true := decide_eq_true c70
     clear c70
     obtain ⟨y253, hy253⟩ : ∃ y_ : List Int, y_ = (t243.set (a1_1 : Int).toNat (wrap64 ((rd t243 a1_1) + t246))) := ⟨_, rfl⟩
     replace H : (some (t240, y253)) = some (r1, r2) := by first | (rw [hy253]; with_reducible exact H) | (have H2_ := (Option.bind_some _ _).symm.trans H; rw [hy253]; with_reducible exact H2_) | (have H2_ := (Option.bind_some _ _).symm.trans H; with_reducible exact H2_) | with_reducible exact H | (rw [hy253]; exact H) | exact H
     have Ny253 := Aside0.mk hy253
     clear hy253
     simp only [Option.some.injEq, Prod.mk.injEq] at H
     obtain ⟨rfl, rfl⟩ := H
     go_enter Try.func59, Try.ntmps59
     try go_wp2_with (first | ((with_reducible refine gate_dst (N := 2) rfl ?_); refine bx 2 #[.slice A0_0 l0_0.length c0_0, .slice A0_1 l0_1.length c0_1] 29 ?_; intro gb237 hg w72 hbox hb; have BK237 := Aside0.mk (hbox); have GW237 := ge HB hg; have GE237 := ge HB hg; replace HB := bs HB hb; clear hb hbox hg) | ((with_reducible refine gate_dst (N := 3) rfl ?_); refine bx 3 #[.int .i64 a1_0, .int .i64 a1_1] 49 ?_; intro gb238 hg w73 hbox hb; have BK238 := Aside0.mk (hbox); have GW238 := ge HB hg; have GE238 := ge HB hg; replace HB := bs HB hb; have NB237_238 := nl BK237 hg; have NB238_237 := nr BK237 hg; replace BK237 := bb BK237 hb; clear hb hbox hg) | ((with_reducible refine gate_dst (N := 4) rfl ?_); refine bx 4 #[.slice none 0 0, .slice none 0 0] 29 ?_; intro gb239 hg w74 hbox hb; have BK239 := Aside0.mk (hbox); have GW239 := ge HB hg; have GE239 := ge HB hg; replace HB := bs HB hb; have NB237_239 := nl BK237 hg; have NB239_237 := nr BK237 hg; replace BK237 := bb BK237 hb; have NB238_239 := nl BK238 hg; have NB239_238 := nr BK238 hg; replace BK238 := bb BK238 hb; clear hb hbox hg))
     replace BK237 := Aside0.mk (blk_drew BK237.out)
     replace BK238 := Aside0.mk (blk_drew BK238.out)
     replace BK239 := Aside0.mk (blk_drew BK239.out)
     replace HB := Aside0.mk (below_drew1 HB.out)
     refine start_ (n := 8) (S := fun w' => w'.cell? ⟨gb237, 0, none⟩ = some (.slice A0_0 l0_0.length c0_0) ∧ w'.cell? ⟨gb237, 1, none⟩ = some (.slice A0_1 l0_1.length c0_1) ∧ w'.cell? ⟨gb238, 0, none⟩ = some (.int .i64 a1_0) ∧ w'.cell? ⟨gb238, 1, none⟩ = some (.int .i64 a1_1)) (ds := []) #[false, false, false, false, false, false, false, false] (by kernel_rfl) rfl rfl ⟨bc0 BK237, bc1 BK237, bc0 BK238, bc1 BK238⟩ (fun hHeld => ?_); refine with_tabW impl_Vessels_behind.tab1 impl_Vessels_behind.bits1 (fun HT_ HW_ => ?_)
     generalize w74.drew = w75 at BK237 BK238 BK239 HB hHeld ⊢
     refine take_ (i := 0) (N := some 7) (v := ?_) (a' := ?_) #[true, false, false, false, false, false, false, false] rfl rfl (take_ofW HT_.out HW_.out (by kernel_rfl)) (fun _ _ _ h => h) (Or.inl ⟨by rfl, ?_⟩) hHeld ?_ ?_
     rotate_left
     ·rintro w' ⟨s0, s1, s2, s3⟩
      go_simp
      with_reducible rfl
     rotate_left
     ·simp only [Act.put, List.setIfInBounds_toArray, List.set_cons_zero, List.set_cons_succ, i64_w, i32_w]
      rfl
     refine take_ (i := 2) (N := some 9) (v := ?_) (a' := ?_) #[true, false, true, false, false, false, false, false] rfl rfl (take_ofW HT_.out HW_.out (by kernel_rfl)) (fun _ _ _ h => h) (Or.inl ⟨by rfl, ?_⟩) hHeld ?_ ?_
     rotate_left
     ·rintro w' ⟨s0, s1, s2, s3⟩
      go_simp
      with_reducible rfl
     rotate_left
     ·simp only [Act.put, List.setIfInBounds_toArray, List.set_cons_zero, List.set_cons_succ, i64_w, i32_w]
      rfl
     refine take_ (i := 3) (N := some 10) (v := ?_) (a' := ?_) #[true, false, true, true, false, false, false, false] rfl rfl (take_ofW HT_.out HW_.out (by kernel_rfl)) (fun _ _ _ h => h) (Or.inl ⟨by rfl, ?_⟩) hHeld ?_ ?_
     rotate_left
     ·rintro w' ⟨s0, s1, s2, s3⟩
      go_simp
      with_reducible rfl
     rotate_left
     ·simp only [Act.put, List.setIfInBounds_toArray, List.set_cons_zero, List.set_cons_succ, i64_w, i32_w]
      rfl
     refine join_ (σ := Value × Value × Nat) 2 #[true, true, true, true, true, true, false, false] (fun s_ => [(8, .agg #[s_.1, s_.2.1]), (11, .int .i64 t246), (5, .pointer (some ⟨s_.2.2, 0, none⟩))]) (fun s_ w' => (w'.cell? ⟨gb237, 0, none⟩ = some (.slice A0_0 l0_0.length c0_0) ∧ w'.cell? ⟨gb237, 1, none⟩ = some (.slice A0_1 l0_1.length c0_1) ∧ w'.cell? ⟨gb238, 0, none⟩ = some (.int .i64 a1_0) ∧ w'.cell? ⟨gb238, 1, none⟩ = some (.int .i64 a1_1)) ∧ (Kd.R (Kd.int .i64) 3 w' w.heap.size (fun k_ => some k_ ≠ (s_.2.1 : Value).ownBlock) s_.1 t240) ∧ (Kd.R (Kd.int .i64) 3 w' w.heap.size (fun k_ => some k_ ≠ (s_.1 : Value).ownBlock) s_.2.1 t243) ∧ (w'.heap[gb237]? = some (.cells #[.slice A0_0 l0_0.length c0_0, .slice A0_1 l0_1.length c0_1] 29 (0, 0))) ∧ (w'.heap[gb238]? = some (.cells #[.int .i64 a1_0, .int .i64 a1_1] 49 (0, 0))) ∧ (w'.heap[gb239]? = some (.cells #[.slice none 0 0, .slice none 0 0] 29 (0, 0))) ∧ (w'.heap[s_.2.2]? = some (.cells #[.slice none 0 0, .slice none 0 0] 29 (0, 0))) ∧ (w.heap.size ≤ s_.2.2) ∧ (w.heap.size ≤ s_.2.2) ∧ (gb237 ≠ s_.2.2) ∧ (s_.2.2 ≠ gb237) ∧ (gb238 ≠ s_.2.2) ∧ (s_.2.2 ≠ gb238) ∧ (gb239 ≠ s_.2.2) ∧ (s_.2.2 ≠ gb239) ∧ (Below w.heap.size w w')) ?_ ?_
     rotate_left
     ·intro hCont
      refine two_ (i := 1) (j := 5) (Ni := some 8) (Nj := some 5) #[true, true, true, true, false, false, false, false] #[true, false, true, true, false, true, false, false] rfl rfl rfl rfl (two_of HT_.out (by kernel_rfl)) (by decide) (by decide) (fun K hK => ?_) (fun K hK => ?_)
      ·skip
       refine goes_ Try.func73 (by kernel_rfl) rfl #[.agg #[.slice A0_0 l0_0.length c0_0, .slice A0_1 l0_1.length c0_1]] (by rfl) rfl rfl (by (try simp only [List.map_toArray, List.map_cons, List.map_nil]); first | done | rfl | (simp only [List.length_drop, List.length_take]; rfl)) ?_
       with_reducible refine (impl_Vessels_own.calls _ _ l0_0 _ _ l0_1 t240 t243 _ ?side1 ?side2 ?side3 ?side4 A3.out).mono ?_
       (case side1 => exact ck HR0_0 HB)
       (case side2 => exact HC0_0.out)
       (case side3 => exact ck HR0_1 HB)
       (case side4 => exact HC0_1.out)
       rintro e w76 ⟨v241, v244, rfl, ho0, ho1, hb⟩
       refine ⟨_, rfl, ?_⟩
       have HO242 := lo ho0 HB
       have HO245 := lo ho1 HB
       replace BK237 := bb BK237 hb
       replace BK238 := bb BK238 hb
       replace BK239 := bb BK239 hb
       replace HB := bs HB hb
       (try clear hb)
       (try clear hb2)
       (try clear hk)
       (try clear hi)
       (try clear ho0)
       (try clear ho1)
       refine hK.out _ _ ⟨bc0 BK237, bc1 BK237, bc0 BK238, bc1 BK238⟩ (fun hHeld => ?_)
       clear hK K
       refine norm_ (a' := ?_) ?_ ?_
       rotate_left
       ·show Act.put _ (some 8) _ = _
        simp only [Act.put, List.setIfInBounds_toArray, List.set_cons_zero, List.set_cons_succ, i64_w, i32_w]
        rfl
       refine two_ (i := 4) (j := 5) (Ni := some 11) (Nj := some 5) #[true, true, true, true, true, false, false, false] #[true, true, true, true, false, true, false, false] rfl rfl rfl rfl (two_of HT_.out (by kernel_rfl)) (by decide) (by decide) (fun K hK => ?_) (fun K hK => ?_)
       ·skip
        refine goes_ Try.func58 (by kernel_rfl) rfl #[.agg #[.slice A0_0 l0_0.length c0_0, .slice A0_1 l0_1.length c0_1], .agg #[.int .i64 a1_0, .int .i64 a1_1]] (by rfl) rfl rfl (by (try simp only [List.map_toArray, List.map_cons, List.map_nil]); first | done | rfl | (simp only [List.length_drop, List.length_take]; rfl)) ?_
        with_reducible refine (impl_Vessels_amount.calls _ _ l0_0 _ _ l0_1 a1_0 a1_1 t246 _ ?side1 ?side2 ?side3 ?side4 A4.out).mono ?_
        (case side1 => exact ck HR0_0 HB)
        (case side2 => exact HC0_0.out)
        (case side3 => exact ck HR0_1 HB)
        (case side4 => exact HC0_1.out)
        rintro e w77 ⟨rfl, hb⟩
        refine ⟨_, rfl, ?_⟩
        replace HO242 := rb HO242 hb
        replace HO245 := rb HO245 hb
        replace BK237 := bb BK237 hb
        replace BK238 := bb BK238 hb
        replace BK239 := bb BK239 hb
        replace HB := bs HB hb
        (try clear hb)
        (try clear hb2)
        (try clear hk)
        (try clear hi)
        refine hK.out _ _ ⟨bc0 BK237, bc1 BK237, bc0 BK238, bc1 BK238⟩ (fun hHeld => ?_)
        clear hK K
        refine norm_ (a' := ?_) ?_ ?_
        rotate_left
        ·show Act.put _ (some 11) _ = _
         simp only [Act.put, List.setIfInBounds_toArray, List.set_cons_zero, List.set_cons_succ, i64_w, i32_w]
         rfl
        refine one_ (i := 5) (N := some 5) #[true, true, true, true, true, true, false, false] rfl rfl (one_of HT_.out (by kernel_rfl)) (by decide) (fun K hK => ?_)
        refine box_step ?hg (N := 5) ?hd (cs := #[.slice none 0 0, .slice none 0 0]) (t := 29) ?hr ?_; (case hd => rfl); (case hg => rfl); (case hr => first | (go_simp; done) | (go_simp; rfl))
        intro gb247 hg w78 hbox hb
        replace HO242 := rb HO242 hb
        replace HO245 := rb HO245 hb
        have BK247 := Aside0.mk (hbox)
        have GW247 := ge HB hg
        have GE247 := ge HB hg
        replace HB := bs HB hb
        have NB237_247 := nl BK237 hg
        have NB247_237 := nr BK237 hg
        replace BK237 := bb BK237 hb
        have NB238_247 := nl BK238 hg
        have NB247_238 := nr BK238 hg
        replace BK238 := bb BK238 hb
        have NB239_247 := nl BK239 hg
        have NB247_239 := nr BK239 hg
        replace BK239 := bb BK239 hb
        clear hb hbox hg
        refine hK.out _ _ ⟨bc0 BK237, bc1 BK237, bc0 BK238, bc1 BK238⟩ (fun hHeld => ?_)
        clear hK K
        refine norm_ (a' := ?_) ?_ ?_
        rotate_left
        ·show Act.put _ (some 5) _ = _
         simp only [Act.put, List.setIfInBounds_toArray, List.set_cons_zero, List.set_cons_succ, i64_w, i32_w]
         rfl
        exact norm_ (by simp only [putAll, Act.put, List.setIfInBounds_toArray, List.set_cons_zero, List.set_cons_succ]) (hCont (v241, v244, gb247) _ ⟨hHeld, (rk HO242), (rk HO245), (bk BK237), (bk BK238), (bk BK239), (bk BK247), GW247.out, GE247.out, NB237_247.out, NB247_237.out, NB238_247.out, NB247_238.out, NB239_247.out, NB247_239.out, (bw HB)⟩)
       ·skip
        refine box_step ?hg (N := 5) ?hd (cs := #[.slice none 0 0, .slice none 0 0]) (t := 29) ?hr ?_; (case hd => rfl); (case hg => rfl); (case hr => first | (go_simp; done) | (go_simp; rfl))
        intro gb247 hg w77 hbox hb
        replace HO242 := rb HO242 hb
        replace HO245 := rb HO245 hb
        have BK247 := Aside0.mk (hbox)
        have GW247 := ge HB hg
        have GE247 := ge HB hg
        replace HB := bs HB hb
        have NB237_247 := nl BK237 hg
        have NB247_237 := nr BK237 hg
        replace BK237 := bb BK237 hb
        have NB238_247 := nl BK238 hg
        have NB247_238 := nr BK238 hg
        replace BK238 := bb BK238 hb
        have NB239_247 := nl BK239 hg
        have NB247_239 := nr BK239 hg
        replace BK239 := bb BK239 hb
        clear hb hbox hg
        refine hK.out _ _ ⟨bc0 BK237, bc1 BK237, bc0 BK238, bc1 BK238⟩ (fun hHeld => ?_)
        clear hK K
        refine norm_ (a' := ?_) ?_ ?_
        rotate_left
        ·show Act.put _ (some 5) _ = _
         simp only [Act.put, List.setIfInBounds_toArray, List.set_cons_zero, List.set_cons_succ, i64_w, i32_w]
         rfl
        refine one_ (i := 4) (N := some 11) #[true, true, true, true, true, true, false, false] rfl rfl (one_of HT_.out (by kernel_rfl)) (by decide) (fun K hK => ?_)
        refine goes_ Try.func58 (by kernel_rfl) rfl #[.agg #[.slice A0_0 l0_0.length c0_0, .slice A0_1 l0_1.length c0_1], .agg #[.int .i64 a1_0, .int .i64 a1_1]] (by rfl) rfl rfl (by (try simp only [List.map_toArray, List.map_cons, List.map_nil]); first | done | rfl | (simp only [List.length_drop, List.length_take]; rfl)) ?_
        with_reducible refine (impl_Vessels_amount.calls _ _ l0_0 _ _ l0_1 a1_0 a1_1 t246 _ ?side1 ?side2 ?side3 ?side4 A4.out).mono ?_
        (case side1 => exact ck HR0_0 HB)
        (case side2 => exact HC0_0.out)
        (case side3 => exact ck HR0_1 HB)
        (case side4 => exact HC0_1.out)
        rintro e w78 ⟨rfl, hb⟩
        refine ⟨_, rfl, ?_⟩
        replace HO242 := rb HO242 hb
        replace HO245 := rb HO245 hb
        replace BK237 := bb BK237 hb
        replace BK238 := bb BK238 hb
        replace BK239 := bb BK239 hb
        replace BK247 := bb BK247 hb
        replace HB := bs HB hb
        (try clear hb)
        (try clear hb2)
        (try clear hk)
        (try clear hi)
        refine hK.out _ _ ⟨bc0 BK237, bc1 BK237, bc0 BK238, bc1 BK238⟩ (fun hHeld => ?_)
        clear hK K
        refine norm_ (a' := ?_) ?_ ?_
        rotate_left
        ·show Act.put _ (some 11) _ = _
         simp only [Act.put, List.setIfInBounds_toArray, List.set_cons_zero, List.set_cons_succ, i64_w, i32_w]
         rfl
        exact norm_ (by simp only [putAll, Act.put, List.setIfInBounds_toArray, List.set_cons_zero, List.set_cons_succ]) (hCont (v241, v244, gb247) _ ⟨hHeld, (rk HO242), (rk HO245), (bk BK237), (bk BK238), (bk BK239), (bk BK247), GW247.out, GE247.out, NB237_247.out, NB247_237.out, NB238_247.out, NB247_238.out, NB239_247.out, NB247_239.out, (bw HB)⟩)
      ·skip
       refine box_step ?hg (N := 5) ?hd (cs := #[.slice none 0 0, .slice none 0 0]) (t := 29) ?hr ?_; (case hd => rfl); (case hg => rfl); (case hr => first | (go_simp; done) | (go_simp; rfl))
       intro gb247 hg w76 hbox hb
       have BK247 := Aside0.mk (hbox)
       have GW247 := ge HB hg
       have GE247 := ge HB hg
       replace HB := bs HB hb
       have NB237_247 := nl BK237 hg
       have NB247_237 := nr BK237 hg
       replace BK237 := bb BK237 hb
       have NB238_247 := nl BK238 hg
       have NB247_238 := nr BK238 hg
       replace BK238 := bb BK238 hb
       have NB239_247 := nl BK239 hg
       have NB247_239 := nr BK239 hg
       replace BK239 := bb BK239 hb
       clear hb hbox hg
       refine hK.out _ _ ⟨bc0 BK237, bc1 BK237, bc0 BK238, bc1 BK238⟩ (fun hHeld => ?_)
       clear hK K
       refine norm_ (a' := ?_) ?_ ?_
       rotate_left
       ·show Act.put _ (some 5) _ = _
        simp only [Act.put, List.setIfInBounds_toArray, List.set_cons_zero, List.set_cons_succ, i64_w, i32_w]
        rfl
       refine one_ (i := 1) (N := some 8) #[true, true, true, true, false, true, false, false] rfl rfl (one_of HT_.out (by kernel_rfl)) (by decide) (fun K hK => ?_)
       refine goes_ Try.func73 (by kernel_rfl) rfl #[.agg #[.slice A0_0 l0_0.length c0_0, .slice A0_1 l0_1.length c0_1]] (by rfl) rfl rfl (by (try simp only [List.map_toArray, List.map_cons, List.map_nil]); first | done | rfl | (simp only [List.length_drop, List.length_take]; rfl)) ?_
       with_reducible refine (impl_Vessels_own.calls _ _ l0_0 _ _ l0_1 t240 t243 _ ?side1 ?side2 ?side3 ?side4 A3.out).mono ?_
       (case side1 => exact ck HR0_0 HB)
       (case side2 => exact HC0_0.out)
       (case side3 => exact ck HR0_1 HB)
       (case side4 => exact HC0_1.out)
       rintro e w77 ⟨v241, v244, rfl, ho0, ho1, hb⟩
       refine ⟨_, rfl, ?_⟩
       have HO242 := lo ho0 HB
       have HO245 := lo ho1 HB
       replace BK237 := bb BK237 hb
       replace BK238 := bb BK238 hb
       replace BK239 := bb BK239 hb
       replace BK247 := bb BK247 hb
       replace HB := bs HB hb
       (try clear hb)
       (try clear hb2)
       (try clear hk)
       (try clear hi)
       (try clear ho0)
       (try clear ho1)
       refine hK.out _ _ ⟨bc0 BK237, bc1 BK237, bc0 BK238, bc1 BK238⟩ (fun hHeld => ?_)
       clear hK K
       refine norm_ (a' := ?_) ?_ ?_
       rotate_left
       ·show Act.put _ (some 8) _ = _
        simp only [Act.put, List.setIfInBounds_toArray, List.set_cons_zero, List.set_cons_succ, i64_w, i32_w]
        rfl
       refine one_ (i := 4) (N := some 11) #[true, true, true, true, true, true, false, false] rfl rfl (one_of HT_.out (by kernel_rfl)) (by decide) (fun K hK => ?_)
       refine goes_ Try.func58 (by kernel_rfl) rfl #[.agg #[.slice A0_0 l0_0.length c0_0, .slice A0_1 l0_1.length c0_1], .agg #[.int .i64 a1_0, .int .i64 a1_1]] (by rfl) rfl rfl (by (try simp only [List.map_toArray, List.map_cons, List.map_nil]); first | done | rfl | (simp only [List.length_drop, List.length_take]; rfl)) ?_
       with_reducible refine (impl_Vessels_amount.calls _ _ l0_0 _ _ l0_1 a1_0 a1_1 t246 _ ?side1 ?side2 ?side3 ?side4 A4.out).mono ?_
       (case side1 => exact ck HR0_0 HB)
       (case side2 => exact HC0_0.out)
       (case side3 => exact ck HR0_1 HB)
       (case side4 => exact HC0_1.out)
       rintro e w78 ⟨rfl, hb⟩
       refine ⟨_, rfl, ?_⟩
       replace HO242 := rb HO242 hb
       replace HO245 := rb HO245 hb
       replace BK237 := bb BK237 hb
       replace BK238 := bb BK238 hb
       replace BK239 := bb BK239 hb
       replace BK247 := bb BK247 hb
       replace HB := bs HB hb
       (try clear hb)
       (try clear hb2)
       (try clear hk)
       (try clear hi)
       refine hK.out _ _ ⟨bc0 BK237, bc1 BK237, bc0 BK238, bc1 BK238⟩ (fun hHeld => ?_)
       clear hK K
       refine norm_ (a' := ?_) ?_ ?_
       rotate_left
       ·show Act.put _ (some 11) _ = _
        simp only [Act.put, List.setIfInBounds_toArray, List.set_cons_zero, List.set_cons_succ, i64_w, i32_w]
        rfl
       exact norm_ (by simp only [putAll, Act.put, List.setIfInBounds_toArray, List.set_cons_zero, List.set_cons_succ]) (hCont (v241, v244, gb247) _ ⟨hHeld, (rk HO242), (rk HO245), (bk BK237), (bk BK238), (bk BK239), (bk BK247), GW247.out, GE247.out, NB237_247.out, NB247_237.out, NB238_247.out, NB247_238.out, NB239_247.out, NB247_239.out, (bw HB)⟩)
     rintro ⟨v241, v244, gb247⟩ w79 ⟨hS_, h0_, h1_, h2_, h3_, h4_, h5_, h6_, h7_, h8_, h9_, h10_, h11_, h12_, h13_, h14_⟩
     have HO242 := Aside0.mk h0_
     have HO245 := Aside0.mk h1_
     replace BK237 := Aside0.mk h2_
     replace BK238 := Aside0.mk h3_
     replace BK239 := Aside0.mk h4_
     have BK247 := Aside0.mk h5_
     have GW247 := GeC.mk h6_
     have GE247 := GeC.mk h7_
     have NB237_247 := NeC.mk h8_
     have NB247_237 := NeC.mk h9_
     have NB238_247 := NeC.mk h10_
     have NB247_238 := NeC.mk h11_
     have NB239_247 := NeC.mk h12_
     have NB247_239 := NeC.mk h13_
     replace HB := Aside0.mk h14_
     clear h0_ h1_ h2_ h3_ h4_ h5_ h6_ h7_ h8_ h9_ h10_ h11_ h12_ h13_ h14_
     have hHeld : w79.cell? ⟨gb237, 0, none⟩ = some (.slice A0_0 l0_0.length c0_0) ∧ w79.cell? ⟨gb237, 1, none⟩ = some (.slice A0_1 l0_1.length c0_1) ∧ w79.cell? ⟨gb238, 0, none⟩ = some (.int .i64 a1_0) ∧ w79.cell? ⟨gb238, 1, none⟩ = some (.int .i64 a1_1) := hS_
     obtain ⟨Ao80, co80, eo80⟩ := Kd.R_slice HO242.out
     (first | subst eo80 | (injection eo80 with f1_ f2_ f3_; have f4_ := f1_.symm; have f5_ := f3_.symm; clear f1_ f2_ f3_; subst f4_; subst f5_))
     obtain ⟨Ao82, co82, eo82⟩ := Kd.R_slice HO245.out
     (first | subst eo82 | (injection eo82 with f1_ f2_ f3_; have f4_ := f1_.symm; have f5_ := f3_.symm; clear f1_ f2_ f3_; subst f4_; subst f5_))
     refine norm_ (a' := ?_) ?_ ?_
     rotate_left
     ·simp only [putAll, Act.put, List.setIfInBounds_toArray, List.set_cons_zero, List.set_cons_succ]
      rfl
     refine one_ (i := 6) (N := none) #[true, true, true, true, true, true, true, false] rfl rfl (one_of HT_.out (by kernel_rfl)) (by decide) (fun K hK => ?_)
     have hs81 : w79.cell? ⟨gb247, 0, none⟩ = some (.slice none 0 0) := bc0 BK247
     have hfs81 := blk_frozen BK247.out 0
     have hns81_0 := NB237_247.out
     have hns81_1 := NB238_247.out
     have hns81_2 := NB239_247.out
     have hms81_0 := NB247_237.out
     have hms81_1 := NB247_238.out
     have hms81_2 := NB247_239.out
     have hs83 : w79.cell? ⟨gb247, 1, none⟩ = some (.slice none 0 0) := bc1 BK247
     have hfs83 := blk_frozen BK247.out 1
     have hns83_0 := NB237_247.out
     have hns83_1 := NB238_247.out
     have hns83_2 := NB239_247.out
     have hms83_0 := NB247_237.out
     have hms83_1 := NB247_238.out
     have hms83_2 := NB247_239.out
     refine skip_ (w1 := ?_) (by rfl) rfl ?_ ?_
     rotate_left
     ·go_simp
      rfl
     refine hK.out _ _ ⟨((cell_far (p := ⟨gb247, _, none⟩) NB237_247.out _).trans (((cell_far (p := ⟨gb247, _, none⟩) NB237_247.out _).trans (hHeld.1)))), ((cell_far (p := ⟨gb247, _, none⟩) NB237_247.out _).trans (((cell_far (p := ⟨gb247, _, none⟩) NB237_247.out _).trans (hHeld.2.1)))), ((cell_far (p := ⟨gb247, _, none⟩) NB238_247.out _).trans (((cell_far (p := ⟨gb247, _, none⟩) NB238_247.out _).trans (hHeld.2.2.1)))), ((cell_far (p := ⟨gb247, _, none⟩) NB238_247.out _).trans (((cell_far (p := ⟨gb247, _, none⟩) NB238_247.out _).trans (hHeld.2.2.2))))⟩ (fun hHeld => ?_)
     clear hK K
     refine pure_ (i := 7) (N := some 6) (v := ?_) (a' := ?_) #[true, true, true, true, true, true, true, true] rfl rfl (any_of HT_.out (by kernel_rfl)) (fun _ _ _ h => h) (Or.inl ⟨by rfl, ?_⟩) ?_ ?_
     rotate_left
     ·intro w'
      go_simp
      with_reducible rfl
     rotate_left
     ·simp only [Act.put, List.setIfInBounds_toArray, List.set_cons_zero, List.set_cons_succ, i64_w, i32_w]
      rfl
     refine done_ (done_of HT_.out (by kernel_rfl)) ?_
     have n0_ : Aside0 (Kd.R (Kd.int .i64) 3 ((w79.setCell ⟨gb247, 0, none⟩ (.slice Ao80 t240.length co80)).setCell ⟨gb247, 1, none⟩ (.slice Ao82 t243.length co82)) w.heap.size (fun k_ => some k_ ≠ (.slice Ao82 t243.length co82 : Value).ownBlock) (.slice Ao80 t240.length co80) t240) := ⟨by (with_reducible repeat (first | apply Kd.R_alloc | apply Kd.R_drewN | apply Kd.R_drew)); exact Kd.R_mono (Kd.R_far (p := ⟨gb247, 1, none⟩) (Kd.R_far (p := ⟨gb247, 0, none⟩) (Kd.R_types HO242.out BK247.out (by decide)) (fun _ hk => hk.2) (.slice Ao80 t240.length co80)) (fun _ hk => hk.2) (.slice Ao82 t243.length co82)) (fun _ hk => hk.1)⟩
     have n1_ : Aside0 (Kd.R (Kd.int .i64) 3 ((w79.setCell ⟨gb247, 0, none⟩ (.slice Ao80 t240.length co80)).setCell ⟨gb247, 1, none⟩ (.slice Ao82 t243.length co82)) w.heap.size (fun k_ => some k_ ≠ (.slice Ao80 t240.length co80 : Value).ownBlock) (.slice Ao82 t243.length co82) t243) := ⟨by (with_reducible repeat (first | apply Kd.R_alloc | apply Kd.R_drewN | apply Kd.R_drew)); exact Kd.R_mono (Kd.R_far (p := ⟨gb247, 1, none⟩) (Kd.R_far (p := ⟨gb247, 0, none⟩) (Kd.R_types HO245.out BK247.out (by decide)) (fun _ hk => hk.2) (.slice Ao80 t240.length co80)) (fun _ hk => hk.2) (.slice Ao82 t243.length co82)) (fun _ hk => hk.1)⟩
     have n2_ : Aside0 (((w79.setCell ⟨gb247, 0, none⟩ (.slice Ao80 t240.length co80)).setCell ⟨gb247, 1, none⟩ (.slice Ao82 t243.length co82)).heap[gb237]? = some (.cells #[.slice A0_0 l0_0.length c0_0, .slice A0_1 l0_1.length c0_1] 29 (0, 0))) := ⟨bk BK237⟩
     have n3_ : Aside0 (((w79.setCell ⟨gb247, 0, none⟩ (.slice Ao80 t240.length co80)).setCell ⟨gb247, 1, none⟩ (.slice Ao82 t243.length co82)).heap[gb238]? = some (.cells #[.int .i64 a1_0, .int .i64 a1_1] 49 (0, 0))) := ⟨bk BK238⟩
     have n4_ : Aside0 (((w79.setCell ⟨gb247, 0, none⟩ (.slice Ao80 t240.length co80)).setCell ⟨gb247, 1, none⟩ (.slice Ao82 t243.length co82)).heap[gb239]? = some (.cells #[.slice none 0 0, .slice none 0 0] 29 (0, 0))) := ⟨bk BK239⟩
     have n5_ : Aside0 (((w79.setCell ⟨gb247, 0, none⟩ (.slice Ao80 t240.length co80)).setCell ⟨gb247, 1, none⟩ (.slice Ao82 t243.length co82)).heap[gb247]? = some (.cells #[.slice Ao80 t240.length co80, .slice Ao82 t243.length co82] 29 (0, 0))) := ⟨by (with_reducible repeat (first | refine blk_drewN ?_ _ | refine blk_drew ?_ | refine blk_alloc ?_ _)); refine blk_put (cs := #[.slice Ao80 t240.length co80, .slice none 0 0]) ?_ 1 _ rfl; (with_reducible repeat (first | refine blk_drewN ?_ _ | refine blk_drew ?_ | refine blk_alloc ?_ _)); refine blk_put (cs := #[.slice none 0 0, .slice none 0 0]) ?_ 0 _ rfl; exact bk BK247⟩
     have n6_ : Aside0 (Below w.heap.size w ((w79.setCell ⟨gb247, 0, none⟩ (.slice Ao80 t240.length co80)).setCell ⟨gb247, 1, none⟩ (.slice Ao82 t243.length co82))) := ⟨bw HB⟩
     (try clear HO242)
     (try clear HO245)
     (try clear BK237)
     (try clear BK238)
     (try clear BK239)
     (try clear BK247)
     (try clear HB)
     generalize ((w79.setCell ⟨gb247, 0, none⟩ (.slice Ao80 t240.length co80)).setCell ⟨gb247, 1, none⟩ (.slice Ao82 t243.length co82)) = w84 at n0_ n1_ n2_ n3_ n4_ n5_ n6_ ⊢
     have HO242 := n0_
     have HO245 := n1_
     have BK237 := n2_
     have BK238 := n3_
     have BK239 := n4_
     have BK247 := n5_
     have HB := n6_
     clear n0_ n1_ n2_ n3_ n4_ n5_ n6_
     have hnb85 := NB238_237.out
     have hnc85 := NB237_238.out
     have hnb86 := NB238_239.out
     have hnc86 := NB239_238.out
     have hnb87 := NB238_247.out
     have hnc87 := NB247_238.out
     have hcz88_0 := bc0 BK238
     have hcz88_1 := bc1 BK238
     have hfz88_0 := blk_frozen BK238.out 0
     have hfz88_1 := blk_frozen BK238.out 1
     have hnb89 := NB247_237.out
     have hnc89 := NB237_247.out
     have hnb90 := NB247_239.out
     have hnc90 := NB239_247.out
     have hcz91_0 := bc0 BK247
     have hcz91_1 := bc1 BK247
     have hfz91_0 := blk_frozen BK247.out 0
     have hfz91_1 := blk_frozen BK247.out 1
     have p252 : 0 ≤ (a1_1 : Int) := of_decide_eq_true (by first | (with_reducible assumption) | assumption)
     have q252 : a1_1 < (t243.length : Int) := of_decide_eq_true (by first | (with_reducible assumption) | assumption)
     obtain ⟨ad252, e252, hx252_0⟩ := Kd.at_int (Kd.R_reads' HO245.out).2.2 a1_1 p252 q252
     cases e252
     replace p252 := eq_true p252
     replace q252 := eq_true q252
     have p71 : 0 ≤ (a1_1 : Int) := of_decide_eq_true (by first | (with_reducible assumption) | assumption)
     have q71 : (a1_1 : Int) < ((t243.length : Int) : Int) := of_decide_eq_true (by first | (with_reducible assumption) | assumption)
     obtain ⟨go71, co71, eo71, gb71, gl71, cl71, HG71⟩ := Kd.R_form HO245.out (by omega)
     (first | cases eo71 | (injection eo71 with ea_ en_ ec_; (first | subst ea_ | (injection ea_ with ea_; subst ea_)); subst ec_; clear en_))
     have GB71 := Aside0.mk gb71
     have GG71 := Aside0.mk HG71
     clear gb71 gl71 HG71
     (first | simp only [add_plain] at hx252_0 | skip)
     obtain ⟨hx71_0, hf71_0⟩ := Kd.R_celln 0 HO245.out (a1_1 : Int) p71 q71
     replace p71 := eq_true p71
     replace q71 := eq_true q71
     obtain ⟨hy92_, hz92_⟩ := Kd.R_celln 0 HO245.out (a1_1 : Int) (of_decide_eq_true (by first | (with_reducible assumption) | assumption)) (of_decide_eq_true (by first | (with_reducible assumption) | assumption))
     have HP92 := Kd.R_putg HO245.out (a1_1 : Int) (wrap64 ((rd t243 a1_1) + t246))
     try go_wp2_with (first | ((with_reducible refine gate_store (t := 3) (p := 35) rfl ?_); refine store_event (t := 3) (p := 35) (v := ?vo_w93) (w1 := (w84.setCell ⟨go71, (a1_1 : Int).toNat, none⟩ (.int .i64 (wrap64 ((rd t243 a1_1) + t246))))) ?hg ?ho ?hn ?hr ?_; (case ho => rfl); (case hg => rfl); (case hn => rfl); (case hr => first | (go_simp; done) | (go_simp; rfl)); intro w93 hw; have hg : w84.grownBy w93 (some go71) := (by rw [hw]; exact HP92.2); have hp_ : Kd.R (Kd.int .i64) 3 w93 w.heap.size (fun k_ => some k_ ≠ (.slice Ao80 t240.length co80 : Value).ownBlock) (.slice (some ⟨go71, 0, none⟩) t243.length co82) y253 := (by rw [hw, Ny253.out]; exact HP92.1); clear HP92; replace BK237 := Aside0.mk (blk_grown (g := gb237) (o := .cells #[.slice A0_0 l0_0.length c0_0, .slice A0_1 l0_1.length c0_1] 29 (0, 0)) (bk BK237) hg (Kd.R_ne HO245.out BK237.out (by decide))); replace BK238 := Aside0.mk (blk_grown (g := gb238) (o := .cells #[.int .i64 a1_0, .int .i64 a1_1] 49 (0, 0)) (bk BK238) hg (Kd.R_ne HO245.out BK238.out (by decide))); replace BK239 := Aside0.mk (blk_grown (g := gb239) (o := .cells #[.slice none 0 0, .slice none 0 0] 29 (0, 0)) (bk BK239) hg (Kd.R_ne HO245.out BK239.out (by decide))); replace HO242 := Aside0.mk (Kd.R_after (v := (.slice (some ⟨go71, 0, none⟩) t243.length co82)) (v1 := (.slice (some ⟨go71, 0, none⟩) t243.length co82)) (ok := (fun _ => True)) (by (with_reducible repeat (first | apply Kd.R_alloc | apply Kd.R_drewN | apply Kd.R_drew)); exact Kd.R_mono HO242.out (fun _ hk => ⟨trivial, hk⟩)) hg (.inl rfl)); replace BK247 := Aside0.mk (blk_grown (g := gb247) (o := .cells #[.slice Ao80 t240.length co80, .slice (some ⟨go71, 0, none⟩) t243.length co82] 29 (0, 0)) (bk BK247) hg (Kd.R_ne HO245.out BK247.out (by decide))); replace HO245 := Aside0.mk (hp_); replace HB := Aside0.mk ((by rw [hw]; exact below_set (HB.out) GB71.out : Below w.heap.size w w93)); clear hg hw hp_; have hcz94_0 := bc0 BK247; have hcz94_1 := bc1 BK247; have hfz94_0 := blk_frozen BK247.out 0; have hfz94_1 := blk_frozen BK247.out 1; have hnb95 := NB239_237.out; have hnc95 := NB237_239.out; have hcz96_0 := bc0 BK239; have hcz96_1 := bc1 BK239; have hfz96_0 := blk_frozen BK239.out 0; have hfz96_1 := blk_frozen BK239.out 1))
     refine bodyPost_ret (results_cell_row rfl _ _ gb239 29 #[.slice Ao80 t240.length co80, .slice (some ⟨go71, 0, none⟩) t243.length co82] (0, 0) _ rfl (by (with_reducible repeat (first | refine blk_drewN ?_ _ | refine blk_drew ?_ | refine blk_alloc ?_ _)); refine blk_put (cs := #[.slice Ao80 t240.length co80, .slice none 0 0]) ?_ 1 _ rfl; (with_reducible repeat (first | refine blk_drewN ?_ _ | refine blk_drew ?_ | refine blk_alloc ?_ _)); refine blk_put (cs := #[.slice none 0 0, .slice none 0 0]) ?_ 0 _ rfl; exact bk BK239) Try.underlying29 rfl (by kernel_rfl)) rfl ?_
     exact ⟨_, _, by first | rfl | (simp [errW_none, errW_some] <;> rfl) | (simp [*, errW_none, errW_some] <;> rfl), by (with_reducible repeat (first | apply Kd.R_alloc | apply Kd.R_drewN | apply Kd.R_drew)); exact Kd.R_mono (Kd.R_far (p := ⟨gb239, 1, none⟩) (Kd.R_far (p := ⟨gb239, 0, none⟩) (Kd.R_types HO242.out BK239.out (by decide)) (fun _ hk => hk.2) (.slice Ao80 t240.length co80)) (fun _ hk => hk.2) (.slice (some ⟨go71, 0, none⟩) t243.length co82)) (fun _ hk => hk.1.2), by (with_reducible repeat (first | apply Kd.R_alloc | apply Kd.R_drewN | apply Kd.R_drew)); exact Kd.R_mono (Kd.R_far (p := ⟨gb239, 1, none⟩) (Kd.R_far (p := ⟨gb239, 0, none⟩) (Kd.R_types HO245.out BK239.out (by decide)) (fun _ hk => hk.2) (.slice Ao80 t240.length co80)) (fun _ hk => hk.2) (.slice (some ⟨go71, 0, none⟩) t243.length co82)) (fun _ hk => hk.1), bw HB⟩
    ·rw [if_neg c70] at H
     exact absurd H (by simp)
   ·rw [if_neg c69] at H
    exact absurd H (by simp)
  ·rw [if_neg c68] at H
   have c68b0 : decide (0 ≤ a1_1) = false := decide_eq_false c68
   clear c68
   simp only [Option.some.injEq, Prod.mk.injEq] at H
   obtain ⟨rfl, rfl⟩ := H
   go_enter Try.func59, Try.ntmps59
   try go_wp2_with (first | ((with_reducible refine gate_dst (N := 2) rfl ?_); refine bx 2 #[.slice A0_0 l0_0.length c0_0, .slice A0_1 l0_1.length c0_1] 29 ?_; intro gb237 hg w97 hbox hb; have BK237 := Aside0.mk (hbox); have GW237 := ge HB hg; have GE237 := ge HB hg; replace HB := bs HB hb; clear hb hbox hg) | ((with_reducible refine gate_dst (N := 3) rfl ?_); refine bx 3 #[.int .i64 a1_0, .int .i64 a1_1] 49 ?_; intro gb238 hg w98 hbox hb; have BK238 := Aside0.mk (hbox); have GW238 := ge HB hg; have GE238 := ge HB hg; replace HB := bs HB hb; have NB237_238 := nl BK237 hg; have NB238_237 := nr BK237 hg; replace BK237 := bb BK237 hb; clear hb hbox hg) | ((with_reducible refine gate_dst (N := 4) rfl ?_); refine bx 4 #[.slice none 0 0, .slice none 0 0] 29 ?_; intro gb239 hg w99 hbox hb; have BK239 := Aside0.mk (hbox); have GW239 := ge HB hg; have GE239 := ge HB hg; replace HB := bs HB hb; have NB237_239 := nl BK237 hg; have NB239_237 := nr BK237 hg; replace BK237 := bb BK237 hb; have NB238_239 := nl BK238 hg; have NB239_238 := nr BK238 hg; replace BK238 := bb BK238 hb; clear hb hbox hg))
   replace BK237 := Aside0.mk (blk_drew BK237.out)
   replace BK238 := Aside0.mk (blk_drew BK238.out)
   replace BK239 := Aside0.mk (blk_drew BK239.out)
   replace HB := Aside0.mk (below_drew1 HB.out)
   refine start_ (n := 8) (S := fun w' => w'.cell? ⟨gb237, 0, none⟩ = some (.slice A0_0 l0_0.length c0_0) ∧ w'.cell? ⟨gb237, 1, none⟩ = some (.slice A0_1 l0_1.length c0_1) ∧ w'.cell? ⟨gb238, 0, none⟩ = some (.int .i64 a1_0) ∧ w'.cell? ⟨gb238, 1, none⟩ = some (.int .i64 a1_1)) (ds := []) #[false, false, false, false, false, false, false, false] (by kernel_rfl) rfl rfl ⟨bc0 BK237, bc1 BK237, bc0 BK238, bc1 BK238⟩ (fun hHeld => ?_); refine with_tabW impl_Vessels_behind.tab1 impl_Vessels_behind.bits1 (fun HT_ HW_ => ?_)
   generalize w99.drew = w100 at BK237 BK238 BK239 HB hHeld ⊢
   refine take_ (i := 0) (N := some 7) (v := ?_) (a' := ?_) #[true, false, false, false, false, false, false, false] rfl rfl (take_ofW HT_.out HW_.out (by kernel_rfl)) (fun _ _ _ h => h) (Or.inl ⟨by rfl, ?_⟩) hHeld ?_ ?_
   rotate_left
   ·rintro w' ⟨s0, s1, s2, s3⟩
    go_simp
    with_reducible rfl
   rotate_left
   ·simp only [Act.put, List.setIfInBounds_toArray, List.set_cons_zero, List.set_cons_succ, i64_w, i32_w]
    rfl
   refine take_ (i := 2) (N := some 9) (v := ?_) (a' := ?_) #[true, false, true, false, false, false, false, false] rfl rfl (take_ofW HT_.out HW_.out (by kernel_rfl)) (fun _ _ _ h => h) (Or.inl ⟨by rfl, ?_⟩) hHeld ?_ ?_
   rotate_left
   ·rintro w' ⟨s0, s1, s2, s3⟩
    go_simp
    with_reducible rfl
   rotate_left
   ·simp only [Act.put, List.setIfInBounds_toArray, List.set_cons_zero, List.set_cons_succ, i64_w, i32_w]
    rfl
   refine take_ (i := 3) (N := some 10) (v := ?_) (a' := ?_) #[true, false, true, true, false, false, false, false] rfl rfl (take_ofW HT_.out HW_.out (by kernel_rfl)) (fun _ _ _ h => h) (Or.inl ⟨by rfl, ?_⟩) hHeld ?_ ?_
   rotate_left
   ·rintro w' ⟨s0, s1, s2, s3⟩
    go_simp
    with_reducible rfl
   rotate_left
   ·simp only [Act.put, List.setIfInBounds_toArray, List.set_cons_zero, List.set_cons_succ, i64_w, i32_w]
    rfl
   refine join_ (σ := Value × Value × Nat) 2 #[true, true, true, true, true, true, false, false] (fun s_ => [(8, .agg #[s_.1, s_.2.1]), (11, .int .i64 t246), (5, .pointer (some ⟨s_.2.2, 0, none⟩))]) (fun s_ w' => (w'.cell? ⟨gb237, 0, none⟩ = some (.slice A0_0 l0_0.length c0_0) ∧ w'.cell? ⟨gb237, 1, none⟩ = some (.slice A0_1 l0_1.length c0_1) ∧ w'.cell? ⟨gb238, 0, none⟩ = some (.int .i64 a1_0) ∧ w'.cell? ⟨gb238, 1, none⟩ = some (.int .i64 a1_1)) ∧ (Kd.R (Kd.int .i64) 3 w' w.heap.size (fun k_ => some k_ ≠ (s_.2.1 : Value).ownBlock) s_.1 t240) ∧ (Kd.R (Kd.int .i64) 3 w' w.heap.size (fun k_ => some k_ ≠ (s_.1 : Value).ownBlock) s_.2.1 t243) ∧ (w'.heap[gb237]? = some (.cells #[.slice A0_0 l0_0.length c0_0, .slice A0_1 l0_1.length c0_1] 29 (0, 0))) ∧ (w'.heap[gb238]? = some (.cells #[.int .i64 a1_0, .int .i64 a1_1] 49 (0, 0))) ∧ (w'.heap[gb239]? = some (.cells #[.slice none 0 0, .slice none 0 0] 29 (0, 0))) ∧ (w'.heap[s_.2.2]? = some (.cells #[.slice none 0 0, .slice none 0 0] 29 (0, 0))) ∧ (w.heap.size ≤ s_.2.2) ∧ (w.heap.size ≤ s_.2.2) ∧ (gb237 ≠ s_.2.2) ∧ (s_.2.2 ≠ gb237) ∧ (gb238 ≠ s_.2.2) ∧ (s_.2.2 ≠ gb238) ∧ (gb239 ≠ s_.2.2) ∧ (s_.2.2 ≠ gb239) ∧ (Below w.heap.size w w')) ?_ ?_
   rotate_left
   ·intro hCont
    refine two_ (i := 1) (j := 5) (Ni := some 8) (Nj := some 5) #[true, true, true, true, false, false, false, false] #[true, false, true, true, false, true, false, false] rfl rfl rfl rfl (two_of HT_.out (by kernel_rfl)) (by decide) (by decide) (fun K hK => ?_) (fun K hK => ?_)
    ·skip
     refine goes_ Try.func73 (by kernel_rfl) rfl #[.agg #[.slice A0_0 l0_0.length c0_0, .slice A0_1 l0_1.length c0_1]] (by rfl) rfl rfl (by (try simp only [List.map_toArray, List.map_cons, List.map_nil]); first | done | rfl | (simp only [List.length_drop, List.length_take]; rfl)) ?_
     with_reducible refine (impl_Vessels_own.calls _ _ l0_0 _ _ l0_1 t240 t243 _ ?side1 ?side2 ?side3 ?side4 A3.out).mono ?_
     (case side1 => exact ck HR0_0 HB)
     (case side2 => exact HC0_0.out)
     (case side3 => exact ck HR0_1 HB)
     (case side4 => exact HC0_1.out)
     rintro e w101 ⟨v241, v244, rfl, ho0, ho1, hb⟩
     refine ⟨_, rfl, ?_⟩
     have HO242 := lo ho0 HB
     have HO245 := lo ho1 HB
     replace BK237 := bb BK237 hb
     replace BK238 := bb BK238 hb
     replace BK239 := bb BK239 hb
     replace HB := bs HB hb
     (try clear hb)
     (try clear hb2)
     (try clear hk)
     (try clear hi)
     (try clear ho0)
     (try clear ho1)
     refine hK.out _ _ ⟨bc0 BK237, bc1 BK237, bc0 BK238, bc1 BK238⟩ (fun hHeld => ?_)
     clear hK K
     refine norm_ (a' := ?_) ?_ ?_
     rotate_left
     ·show Act.put _ (some 8) _ = _
      simp only [Act.put, List.setIfInBounds_toArray, List.set_cons_zero, List.set_cons_succ, i64_w, i32_w]
      rfl
     refine two_ (i := 4) (j := 5) (Ni := some 11) (Nj := some 5) #[true, true, true, true, true, false, false, false] #[true, true, true, true, false, true, false, false] rfl rfl rfl rfl (two_of HT_.out (by kernel_rfl)) (by decide) (by decide) (fun K hK => ?_) (fun K hK => ?_)
     ·skip
      refine goes_ Try.func58 (by kernel_rfl) rfl #[.agg #[.slice A0_0 l0_0.length c0_0, .slice A0_1 l0_1.length c0_1], .agg #[.int .i64 a1_0, .int .i64 a1_1]] (by rfl) rfl rfl (by (try simp only [List.map_toArray, List.map_cons, List.map_nil]); first | done | rfl | (simp only [List.length_drop, List.length_take]; rfl)) ?_
      with_reducible refine (impl_Vessels_amount.calls _ _ l0_0 _ _ l0_1 a1_0 a1_1 t246 _ ?side1 ?side2 ?side3 ?side4 A4.out).mono ?_
      (case side1 => exact ck HR0_0 HB)
      (case side2 => exact HC0_0.out)
      (case side3 => exact ck HR0_1 HB)
      (case side4 => exact HC0_1.out)
      rintro e w102 ⟨rfl, hb⟩
      refine ⟨_, rfl, ?_⟩
      replace HO242 := rb HO242 hb
      replace HO245 := rb HO245 hb
      replace BK237 := bb BK237 hb
      replace BK238 := bb BK238 hb
      replace BK239 := bb BK239 hb
      replace HB := bs HB hb
      (try clear hb)
      (try clear hb2)
      (try clear hk)
      (try clear hi)
      refine hK.out _ _ ⟨bc0 BK237, bc1 BK237, bc0 BK238, bc1 BK238⟩ (fun hHeld => ?_)
      clear hK K
      refine norm_ (a' := ?_) ?_ ?_
      rotate_left
      ·show Act.put _ (some 11) _ = _
       simp only [Act.put, List.setIfInBounds_toArray, List.set_cons_zero, List.set_cons_succ, i64_w, i32_w]
       rfl
      refine one_ (i := 5) (N := some 5) #[true, true, true, true, true, true, false, false] rfl rfl (one_of HT_.out (by kernel_rfl)) (by decide) (fun K hK => ?_)
      refine box_step ?hg (N := 5) ?hd (cs := #[.slice none 0 0, .slice none 0 0]) (t := 29) ?hr ?_; (case hd => rfl); (case hg => rfl); (case hr => first | (go_simp; done) | (go_simp; rfl))
      intro gb247 hg w103 hbox hb
      replace HO242 := rb HO242 hb
      replace HO245 := rb HO245 hb
      have BK247 := Aside0.mk (hbox)
      have GW247 := ge HB hg
      have GE247 := ge HB hg
      replace HB := bs HB hb
      have NB237_247 := nl BK237 hg
      have NB247_237 := nr BK237 hg
      replace BK237 := bb BK237 hb
      have NB238_247 := nl BK238 hg
      have NB247_238 := nr BK238 hg
      replace BK238 := bb BK238 hb
      have NB239_247 := nl BK239 hg
      have NB247_239 := nr BK239 hg
      replace BK239 := bb BK239 hb
      clear hb hbox hg
      refine hK.out _ _ ⟨bc0 BK237, bc1 BK237, bc0 BK238, bc1 BK238⟩ (fun hHeld => ?_)
      clear hK K
      refine norm_ (a' := ?_) ?_ ?_
      rotate_left
      ·show Act.put _ (some 5) _ = _
       simp only [Act.put, List.setIfInBounds_toArray, List.set_cons_zero, List.set_cons_succ, i64_w, i32_w]
       rfl
      exact norm_ (by simp only [putAll, Act.put, List.setIfInBounds_toArray, List.set_cons_zero, List.set_cons_succ]) (hCont (v241, v244, gb247) _ ⟨hHeld, (rk HO242), (rk HO245), (bk BK237), (bk BK238), (bk BK239), (bk BK247), GW247.out, GE247.out, NB237_247.out, NB247_237.out, NB238_247.out, NB247_238.out, NB239_247.out, NB247_239.out, (bw HB)⟩)
     ·skip
      refine box_step ?hg (N := 5) ?hd (cs := #[.slice none 0 0, .slice none 0 0]) (t := 29) ?hr ?_; (case hd => rfl); (case hg => rfl); (case hr => first | (go_simp; done) | (go_simp; rfl))
      intro gb247 hg w102 hbox hb
      replace HO242 := rb HO242 hb
      replace HO245 := rb HO245 hb
      have BK247 := Aside0.mk (hbox)
      have GW247 := ge HB hg
      have GE247 := ge HB hg
      replace HB := bs HB hb
      have NB237_247 := nl BK237 hg
      have NB247_237 := nr BK237 hg
      replace BK237 := bb BK237 hb
      have NB238_247 := nl BK238 hg
      have NB247_238 := nr BK238 hg
      replace BK238 := bb BK238 hb
      have NB239_247 := nl BK239 hg
      have NB247_239 := nr BK239 hg
      replace BK239 := bb BK239 hb
      clear hb hbox hg
      refine hK.out _ _ ⟨bc0 BK237, bc1 BK237, bc0 BK238, bc1 BK238⟩ (fun hHeld => ?_)
      clear hK K
      refine norm_ (a' := ?_) ?_ ?_
      rotate_left
      ·show Act.put _ (some 5) _ = _
       simp only [Act.put, List.setIfInBounds_toArray, List.set_cons_zero, List.set_cons_succ, i64_w, i32_w]
       rfl
      refine one_ (i := 4) (N := some 11) #[true, true, true, true, true, true, false, false] rfl rfl (one_of HT_.out (by kernel_rfl)) (by decide) (fun K hK => ?_)
      refine goes_ Try.func58 (by kernel_rfl) rfl #[.agg #[.slice A0_0 l0_0.length c0_0, .slice A0_1 l0_1.length c0_1], .agg #[.int .i64 a1_0, .int .i64 a1_1]] (by rfl) rfl rfl (by (try simp only [List.map_toArray, List.map_cons, List.map_nil]); first | done | rfl | (simp only [List.length_drop, List.length_take]; rfl)) ?_
      with_reducible refine (impl_Vessels_amount.calls _ _ l0_0 _ _ l0_1 a1_0 a1_1 t246 _ ?side1 ?side2 ?side3 ?side4 A4.out).mono ?_
      (case side1 => exact ck HR0_0 HB)
      (case side2 => exact HC0_0.out)
      (case side3 => exact ck HR0_1 HB)
      (case side4 => exact HC0_1.out)
      rintro e w103 ⟨rfl, hb⟩
      refine ⟨_, rfl, ?_⟩
      replace HO242 := rb HO242 hb
      replace HO245 := rb HO245 hb
      replace BK237 := bb BK237 hb
      replace BK238 := bb BK238 hb
      replace BK239 := bb BK239 hb
      replace BK247 := bb BK247 hb
      replace HB := bs HB hb
      (try clear hb)
      (try clear hb2)
      (try clear hk)
      (try clear hi)
      refine hK.out _ _ ⟨bc0 BK237, bc1 BK237, bc0 BK238, bc1 BK238⟩ (fun hHeld => ?_)
      clear hK K
      refine norm_ (a' := ?_) ?_ ?_
      rotate_left
      ·show Act.put _ (some 11) _ = _
       simp only [Act.put, List.setIfInBounds_toArray, List.set_cons_zero, List.set_cons_succ, i64_w, i32_w]
       rfl
      exact norm_ (by simp only [putAll, Act.put, List.setIfInBounds_toArray, List.set_cons_zero, List.set_cons_succ]) (hCont (v241, v244, gb247) _ ⟨hHeld, (rk HO242), (rk HO245), (bk BK237), (bk BK238), (bk BK239), (bk BK247), GW247.out, GE247.out, NB237_247.out, NB247_237.out, NB238_247.out, NB247_238.out, NB239_247.out, NB247_239.out, (bw HB)⟩)
    ·skip
     refine box_step ?hg (N := 5) ?hd (cs := #[.slice none 0 0, .slice none 0 0]) (t := 29) ?hr ?_; (case hd => rfl); (case hg => rfl); (case hr => first | (go_simp; done) | (go_simp; rfl))
     intro gb247 hg w101 hbox hb
     have BK247 := Aside0.mk (hbox)
     have GW247 := ge HB hg
     have GE247 := ge HB hg
     replace HB := bs HB hb
     have NB237_247 := nl BK237 hg
     have NB247_237 := nr BK237 hg
     replace BK237 := bb BK237 hb
     have NB238_247 := nl BK238 hg
     have NB247_238 := nr BK238 hg
     replace BK238 := bb BK238 hb
     have NB239_247 := nl BK239 hg
     have NB247_239 := nr BK239 hg
     replace BK239 := bb BK239 hb
     clear hb hbox hg
     refine hK.out _ _ ⟨bc0 BK237, bc1 BK237, bc0 BK238, bc1 BK238⟩ (fun hHeld => ?_)
     clear hK K
     refine norm_ (a' := ?_) ?_ ?_
     rotate_left
     ·show Act.put _ (some 5) _ = _
      simp only [Act.put, List.setIfInBounds_toArray, List.set_cons_zero, List.set_cons_succ, i64_w, i32_w]
      rfl
     refine one_ (i := 1) (N := some 8) #[true, true, true, true, false, true, false, false] rfl rfl (one_of HT_.out (by kernel_rfl)) (by decide) (fun K hK => ?_)
     refine goes_ Try.func73 (by kernel_rfl) rfl #[.agg #[.slice A0_0 l0_0.length c0_0, .slice A0_1 l0_1.length c0_1]] (by rfl) rfl rfl (by (try simp only [List.map_toArray, List.map_cons, List.map_nil]); first | done | rfl | (simp only [List.length_drop, List.length_take]; rfl)) ?_
     with_reducible refine (impl_Vessels_own.calls _ _ l0_0 _ _ l0_1 t240 t243 _ ?side1 ?side2 ?side3 ?side4 A3.out).mono ?_
     (case side1 => exact ck HR0_0 HB)
     (case side2 => exact HC0_0.out)
     (case side3 => exact ck HR0_1 HB)
     (case side4 => exact HC0_1.out)
     rintro e w102 ⟨v241, v244, rfl, ho0, ho1, hb⟩
     refine ⟨_, rfl, ?_⟩
     have HO242 := lo ho0 HB
     have HO245 := lo ho1 HB
     replace BK237 := bb BK237 hb
     replace BK238 := bb BK238 hb
     replace BK239 := bb BK239 hb
     replace BK247 := bb BK247 hb
     replace HB := bs HB hb
     (try clear hb)
     (try clear hb2)
     (try clear hk)
     (try clear hi)
     (try clear ho0)
     (try clear ho1)
     refine hK.out _ _ ⟨bc0 BK237, bc1 BK237, bc0 BK238, bc1 BK238⟩ (fun hHeld => ?_)
     clear hK K
     refine norm_ (a' := ?_) ?_ ?_
     rotate_left
     ·show Act.put _ (some 8) _ = _
      simp only [Act.put, List.setIfInBounds_toArray, List.set_cons_zero, List.set_cons_succ, i64_w, i32_w]
      rfl
     refine one_ (i := 4) (N := some 11) #[true, true, true, true, true, true, false, false] rfl rfl (one_of HT_.out (by kernel_rfl)) (by decide) (fun K hK => ?_)
     refine goes_ Try.func58 (by kernel_rfl) rfl #[.agg #[.slice A0_0 l0_0.length c0_0, .slice A0_1 l0_1.length c0_1], .agg #[.int .i64 a1_0, .int .i64 a1_1]] (by rfl) rfl rfl (by (try simp only [List.map_toArray, List.map_cons, List.map_nil]); first | done | rfl | (simp only [List.length_drop, List.length_take]; rfl)) ?_
     with_reducible refine (impl_Vessels_amount.calls _ _ l0_0 _ _ l0_1 a1_0 a1_1 t246 _ ?side1 ?side2 ?side3 ?side4 A4.out).mono ?_
     (case side1 => exact ck HR0_0 HB)
     (case side2 => exact HC0_0.out)
     (case side3 => exact ck HR0_1 HB)
     (case side4 => exact HC0_1.out)
     rintro e w103 ⟨rfl, hb⟩
     refine ⟨_, rfl, ?_⟩
     replace HO242 := rb HO242 hb
     replace HO245 := rb HO245 hb
     replace BK237 := bb BK237 hb
     replace BK238 := bb BK238 hb
     replace BK239 := bb BK239 hb
     replace BK247 := bb BK247 hb
     replace HB := bs HB hb
     (try clear hb)
     (try clear hb2)
     (try clear hk)
     (try clear hi)
     refine hK.out _ _ ⟨bc0 BK237, bc1 BK237, bc0 BK238, bc1 BK238⟩ (fun hHeld => ?_)
     clear hK K
     refine norm_ (a' := ?_) ?_ ?_
     rotate_left
     ·show Act.put _ (some 11) _ = _
      simp only [Act.put, List.setIfInBounds_toArray, List.set_cons_zero, List.set_cons_succ, i64_w, i32_w]
      rfl
     exact norm_ (by simp only [putAll, Act.put, List.setIfInBounds_toArray, List.set_cons_zero, List.set_cons_succ]) (hCont (v241, v244, gb247) _ ⟨hHeld, (rk HO242), (rk HO245), (bk BK237), (bk BK238), (bk BK239), (bk BK247), GW247.out, GE247.out, NB237_247.out, NB247_237.out, NB238_247.out, NB247_238.out, NB239_247.out, NB247_239.out, (bw HB)⟩)
   rintro ⟨v241, v244, gb247⟩ w104 ⟨hS_, h0_, h1_, h2_, h3_, h4_, h5_, h6_, h7_, h8_, h9_, h10_, h11_, h12_, h13_, h14_⟩
   have HO242 := Aside0.mk h0_
   have HO245 := Aside0.mk h1_
   replace BK237 := Aside0.mk h2_
   replace BK238 := Aside0.mk h3_
   replace BK239 := Aside0.mk h4_
   have BK247 := Aside0.mk h5_
   have GW247 := GeC.mk h6_
   have GE247 := GeC.mk h7_
   have NB237_247 := NeC.mk h8_
   have NB247_237 := NeC.mk h9_
   have NB238_247 := NeC.mk h10_
   have NB247_238 := NeC.mk h11_
   have NB239_247 := NeC.mk h12_
   have NB247_239 := NeC.mk h13_
   replace HB := Aside0.mk h14_
   clear h0_ h1_ h2_ h3_ h4_ h5_ h6_ h7_ h8_ h9_ h10_ h11_ h12_ h13_ h14_
   have hHeld : w104.cell? ⟨gb237, 0, none⟩ = some (.slice A0_0 l0_0.length c0_0) ∧ w104.cell? ⟨gb237, 1, none⟩ = some (.slice A0_1 l0_1.length c0_1) ∧ w104.cell? ⟨gb238, 0, none⟩ = some (.int .i64 a1_0) ∧ w104.cell? ⟨gb238, 1, none⟩ = some (.int .i64 a1_1) := hS_
   obtain ⟨Ao105, co105, eo105⟩ := Kd.R_slice HO242.out
   (first | subst eo105 | (injection eo105 with f1_ f2_ f3_; have f4_ := f1_.symm; have f5_ := f3_.symm; clear f1_ f2_ f3_; subst f4_; subst f5_))
   obtain ⟨Ao107, co107, eo107⟩ := Kd.R_slice HO245.out
   (first | subst eo107 | (injection eo107 with f1_ f2_ f3_; have f4_ := f1_.symm; have f5_ := f3_.symm; clear f1_ f2_ f3_; subst f4_; subst f5_))
   refine norm_ (a' := ?_) ?_ ?_
   rotate_left
   ·simp only [putAll, Act.put, List.setIfInBounds_toArray, List.set_cons_zero, List.set_cons_succ]
    rfl
   refine one_ (i := 6) (N := none) #[true, true, true, true, true, true, true, false] rfl rfl (one_of HT_.out (by kernel_rfl)) (by decide) (fun K hK => ?_)
   have hs106 : w104.cell? ⟨gb247, 0, none⟩ = some (.slice none 0 0) := bc0 BK247
   have hfs106 := blk_frozen BK247.out 0
   have hns106_0 := NB237_247.out
   have hns106_1 := NB238_247.out
   have hns106_2 := NB239_247.out
   have hms106_0 := NB247_237.out
   have hms106_1 := NB247_238.out
   have hms106_2 := NB247_239.out
   have hs108 : w104.cell? ⟨gb247, 1, none⟩ = some (.slice none 0 0) := bc1 BK247
   have hfs108 := blk_frozen BK247.out 1
   have hns108_0 := NB237_247.out
   have hns108_1 := NB238_247.out
   have hns108_2 := NB239_247.out
   have hms108_0 := NB247_237.out
   have hms108_1 := NB247_238.out
   have hms108_2 := NB247_239.out
   refine skip_ (w1 := ?_) (by rfl) rfl ?_ ?_
   rotate_left
   ·go_simp
    rfl
   refine hK.out _ _ ⟨((cell_far (p := ⟨gb247, _, none⟩) NB237_247.out _).trans (((cell_far (p := ⟨gb247, _, none⟩) NB237_247.out _).trans (hHeld.1)))), ((cell_far (p := ⟨gb247, _, none⟩) NB237_247.out _).trans (((cell_far (p := ⟨gb247, _, none⟩) NB237_247.out _).trans (hHeld.2.1)))), ((cell_far (p := ⟨gb247, _, none⟩) NB238_247.out _).trans (((cell_far (p := ⟨gb247, _, none⟩) NB238_247.out _).trans (hHeld.2.2.1)))), ((cell_far (p := ⟨gb247, _, none⟩) NB238_247.out _).trans (((cell_far (p := ⟨gb247, _, none⟩) NB238_247.out _).trans (hHeld.2.2.2))))⟩ (fun hHeld => ?_)
   clear hK K
   refine pure_ (i := 7) (N := some 6) (v := ?_) (a' := ?_) #[true, true, true, true, true, true, true, true] rfl rfl (any_of HT_.out (by kernel_rfl)) (fun _ _ _ h => h) (Or.inl ⟨by rfl, ?_⟩) ?_ ?_
   rotate_left
   ·intro w'
    go_simp
    with_reducible rfl
   rotate_left
   ·simp only [Act.put, List.setIfInBounds_toArray, List.set_cons_zero, List.set_cons_succ, i64_w, i32_w]
    rfl
   refine done_ (done_of HT_.out (by kernel_rfl)) ?_
   have hnb109 := NB238_237.out
   have hnc109 := NB237_238.out
   have hnb110 := NB238_239.out
   have hnc110 := NB239_238.out
   have hnb111 := NB238_247.out
   have hnc111 := NB247_238.out
   have hcz112_0 := bc0 BK238
   have hcz112_1 := bc1 BK238
   have hfz112_0 := blk_frozen BK238.out 0
   have hfz112_1 := blk_frozen BK238.out 1
   have hnb113 := NB247_237.out
   have hnc113 := NB237_247.out
   have hnb114 := NB247_239.out
   have hnc114 := NB239_247.out
   have hcz115_0 := bc0 BK247
   have hcz115_1 := bc1 BK247
   have hfz115_0 := blk_frozen BK247.out 0
   have hfz115_1 := blk_frozen BK247.out 1
   have hnb116 := NB239_237.out
   have hnc116 := NB237_239.out
   have hcz117_0 := bc0 BK239
   have hcz117_1 := bc1 BK239
   have hfz117_0 := blk_frozen BK239.out 0
   have hfz117_1 := blk_frozen BK239.out 1
   try go_wp2
   refine bodyPost_ret (results_cell_row rfl _ _ gb239 29 #[.slice Ao105 t240.length co105, .slice Ao107 t243.length co107] (0, 0) _ rfl (by (with_reducible repeat (first | refine blk_drewN ?_ _ | refine blk_drew ?_ | refine blk_alloc ?_ _)); refine blk_put (cs := #[.slice Ao105 t240.length co105, .slice none 0 0]) ?_ 1 _ rfl; (with_reducible repeat (first | refine blk_drewN ?_ _ | refine blk_drew ?_ | refine blk_alloc ?_ _)); refine blk_put (cs := #[.slice none 0 0, .slice none 0 0]) ?_ 0 _ rfl; exact bk BK239) Try.underlying29 rfl (by kernel_rfl)) rfl ?_
   exact ⟨_, _, by first | rfl | (simp [errW_none, errW_some] <;> rfl) | (simp [*, errW_none, errW_some] <;> rfl), by (with_reducible repeat (first | apply Kd.R_alloc | apply Kd.R_drewN | apply Kd.R_drew)); exact Kd.R_mono (Kd.R_far (p := ⟨gb239, 1, none⟩) (Kd.R_far (p := ⟨gb239, 0, none⟩) (Kd.R_far (p := ⟨gb247, 1, none⟩) (Kd.R_far (p := ⟨gb247, 0, none⟩) (Kd.R_types (Kd.R_types HO242.out BK247.out (by decide)) BK239.out (by decide)) (fun _ hk => hk.1.2) (.slice Ao105 t240.length co105)) (fun _ hk => hk.1.2) (.slice Ao107 t243.length co107)) (fun _ hk => hk.2) (.slice Ao105 t240.length co105)) (fun _ hk => hk.2) (.slice Ao107 t243.length co107)) (fun _ hk => hk.1.1), by (with_reducible repeat (first | apply Kd.R_alloc | apply Kd.R_drewN | apply Kd.R_drew)); exact Kd.R_mono (Kd.R_far (p := ⟨gb239, 1, none⟩) (Kd.R_far (p := ⟨gb239, 0, none⟩) (Kd.R_far (p := ⟨gb247, 1, none⟩) (Kd.R_far (p := ⟨gb247, 0, none⟩) (Kd.R_types (Kd.R_types HO245.out BK247.out (by decide)) BK239.out (by decide)) (fun _ hk => hk.1.2) (.slice Ao105 t240.length co105)) (fun _ hk => hk.1.2) (.slice Ao107 t243.length co107)) (fun _ hk => hk.2) (.slice Ao105 t240.length co105)) (fun _ hk => hk.2) (.slice Ao107 t243.length co107)) (fun _ hk => hk.1.1), bw HB⟩

end Go.Proofs.Ytigpkicbigpilaa.U
