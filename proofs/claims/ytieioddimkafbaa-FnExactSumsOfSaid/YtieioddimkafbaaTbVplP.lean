/- spec.plPlace: as a plain function, and that the calls come to it. -/
import Derived.Test.YtieioddimkafbaaTbGvSep
import Derived.Test.YtieioddimkafbaaTbVx
namespace Go.Proofs.Ytieioddimkafbaa.V
open Go.RowKit Go.Proofs.YtieioddimkafbaaW.PrintWords Go.Proofs.YtieioddimkafbaaW.PrintLast Go.Proofs.YtieioddimkafbaaW.PrintMore Go.Proofs.Ytieioddimkafbaa.Sq Go.Proofs.Ytieioddimkafbaa.Sep
attribute [local go_sem] max2_int min2_int max_two min_two max_three min_three max_four min_four
set_option linter.unusedVariables false
set_option linter.unusedSimpArgs false
theorem info35 : (Try.prog.info? 35).map (fun i => (i.zero, i.size, i.bytes)) = some (some (.agg #[(.slice none 0 0), (.slice none 0 0)]), 2, 48) := by kernel_rfl
theorem k35_openF {W : World} {ok : Nat → Prop} {x : S35} {cs : List Value} (h : Kd.FK k35 W ok x cs) : ∃ A0 c0 A1 c1, cs = [.slice A0 x.f0.length c0, .slice A1 x.f1.length c1] ∧ x.f0.length ≤ c0 ∧ Kd.F (Kd.int .i64) W ok A0 x.f0.length x.f0 ∧ x.f1.length ≤ c1 ∧ Kd.F (Kd.int .i64) W ok A1 x.f1.length x.f1 := by
  obtain ⟨A0, c0, A1, c1, rfl, l0, _, l1, _⟩ := k35_open (Kd.FK_now h)
  exact ⟨A0, c0, A1, c1, rfl, l0, (fun W' hW => by obtain ⟨A0_, c0_, A1_, c1_, he, l0_, g0_, l1_, g1_⟩ := k35_open (h W' hW); injection (Option.some.inj (show some (Value.slice A0 x.f0.length c0) = some (Value.slice A0_ x.f0.length c0_) from congrArg (fun l => l[0]?) he)) with ha_ _ _; rw [ha_]; exact g0_), l1, (fun W' hW => by obtain ⟨A0_, c0_, A1_, c1_, he, l0_, g0_, l1_, g1_⟩ := k35_open (h W' hW); injection (Option.some.inj (show some (Value.slice A1 x.f1.length c1) = some (Value.slice A1_ x.f1.length c1_) from congrArg (fun l => l[1]?) he)) with ha_ _ _; rw [ha_]; exact g1_)⟩
theorem k35_mkF (W : World) (ok : Nat → Prop) (x : S35) {A0 : Option Addr} {c0 : Nat} (l0 : x.f0.length ≤ c0) (g0 : Kd.F (Kd.int .i64) W ok A0 x.f0.length x.f0) {A1 : Option Addr} {c1 : Nat} (l1 : x.f1.length ≤ c1) (g1 : Kd.F (Kd.int .i64) W ok A1 x.f1.length x.f1) : Kd.FK k35 W ok x [.slice A0 x.f0.length c0, .slice A1 x.f1.length c1] := fun W2 hW => k35_mk W2 x l0 (g0 W2 hW) l1 (g1 W2 hW)
def spec_plPlace.l0 : Nat → Int → Int → List (S35) → List Int → List (S55) → List Int → List Int → List Int → List Int → Option (Int × Bool)
 | 0, _, _, _, _, _, _, _, _, _ => none
 | k + 1, x6, x7, x188000, x188001, x188002, x188003, x188004, x189000, x189001 => if x6 < x7 then (if 0 ≤ (wrap64 (Int.tdiv (wrap64 (x6 + x7)) 2)) then (if (wrap64 (Int.tdiv (wrap64 (x6 + x7)) 2)) < (x188004.length : Int) then (if 0 ≤ (rd x188004 (wrap64 (Int.tdiv (wrap64 (x6 + x7)) 2))) then (if (rd x188004 (wrap64 (Int.tdiv (wrap64 (x6 + x7)) 2))) < (x188000.length : Int) then ((spec_plLess.f k ((rd_T35 x188000 (rd x188004 (wrap64 (Int.tdiv (wrap64 (x6 + x7)) 2)))).f0) ((rd_T35 x188000 (rd x188004 (wrap64 (Int.tdiv (wrap64 (x6 + x7)) 2)))).f1) x189000 x189001).bind fun t191 => (if t191 = true then (spec_plPlace.l0 k (wrap64 ((wrap64 (Int.tdiv (wrap64 (x6 + x7)) 2)) + 1)) x7 x188000 x188001 x188002 x188003 x188004 x189000 x189001) else (spec_plPlace.l0 k x6 (wrap64 (Int.tdiv (wrap64 (x6 + x7)) 2)) x188000 x188001 x188002 x188003 x188004 x189000 x189001))) else (none)) else (none)) else (none)) else (none)) else (if x6 < (x188004.length : Int) then (if 0 ≤ x6 then (if 0 ≤ (rd x188004 x6) then (if (rd x188004 x6) < (x188000.length : Int) then ((spec_veSame.f k ((rd_T35 x188000 (rd x188004 x6)).f0) ((rd_T35 x188000 (rd x188004 x6)).f1) x189000 x189001).bind fun t194 => (some (x6, t194))) else (none)) else (none)) else (none)) else (some (x6, false)))
def spec_plPlace.f (k : Nat) (l0_0 : List (S35)) (l0_1 : List Int) (l0_2 : List (S55)) (l0_3 : List Int) (l0_4 : List Int) (l1_0 : List Int) (l1_1 : List Int) : Option (Int × Bool) := spec_plPlace.l0 k 0 (l0_4.length : Int) l0_0 l0_1 l0_2 l0_3 l0_4 l1_0 l1_1
def spec_plPlace.T4 : Bool × List (List Nat × List Nat) := (true, [([], []), ([0], [0]), ([1], [1]), ([2], [2]), ([], []), ([4], [4]), ([5], [5]), ([6], [6]), ([], []), ([7, 8], [7, 8]), ([9], [9]), ([3, 10], [3, 10]), ([11], [11]), ([], []), ([12, 13], [12, 13])])
def spec_plPlace.B4 : List Nat := [0, 1, 3, 7, 0, 16, 48, 112, 0, 496, 1008, 2047, 4095, 0, 16383]
theorem spec_plPlace.tab4 : rtab .any (opsOf Try.f53 4) = spec_plPlace.T4 := by kernel_rfl
theorem spec_plPlace.bits4 : waitsOk spec_plPlace.T4.2 spec_plPlace.B4 = true := by kernel_rfl
def spec_plPlace.T7 : Bool × List (List Nat × List Nat) := (true, [([], []), ([], []), ([], []), ([2], [2]), ([3], [3]), ([4], [4]), ([5], [5]), ([1, 6], [1, 6]), ([7], [7]), ([8], [8]), ([9, 8], [8, 9]), ([10, 8], [8, 10]), ([11, 8], [8, 11]), ([8], [8]), ([13, 8], [8, 13]), ([14, 8], [8, 14]), ([15, 8], [8, 15]), ([8], [8]), ([16, 17, 8], [8, 16, 17]), ([18, 8], [8, 18]), ([12, 19, 8], [8, 12, 19]), ([20, 8], [8, 20]), ([8], [8]), ([21, 22, 8, 8], [8, 21, 22]), ([8, 23], [8, 23]), ([0, 23, 0], [0]), ([24, 25, 0, 1, 2, 3, 4, 5, 6, 7, 8, 9, 10, 11, 12, 13, 14, 15, 16, 17, 18, 19, 20, 21, 22, 23, 24, 25], [24])])
def spec_plPlace.B7 : List Nat := [0, 0, 0, 4, 12, 28, 60, 126, 254, 510, 1022, 2046, 4094, 510, 8702, 25086, 57854, 510, 254462, 516606, 1048574, 2097150, 510, 8388606, 16777214, 16777215, 67108863]
theorem spec_plPlace.tab7 : rtab .any (opsOf Try.f53 7) = spec_plPlace.T7 := by kernel_rfl
theorem spec_plPlace.bits7 : waitsOk spec_plPlace.T7.2 spec_plPlace.B7 = true := by kernel_rfl
set_option maxHeartbeats 8000000 in
set_option maxRecDepth 100000 in
theorem spec_plPlace.calls (k : Nat) (A0_0 : Option Addr) (c0_0 : Nat) (l0_0 : List (S35)) (A0_1 : Option Addr) (c0_1 : Nat) (l0_1 : List Int) (A0_2 : Option Addr) (c0_2 : Nat) (l0_2 : List (S55)) (A0_3 : Option Addr) (c0_3 : Nat) (l0_3 : List Int) (A0_4 : Option Addr) (c0_4 : Nat) (l0_4 : List Int) (A1_0 : Option Addr) (c1_0 : Nat) (l1_0 : List Int) (A1_1 : Option Addr) (c1_1 : Nat) (l1_1 : List Int) (r1 : Int) (r2 : Bool) (w : World) (gb187 : Nat) (hbk187 : w.heap[gb187]? = some (.cells #[.slice A0_0 l0_0.length c0_0, .slice A0_1 l0_1.length c0_1, .slice A0_2 l0_2.length c0_2, .slice A0_3 l0_3.length c0_3, .slice A0_4 l0_4.length c0_4] 62 (0, 0))) (hr0_0 : Kd.C k35 w A0_0 l0_0.length l0_0) (hc0_0 : l0_0.length ≤ c0_0) (hr0_1 : Kd.C (Kd.int .i64) w A0_1 l0_1.length l0_1) (hc0_1 : l0_1.length ≤ c0_1) (hr0_2 : Kd.C k55 w A0_2 l0_2.length l0_2) (hc0_2 : l0_2.length ≤ c0_2) (hr0_3 : Kd.C (Kd.int .i64) w A0_3 l0_3.length l0_3) (hc0_3 : l0_3.length ≤ c0_3) (hr0_4 : Kd.C (Kd.int .i64) w A0_4 l0_4.length l0_4) (hc0_4 : l0_4.length ≤ c0_4) (hr1_0 : Kd.C (Kd.int .i64) w A1_0 l1_0.length l1_0) (hc1_0 : l1_0.length ≤ c1_0) (hr1_1 : Kd.C (Kd.int .i64) w A1_1 l1_1.length l1_1) (hc1_1 : l1_1.length ≤ c1_1) (h : spec_plPlace.f k l0_0 l0_1 l0_2 l0_3 l0_4 l1_0 l1_1 = some (r1, r2)) :
  Calls Try.prog 53 #[.pointer (some ⟨gb187, 0, none⟩), .agg #[.slice A1_0 l1_0.length c1_0, .slice A1_1 l1_1.length c1_1]] w fun e w' => e = .returned (.tuple #[.int .i64 r1, .bool r2]) ∧ Below w.heap.size w w' := by
 have hu80 := Try.underlying62
 have hu29 := Try.underlying35
 have HR0_0 := Aside0.mk hr0_0
 have HC0_0 := Aside0.mk hc0_0
 clear hr0_0 hc0_0
 have HR0_1 := Aside0.mk hr0_1
 have HC0_1 := Aside0.mk hc0_1
 clear hr0_1 hc0_1
 have HR0_2 := Aside0.mk hr0_2
 have HC0_2 := Aside0.mk hc0_2
 clear hr0_2 hc0_2
 have HR0_3 := Aside0.mk hr0_3
 have HC0_3 := Aside0.mk hc0_3
 clear hr0_3 hc0_3
 have HR0_4 := Aside0.mk hr0_4
 have HC0_4 := Aside0.mk hc0_4
 clear hr0_4 hc0_4
 have HR1_0 := Aside0.mk hr1_0
 have HC1_0 := Aside0.mk hc1_0
 clear hr1_0 hc1_0
 have HR1_1 := Aside0.mk hr1_1
 have HC1_1 := Aside0.mk hc1_1
 clear hr1_1 hc1_1
 have HB := Aside0.mk (Below.refl w.heap.size w)
 have BK187 := Aside0.mk hbk187
 clear hbk187
 have H : (spec_plPlace.l0 k 0 (l0_4.length : Int) l0_0 l0_1 l0_2 l0_3 l0_4 l1_0 l1_1) = some (r1, r2) := h
 clear h
 have H' := Aside0.mk H
 clear H
 go_enter Try.func53, Try.ntmps53
 try go_wp2_with (first | ((with_reducible refine gate_dst (N := 3) rfl ?_); refine bx 3 #[.slice A1_0 l1_0.length c1_0, .slice A1_1 l1_1.length c1_1] 35 ?_; intro gb188 hg w4 hbox hb; have BK188 := Aside0.mk (hbox); have GW188 := ge HB hg; have GE188 := ge HB hg; replace HB := bs HB hb; have NB187_188 := nl BK187 hg; have NB188_187 := nr BK187 hg; replace BK187 := bb BK187 hb; clear hb hbox hg))
 replace BK187 := Aside0.mk (blk_drew BK187.out)
 replace BK188 := Aside0.mk (blk_drew BK188.out)
 replace HB := Aside0.mk (below_drew1 HB.out)
 refine start_ (n := 7) (S := fun w' => w'.cell? ⟨gb187, 0, none⟩ = some (.slice A0_0 l0_0.length c0_0) ∧ w'.cell? ⟨gb187, 1, none⟩ = some (.slice A0_1 l0_1.length c0_1) ∧ w'.cell? ⟨gb187, 2, none⟩ = some (.slice A0_2 l0_2.length c0_2) ∧ w'.cell? ⟨gb187, 3, none⟩ = some (.slice A0_3 l0_3.length c0_3) ∧ w'.cell? ⟨gb187, 4, none⟩ = some (.slice A0_4 l0_4.length c0_4)) (ds := []) (bl 7 0) (by kernel_rfl) rfl rfl ⟨bc0 BK187, bc1 BK187, bc2 BK187, bc3 BK187, bc4 BK187⟩ (fun hHeld => ?_)
 generalize w4.drew = w5 at BK187 BK188 HB hHeld ⊢
 refine pure_ (i := 0) (N := some 9) (v := ?_) (a' := ?_) (bl 7 1) rfl rfl (by kernel_rfl) (fun _ _ _ h => h) (Or.inl ⟨by rfl, ?_⟩) ?_ ?_
 rotate_left; (intro w'; go_simp; with_reducible rfl); rotate_left; (simp only [sqa, sqb, sqc, sqd, i64_w, i32_w]; rfl)
 refine pure_ (i := 1) (N := some 10) (v := ?_) (a' := ?_) (bl 7 3) rfl rfl (by kernel_rfl) (fun _ _ _ h => h) (Or.inl ⟨by rfl, ?_⟩) ?_ ?_
 rotate_left; (intro w'; go_simp; with_reducible rfl); rotate_left; (simp only [sqa, sqb, sqc, sqd, i64_w, i32_w]; rfl)
 refine pure_ (i := 2) (N := some 11) (v := ?_) (a' := ?_) (bl 7 7) rfl rfl (by kernel_rfl) (fun _ _ _ h => h) (Or.inl ⟨by rfl, ?_⟩) ?_ ?_
 rotate_left; (intro w'; go_simp; with_reducible rfl); rotate_left; (simp only [sqa, sqb, sqc, sqd, i64_w, i32_w]; rfl)
 refine pure_ (i := 5) (N := some 6) (v := ?_) (a' := ?_) (bl 7 39) rfl rfl (by kernel_rfl) (fun _ _ _ h => h) (Or.inl ⟨by rfl, ?_⟩) ?_ ?_
 rotate_left; (intro w'; go_simp; with_reducible rfl); rotate_left; (simp only [sqa, sqb, sqc, sqd, i64_w, i32_w]; rfl)
 refine take_ (i := 3) (N := some 12) (v := ?_) (a' := ?_) (bl 7 47) rfl rfl (by kernel_rfl) (fun _ _ _ h => h) (Or.inl ⟨by rfl, ?_⟩) hHeld ?_ ?_
 rotate_left; (rintro w' ⟨s0, s1, s2, s3, s4⟩; go_simp; with_reducible rfl); rotate_left; (simp only [sqa, sqb, sqc, sqd, i64_w, i32_w]; rfl)
 refine pure_ (i := 4) (N := some 13) (v := ?_) (a' := ?_) (bl 7 63) rfl rfl (by kernel_rfl) (fun _ _ _ h => h) (Or.inl ⟨by rfl, ?_⟩) ?_ ?_
 rotate_left; (intro w'; go_simp; with_reducible rfl); rotate_left; (simp only [sqa, sqb, sqc, sqd, i64_w, i32_w]; rfl)
 refine pure_ (i := 6) (N := some 7) (v := ?_) (a' := ?_) (bl 7 127) rfl rfl (by kernel_rfl) (fun _ _ _ h => h) (Or.inl ⟨by rfl, ?_⟩) ?_ ?_
 rotate_left; (intro w'; go_simp; with_reducible rfl); rotate_left; (simp only [sqa, sqb, sqc, sqd, i64_w, i32_w]; rfl)
 refine done_ (by kernel_rfl) ?_
 try go_wp2
 try simp only [Act.put, List.setIfInBounds_toArray, List.set_cons_zero, List.set_cons_succ]
 go_loopg [6, 7] k (fun kq v6 v7 w' => ∃ (x6_1 : Int) (x7_1 : Int), v6 = .int .i64 x6_1 ∧ v7 = .int .i64 x7_1 ∧ Aside0 (spec_plPlace.l0 kq x6_1 x7_1 l0_0 l0_1 l0_2 l0_3 l0_4 l1_0 l1_1 = some (r1, r2)) ∧ Aside0 (kq ≤ k) ∧ Aside0 (w'.heap[gb187]? = some (.cells #[(.slice A0_0 l0_0.length c0_0), (.slice A0_1 l0_1.length c0_1), (.slice A0_2 l0_2.length c0_2), (.slice A0_3 l0_3.length c0_3), (.slice A0_4 l0_4.length c0_4)] 62 (0, 0))) ∧ Aside0 (w'.heap[gb188]? = some (.cells #[(.slice A1_0 l1_0.length c1_0), (.slice A1_1 l1_1.length c1_1)] 35 (0, 0))) ∧ Aside0 (Below w.heap.size w w'))
 case atStart => exact ⟨(0), ((l0_4.length : Int)), (by first | rfl | (simp; done) | (simp [*]; done)), (by first | rfl | (simp; done) | (simp [*]; done)), H', ⟨Nat.le_refl _⟩, ⟨bk BK187⟩, ⟨bk BK188⟩, ⟨bw HB⟩⟩
 case round =>
  clear H'
  try clear c1
  try clear p2
  obtain ⟨x6_1, x7_1, rfl, rfl, HA, HK1, BK187, BK188, HB⟩ := hrel
  cases gk with
  | zero => exact absurd HA.out (by simp [spec_plPlace.l0])
  | succ k1 =>
   have H := HA.out
   clear HA
   simp only [spec_plPlace.l0] at H
   by_cases c6 : x6_1 < x7_1
   ·rw [if_pos c6] at H
    have c6b0 : decide (x6_1 < x7_1) = true := decide_eq_true c6
    clear c6
    obtain ⟨ji7, hji7⟩ : ∃ j_ : Int, (wrap64 (Int.tdiv (wrap64 (x6_1 + x7_1)) 2)) = j_ := ⟨_, rfl⟩
    replace H : (if 0 ≤ (ji7) then (if (ji7) < (l0_4.length : Int) then (if 0 ≤ (rd l0_4 (ji7)) then (if (rd l0_4 (ji7)) < (l0_0.length : Int) then ((spec_plLess.f k1 ((rd_T35 l0_0 (rd l0_4 (ji7))).f0) ((rd_T35 l0_0 (rd l0_4 (ji7))).f1) l1_0 l1_1).bind fun t191 => (if t191 = true then (spec_plPlace.l0 k1 (wrap64 ((ji7) + 1)) x7_1 l0_0 l0_1 l0_2 l0_3 l0_4 l1_0 l1_1) else (spec_plPlace.l0 k1 x6_1 ji7 l0_0 l0_1 l0_2 l0_3 l0_4 l1_0 l1_1))) else (none)) else (none)) else (none)) else (none)) = some (r1, r2) := by first | (rw [hji7] at H; exact H) | (simp only [hji7] at H ⊢; exact H)
    have hji7w : (IntKind.i64.wrap (Int.tdiv (wrap64 (x6_1 + x7_1)) 2)) = ji7 := (i64_w _).trans hji7
    by_cases c8 : 0 ≤ (ji7)
    rotate_left
    ·rw [if_neg c8] at H
     exact absurd H (by simp)
    rw [if_pos c8] at H
    have c8b0 : decide (0 ≤ (ji7)) = true := decide_eq_true c8
    clear c8
    by_cases c9 : (ji7) < (l0_4.length : Int)
    rotate_left
    ·rw [if_neg c9] at H
     exact absurd H (by simp)
    rw [if_pos c9] at H
    have c9b0 : decide ((ji7) < (l0_4.length : Int)) = true := decide_eq_true c9
    clear c9
    by_cases c10 : 0 ≤ (rd l0_4 (ji7))
    rotate_left
    ·rw [if_neg c10] at H
     exact absurd H (by simp)
    rw [if_pos c10] at H
    have c10b0 : decide (0 ≤ (rd l0_4 (ji7))) = true := decide_eq_true c10
    clear c10
    by_cases c11 : (rd l0_4 (ji7)) < (l0_0.length : Int)
    rotate_left
    ·rw [if_neg c11] at H
     exact absurd H (by simp)
    rw [if_pos c11] at H
    have c11b0 : decide ((rd l0_4 (ji7)) < (l0_0.length : Int)) = true := decide_eq_true c11
    clear c11
    replace H := Option.bind_eq_some_iff.mp H
    obtain ⟨t191, A120, H⟩ := H
    (try dsimp only at H)
    have A12 := Aside0.mk A120
    clear A120
    by_cases c13 : t191 = true
    ·subst c13
     have H1 : (spec_plPlace.l0 k1 (wrap64 ((ji7) + 1)) x7_1 l0_0 l0_1 l0_2 l0_3 l0_4 l1_0 l1_1) = some (r1, r2) := by rw [if_pos rfl] at H; exact H
     clear H
     have H := H1
     clear H1
     have H' := Aside0.mk H
     clear H
     try go_wp2
     replace BK187 := Aside0.mk (blk_drew BK187.out)
     replace BK188 := Aside0.mk (blk_drew BK188.out)
     replace HB := Aside0.mk (below_drew1 HB.out)
     have p189 : 0 ≤ ((ji7) : Int) := of_decide_eq_true ‹_›
     have q189 : (ji7) < (l0_4.length : Int) := of_decide_eq_true ‹_›
     obtain ⟨ad189, e189, hx189_0⟩ := Kd.at_int HR0_4.out (ji7) p189 q189
     have hw189_0 := hx189_0
     cases e189
     replace hx189_0 := (HB.out.cell (World.block_lt_of_cell? w _ hx189_0)).trans hx189_0
     replace p189 := eq_true p189
     replace q189 := eq_true q189
     have p190 : 0 ≤ ((rd l0_4 (ji7)) : Int) := of_decide_eq_true ‹_›
     have q190 : (rd l0_4 (ji7)) < (l0_0.length : Int) := of_decide_eq_true ‹_›
     obtain ⟨ad190, A190_0, c190_0, A190_1, c190_1, e190, hx190_0, hx190_1, hl190_0, hi190_0, hl190_1, hi190_1⟩ := at_T35 HR0_0.out (rd l0_4 (ji7)) p190 q190
     have hw190_1 := hx190_1
     have hw190_0 := hx190_0
     cases e190
     replace hx190_0 := (HB.out.cell (World.block_lt_of_cell? w _ hx190_0)).trans hx190_0
     replace hx190_1 := (HB.out.cell (World.block_lt_of_cell? w _ hx190_1)).trans hx190_1
     have HR190_0 := Aside0.mk hi190_0
     have HC190_0 := Aside0.mk hl190_0
     clear hi190_0 hl190_0
     have HR190_1 := Aside0.mk hi190_1
     have HC190_1 := Aside0.mk hl190_1
     clear hi190_1 hl190_1
     replace p190 := eq_true p190
     replace q190 := eq_true q190
     refine start_ (n := 15) (S := fun w' => w'.cell? ⟨gb187, 0, none⟩ = some (.slice (some ad190) l0_0.length c0_0) ∧ w'.cell? ⟨gb187, 1, none⟩ = some (.slice A0_1 l0_1.length c0_1) ∧ w'.cell? ⟨gb187, 2, none⟩ = some (.slice A0_2 l0_2.length c0_2) ∧ w'.cell? ⟨gb187, 3, none⟩ = some (.slice A0_3 l0_3.length c0_3) ∧ w'.cell? ⟨gb187, 4, none⟩ = some (.slice (some ad189) l0_4.length c0_4) ∧ w'.cell? ⟨gb188, 0, none⟩ = some (.slice A1_0 l1_0.length c1_0) ∧ w'.cell? ⟨gb188, 1, none⟩ = some (.slice A1_1 l1_1.length c1_1) ∧ w'.cell? (ad189.add ((ji7)).toNat) = some (.int .i64 (rd l0_4 (ji7))) ∧ w'.cell? (ad190.add (((rd l0_4 (ji7))).toNat * 2)) = some (.slice A190_0 ((rd_T35 l0_0 (rd l0_4 (ji7))).f0).length c190_0) ∧ w'.cell? ⟨(ad190.add (((rd l0_4 (ji7))).toNat * 2)).block, (ad190.add (((rd l0_4 (ji7))).toNat * 2)).off + 1, none⟩ = some (.slice A190_1 ((rd_T35 l0_0 (rd l0_4 (ji7))).f1).length c190_1)) (ds := []) (bl 15 0) (by kernel_rfl) rfl rfl ⟨bc0 BK187, bc1 BK187, bc2 BK187, bc3 BK187, bc4 BK187, bc0 BK188, bc1 BK188, ((HB.out.cell (World.block_lt_of_cell? w _ hw189_0)).trans hw189_0), ((HB.out.cell (World.block_lt_of_cell? w _ hw190_0)).trans hw190_0), ((HB.out.cell (World.block_lt_of_cell? w _ hw190_1)).trans hw190_1)⟩ (fun hHeld => ?_); refine with_tabW spec_plPlace.tab4 spec_plPlace.bits4 (fun HT_ HW_ => ?_)
     generalize wr.drew = w14 at BK187 BK188 HB HR190_0 HR190_1 hx189_0 hx190_0 hx190_1 hHeld ⊢
     refine pu 0 21 (bl 15 1) HT_.out (v := ?_) (a' := ?_) ?_ ?_ ?_
     rotate_left; (intro w'; go_simp; with_reducible rfl); rotate_left; (simp only [sqa, sqb, sqc, sqd, i64_w, i32_w]; rfl)
     refine pu 1 22 (bl 15 3) HT_.out (v := ?_) (a' := ?_) ?_ ?_ ?_
     rotate_left; (intro w'; go_simp; with_reducible rfl); rotate_left; (simp only [sqa, sqb, sqc, sqd, i64_w, i32_w]; rfl)
     refine pu 2 23 (bl 15 7) HT_.out (v := ?_) (a' := ?_) ?_ ?_ ?_
     rotate_left; (intro w'; go_simp; with_reducible rfl); rotate_left; (simp only [sqa, sqb, sqc, sqd, i64_w, i32_w]; rfl)
     refine pu 4 25 (bl 15 23) HT_.out (v := ?_) (a' := ?_) ?_ ?_ ?_
     rotate_left; (intro w'; go_simp; with_reducible rfl); rotate_left; (simp only [sqa, sqb, sqc, sqd, i64_w, i32_w]; rfl)
     refine pu 5 26 (bl 15 55) HT_.out (v := ?_) (a' := ?_) ?_ ?_ ?_
     rotate_left; (intro w'; go_simp; with_reducible rfl); rotate_left; (simp only [sqa, sqb, sqc, sqd, i64_w, i32_w]; rfl)
     refine pu 6 27 (bl 15 119) HT_.out (v := ?_) (a' := ?_) ?_ ?_ ?_
     rotate_left; (intro w'; go_simp; with_reducible rfl); rotate_left; (simp only [sqa, sqb, sqc, sqd, i64_w, i32_w]; rfl)
     refine pu 8 29 (bl 15 375) HT_.out (v := ?_) (a' := ?_) ?_ ?_ ?_
     rotate_left; (intro w'; go_simp; with_reducible rfl); rotate_left; (simp only [sqa, sqb, sqc, sqd, i64_w, i32_w]; rfl)
     refine tk 3 24 (bl 15 383) HT_.out HW_.out hHeld (v := ?_) (a' := ?_) ?_ ?_ ?_
     rotate_left; (rintro w' ⟨s0, s1, s2, s3, s4, s5, s6, s7, s8, s9⟩; go_simp; with_reducible rfl); rotate_left; (simp only [sqa, sqb, sqc, sqd, i64_w, i32_w]; rfl)
     refine tk 7 28 (bl 15 511) HT_.out HW_.out hHeld (v := ?_) (a' := ?_) ?_ ?_ ?_
     rotate_left; (rintro w' ⟨s0, s1, s2, s3, s4, s5, s6, s7, s8, s9⟩; go_simp; with_reducible rfl); rotate_left; (simp only [sqa, sqb, sqc, sqd, i64_w, i32_w]; rfl)
     refine pu 9 30 (bl 15 1023) HT_.out (v := ?_) (a' := ?_) ?_ ?_ ?_
     rotate_left; (intro w'; go_simp; with_reducible rfl); rotate_left; (simp only [sqa, sqb, sqc, sqd, i64_w, i32_w]; rfl)
     refine tk 10 31 (bl 15 2047) HT_.out HW_.out hHeld (v := ?_) (a' := ?_) ?_ ?_ ?_
     rotate_left; (rintro w' ⟨s0, s1, s2, s3, s4, s5, s6, s7, s8, s9⟩; go_simp; with_reducible rfl); rotate_left; (simp only [sqa, sqb, sqc, sqd, i64_w, i32_w]; rfl)
     refine pu 11 32 (bl 15 4095) HT_.out (v := ?_) (a' := ?_) ?_ ?_ ?_
     rotate_left; (intro w'; go_simp; with_reducible rfl); rotate_left; (simp only [sqa, sqb, sqc, sqd, i64_w, i32_w]; rfl)
     refine tk 12 33 (bl 15 8191) HT_.out HW_.out hHeld (v := ?_) (a' := ?_) ?_ ?_ ?_
     rotate_left; (rintro w' ⟨s0, s1, s2, s3, s4, s5, s6, s7, s8, s9⟩; go_simp; with_reducible rfl); rotate_left; (simp only [sqa, sqb, sqc, sqd, i64_w, i32_w]; rfl)
     refine tk 13 34 (bl 15 16383) HT_.out HW_.out hHeld (v := ?_) (a' := ?_) ?_ ?_ ?_
     rotate_left; (rintro w' ⟨s0, s1, s2, s3, s4, s5, s6, s7, s8, s9⟩; go_simp; with_reducible rfl); rotate_left; (simp only [sqa, sqb, sqc, sqd, i64_w, i32_w]; rfl)
     refine on 14 35 (bl 15 32767) HT_.out (fun K hK => ?_)
     refine goes_ Try.func74 (by kernel_rfl) rfl #[.agg #[.slice A190_0 ((rd_T35 l0_0 (rd l0_4 (ji7))).f0).length c190_0, .slice A190_1 ((rd_T35 l0_0 (rd l0_4 (ji7))).f1).length c190_1], .agg #[.slice A1_0 l1_0.length c1_0, .slice A1_1 l1_1.length c1_1]] (by rfl) rfl rfl (by (try simp only [List.map_toArray, List.map_cons, List.map_nil]); first | done | (simp only [hji7]; rfl) | rfl | (simp only [List.length_drop, List.length_take]; rfl)) ?_
     with_reducible refine (spec_plLess.calls k1 _ _ ((rd_T35 l0_0 (rd l0_4 (ji7))).f0) _ _ ((rd_T35 l0_0 (rd l0_4 (ji7))).f1) _ _ l1_0 _ _ l1_1 true _ ?side1 ?side2 ?side3 ?side4 ?side5 ?side6 ?side7 ?side8 A12.out).mono ?_
     (case side1 => exact ck HR190_0 HB)
     (case side2 => exact HC190_0.out)
     (case side3 => exact ck HR190_1 HB)
     (case side4 => exact HC190_1.out)
     (case side5 => exact ck HR1_0 HB)
     (case side6 => exact HC1_0.out)
     (case side7 => exact ck HR1_1 HB)
     (case side8 => exact HC1_1.out)
     rintro e w15 ⟨rfl, hb⟩
     refine ⟨_, rfl, ?_⟩
     replace BK187 := bb BK187 hb
     replace BK188 := bb BK188 hb
     replace HB := bs HB hb
     (try clear hb); (try clear hb2); (try clear hk); (try clear hi)
     refine hK.out _ _ ⟨bc0 BK187, bc1 BK187, bc2 BK187, bc3 BK187, bc4 BK187, bc0 BK188, bc1 BK188, ((HB.out.cell (World.block_lt_of_cell? w _ hw189_0)).trans hw189_0), ((HB.out.cell (World.block_lt_of_cell? w _ hw190_0)).trans hw190_0), ((HB.out.cell (World.block_lt_of_cell? w _ hw190_1)).trans hw190_1)⟩ (fun hHeld => ?_)
     clear hK K
     refine norm_ (a' := ?_) ?_ ?_; rotate_left; (show Act.put _ (some 35) _ = _; simp only [sqa, sqb, sqc, sqd, i64_w, i32_w]; rfl)
     refine done_ (done_of HT_.out (by kernel_rfl)) ?_
     try go_wp2
     go_roundg k1
     case measure => have := HK1.out; omega
     case rel => exact ⟨(wrap64 ((ji7) + 1)), (x7_1), (by first | rfl | (simp; done) | (simp only [← hji7] <;> (first | rfl | simp)) | (simp [*]; done)), (by first | rfl | (simp; done) | (simp [*]; done)), H', ⟨by have := HK1.out; omega⟩, ⟨bk BK187⟩, ⟨bk BK188⟩, ⟨bw HB⟩⟩
    replace c13 := Bool.eq_false_iff.mpr c13
    subst c13
    have H1 : (spec_plPlace.l0 k1 x6_1 ji7 l0_0 l0_1 l0_2 l0_3 l0_4 l1_0 l1_1) = some (r1, r2) := by rw [if_neg (show ¬ (false = true) by decide)] at H; exact H
    clear H
    have H := H1
    clear H1
    have H' := Aside0.mk H
    clear H
    try go_wp2
    replace BK187 := Aside0.mk (blk_drew BK187.out)
    replace BK188 := Aside0.mk (blk_drew BK188.out)
    replace HB := Aside0.mk (below_drew1 HB.out)
    have p189 : 0 ≤ ((ji7) : Int) := of_decide_eq_true ‹_›
    have q189 : (ji7) < (l0_4.length : Int) := of_decide_eq_true ‹_›
    obtain ⟨ad189, e189, hx189_0⟩ := Kd.at_int HR0_4.out (ji7) p189 q189
    have hw189_0 := hx189_0
    cases e189
    replace hx189_0 := (HB.out.cell (World.block_lt_of_cell? w _ hx189_0)).trans hx189_0
    replace p189 := eq_true p189
    replace q189 := eq_true q189
    have p190 : 0 ≤ ((rd l0_4 (ji7)) : Int) := of_decide_eq_true ‹_›
    have q190 : (rd l0_4 (ji7)) < (l0_0.length : Int) := of_decide_eq_true ‹_›
    obtain ⟨ad190, A190_0, c190_0, A190_1, c190_1, e190, hx190_0, hx190_1, hl190_0, hi190_0, hl190_1, hi190_1⟩ := at_T35 HR0_0.out (rd l0_4 (ji7)) p190 q190
    have hw190_1 := hx190_1
    have hw190_0 := hx190_0
    cases e190
    replace hx190_0 := (HB.out.cell (World.block_lt_of_cell? w _ hx190_0)).trans hx190_0
    replace hx190_1 := (HB.out.cell (World.block_lt_of_cell? w _ hx190_1)).trans hx190_1
    have HR190_0 := Aside0.mk hi190_0
    have HC190_0 := Aside0.mk hl190_0
    clear hi190_0 hl190_0
    have HR190_1 := Aside0.mk hi190_1
    have HC190_1 := Aside0.mk hl190_1
    clear hi190_1 hl190_1
    replace p190 := eq_true p190
    replace q190 := eq_true q190
    refine start_ (n := 15) (S := fun w' => w'.cell? ⟨gb187, 0, none⟩ = some (.slice (some ad190) l0_0.length c0_0) ∧ w'.cell? ⟨gb187, 1, none⟩ = some (.slice A0_1 l0_1.length c0_1) ∧ w'.cell? ⟨gb187, 2, none⟩ = some (.slice A0_2 l0_2.length c0_2) ∧ w'.cell? ⟨gb187, 3, none⟩ = some (.slice A0_3 l0_3.length c0_3) ∧ w'.cell? ⟨gb187, 4, none⟩ = some (.slice (some ad189) l0_4.length c0_4) ∧ w'.cell? ⟨gb188, 0, none⟩ = some (.slice A1_0 l1_0.length c1_0) ∧ w'.cell? ⟨gb188, 1, none⟩ = some (.slice A1_1 l1_1.length c1_1) ∧ w'.cell? (ad189.add ((ji7)).toNat) = some (.int .i64 (rd l0_4 (ji7))) ∧ w'.cell? (ad190.add (((rd l0_4 (ji7))).toNat * 2)) = some (.slice A190_0 ((rd_T35 l0_0 (rd l0_4 (ji7))).f0).length c190_0) ∧ w'.cell? ⟨(ad190.add (((rd l0_4 (ji7))).toNat * 2)).block, (ad190.add (((rd l0_4 (ji7))).toNat * 2)).off + 1, none⟩ = some (.slice A190_1 ((rd_T35 l0_0 (rd l0_4 (ji7))).f1).length c190_1)) (ds := []) (bl 15 0) (by kernel_rfl) rfl rfl ⟨bc0 BK187, bc1 BK187, bc2 BK187, bc3 BK187, bc4 BK187, bc0 BK188, bc1 BK188, ((HB.out.cell (World.block_lt_of_cell? w _ hw189_0)).trans hw189_0), ((HB.out.cell (World.block_lt_of_cell? w _ hw190_0)).trans hw190_0), ((HB.out.cell (World.block_lt_of_cell? w _ hw190_1)).trans hw190_1)⟩ (fun hHeld => ?_); refine with_tabW spec_plPlace.tab4 spec_plPlace.bits4 (fun HT_ HW_ => ?_)
    generalize wr.drew = w16 at BK187 BK188 HB HR190_0 HR190_1 hx189_0 hx190_0 hx190_1 hHeld ⊢
    refine pu 0 21 (bl 15 1) HT_.out (v := ?_) (a' := ?_) ?_ ?_ ?_
    rotate_left; (intro w'; go_simp; with_reducible rfl); rotate_left; (simp only [sqa, sqb, sqc, sqd, i64_w, i32_w]; rfl)
    refine pu 1 22 (bl 15 3) HT_.out (v := ?_) (a' := ?_) ?_ ?_ ?_
    rotate_left; (intro w'; go_simp; with_reducible rfl); rotate_left; (simp only [sqa, sqb, sqc, sqd, i64_w, i32_w]; rfl)
    refine pu 2 23 (bl 15 7) HT_.out (v := ?_) (a' := ?_) ?_ ?_ ?_
    rotate_left; (intro w'; go_simp; with_reducible rfl); rotate_left; (simp only [sqa, sqb, sqc, sqd, i64_w, i32_w]; rfl)
    refine pu 4 25 (bl 15 23) HT_.out (v := ?_) (a' := ?_) ?_ ?_ ?_
    rotate_left; (intro w'; go_simp; with_reducible rfl); rotate_left; (simp only [sqa, sqb, sqc, sqd, i64_w, i32_w]; rfl)
    refine pu 5 26 (bl 15 55) HT_.out (v := ?_) (a' := ?_) ?_ ?_ ?_
    rotate_left; (intro w'; go_simp; with_reducible rfl); rotate_left; (simp only [sqa, sqb, sqc, sqd, i64_w, i32_w]; rfl)
    refine pu 6 27 (bl 15 119) HT_.out (v := ?_) (a' := ?_) ?_ ?_ ?_
    rotate_left; (intro w'; go_simp; with_reducible rfl); rotate_left; (simp only [sqa, sqb, sqc, sqd, i64_w, i32_w]; rfl)
    refine pu 8 29 (bl 15 375) HT_.out (v := ?_) (a' := ?_) ?_ ?_ ?_
    rotate_left; (intro w'; go_simp; with_reducible rfl); rotate_left; (simp only [sqa, sqb, sqc, sqd, i64_w, i32_w]; rfl)
    refine tk 3 24 (bl 15 383) HT_.out HW_.out hHeld (v := ?_) (a' := ?_) ?_ ?_ ?_
    rotate_left; (rintro w' ⟨s0, s1, s2, s3, s4, s5, s6, s7, s8, s9⟩; go_simp; with_reducible rfl); rotate_left; (simp only [sqa, sqb, sqc, sqd, i64_w, i32_w]; rfl)
    refine tk 7 28 (bl 15 511) HT_.out HW_.out hHeld (v := ?_) (a' := ?_) ?_ ?_ ?_
    rotate_left; (rintro w' ⟨s0, s1, s2, s3, s4, s5, s6, s7, s8, s9⟩; go_simp; with_reducible rfl); rotate_left; (simp only [sqa, sqb, sqc, sqd, i64_w, i32_w]; rfl)
    refine pu 9 30 (bl 15 1023) HT_.out (v := ?_) (a' := ?_) ?_ ?_ ?_
    rotate_left; (intro w'; go_simp; with_reducible rfl); rotate_left; (simp only [sqa, sqb, sqc, sqd, i64_w, i32_w]; rfl)
    refine tk 10 31 (bl 15 2047) HT_.out HW_.out hHeld (v := ?_) (a' := ?_) ?_ ?_ ?_
    rotate_left; (rintro w' ⟨s0, s1, s2, s3, s4, s5, s6, s7, s8, s9⟩; go_simp; with_reducible rfl); rotate_left; (simp only [sqa, sqb, sqc, sqd, i64_w, i32_w]; rfl)
    refine pu 11 32 (bl 15 4095) HT_.out (v := ?_) (a' := ?_) ?_ ?_ ?_
    rotate_left; (intro w'; go_simp; with_reducible rfl); rotate_left; (simp only [sqa, sqb, sqc, sqd, i64_w, i32_w]; rfl)
    refine tk 12 33 (bl 15 8191) HT_.out HW_.out hHeld (v := ?_) (a' := ?_) ?_ ?_ ?_
    rotate_left; (rintro w' ⟨s0, s1, s2, s3, s4, s5, s6, s7, s8, s9⟩; go_simp; with_reducible rfl); rotate_left; (simp only [sqa, sqb, sqc, sqd, i64_w, i32_w]; rfl)
    refine tk 13 34 (bl 15 16383) HT_.out HW_.out hHeld (v := ?_) (a' := ?_) ?_ ?_ ?_
    rotate_left; (rintro w' ⟨s0, s1, s2, s3, s4, s5, s6, s7, s8, s9⟩; go_simp; with_reducible rfl); rotate_left; (simp only [sqa, sqb, sqc, sqd, i64_w, i32_w]; rfl)
    refine on 14 35 (bl 15 32767) HT_.out (fun K hK => ?_)
    refine goes_ Try.func74 (by kernel_rfl) rfl #[.agg #[.slice A190_0 ((rd_T35 l0_0 (rd l0_4 (ji7))).f0).length c190_0, .slice A190_1 ((rd_T35 l0_0 (rd l0_4 (ji7))).f1).length c190_1], .agg #[.slice A1_0 l1_0.length c1_0, .slice A1_1 l1_1.length c1_1]] (by rfl) rfl rfl (by (try simp only [List.map_toArray, List.map_cons, List.map_nil]); first | done | (simp only [hji7]; rfl) | rfl | (simp only [List.length_drop, List.length_take]; rfl)) ?_
    with_reducible refine (spec_plLess.calls k1 _ _ ((rd_T35 l0_0 (rd l0_4 (ji7))).f0) _ _ ((rd_T35 l0_0 (rd l0_4 (ji7))).f1) _ _ l1_0 _ _ l1_1 false _ ?side1 ?side2 ?side3 ?side4 ?side5 ?side6 ?side7 ?side8 A12.out).mono ?_
    (case side1 => exact ck HR190_0 HB)
    (case side2 => exact HC190_0.out)
    (case side3 => exact ck HR190_1 HB)
    (case side4 => exact HC190_1.out)
    (case side5 => exact ck HR1_0 HB)
    (case side6 => exact HC1_0.out)
    (case side7 => exact ck HR1_1 HB)
    (case side8 => exact HC1_1.out)
    rintro e w17 ⟨rfl, hb⟩
    refine ⟨_, rfl, ?_⟩
    replace BK187 := bb BK187 hb
    replace BK188 := bb BK188 hb
    replace HB := bs HB hb
    (try clear hb); (try clear hb2); (try clear hk); (try clear hi)
    refine hK.out _ _ ⟨bc0 BK187, bc1 BK187, bc2 BK187, bc3 BK187, bc4 BK187, bc0 BK188, bc1 BK188, ((HB.out.cell (World.block_lt_of_cell? w _ hw189_0)).trans hw189_0), ((HB.out.cell (World.block_lt_of_cell? w _ hw190_0)).trans hw190_0), ((HB.out.cell (World.block_lt_of_cell? w _ hw190_1)).trans hw190_1)⟩ (fun hHeld => ?_)
    clear hK K
    refine norm_ (a' := ?_) ?_ ?_; rotate_left; (show Act.put _ (some 35) _ = _; simp only [sqa, sqb, sqc, sqd, i64_w, i32_w]; rfl)
    refine done_ (done_of HT_.out (by kernel_rfl)) ?_
    try go_wp2
    go_roundg k1
    case measure => have := HK1.out; omega
    case rel => exact ⟨(x6_1), (ji7), (by first | rfl | (simp; done) | (simp [*]; done)), (by first | rfl | (simp; done) | (simp only [← hji7] <;> (first | rfl | simp)) | (simp [*]; done)), H', ⟨by have := HK1.out; omega⟩, ⟨bk BK187⟩, ⟨bk BK188⟩, ⟨bw HB⟩⟩
   rw [if_neg c6] at H
   have c6b0 : decide (x6_1 < x7_1) = false := decide_eq_false c6
   clear c6
   by_cases c18 : x6_1 < (l0_4.length : Int)
   rotate_left
   ·rw [if_neg c18] at H
    have c18b0 : decide (x6_1 < (l0_4.length : Int)) = false := decide_eq_false c18
    clear c18
    simp only [Option.some.injEq, Prod.mk.injEq] at H
    obtain ⟨rfl, rfl⟩ := H
    try go_wp2
    replace BK187 := Aside0.mk (blk_drew BK187.out)
    replace BK188 := Aside0.mk (blk_drew BK188.out)
    replace HB := Aside0.mk (below_drew1 HB.out)
    refine start_ (n := 27) (S := fun w' => w'.cell? ⟨gb187, 0, none⟩ = some (.slice A0_0 l0_0.length c0_0) ∧ w'.cell? ⟨gb187, 1, none⟩ = some (.slice A0_1 l0_1.length c0_1) ∧ w'.cell? ⟨gb187, 2, none⟩ = some (.slice A0_2 l0_2.length c0_2) ∧ w'.cell? ⟨gb187, 3, none⟩ = some (.slice A0_3 l0_3.length c0_3) ∧ w'.cell? ⟨gb187, 4, none⟩ = some (.slice A0_4 l0_4.length c0_4)) (ds := []) (bl 27 0) (by kernel_rfl) rfl rfl ⟨bc0 BK187, bc1 BK187, bc2 BK187, bc3 BK187, bc4 BK187⟩ (fun hHeld => ?_); refine with_tabW spec_plPlace.tab7 spec_plPlace.bits7 (fun HT_ HW_ => ?_)
    generalize wr.drew = w25 at BK187 BK188 HB hHeld ⊢
    refine pu 0 39 (bl 27 1) HT_.out (v := ?_) (a' := ?_) ?_ ?_ ?_
    rotate_left; (intro w'; go_simp; with_reducible rfl); rotate_left; (simp only [sqa, sqb, sqc, sqd, i64_w, i32_w]; rfl)
    refine pu 1 40 (bl 27 3) HT_.out (v := ?_) (a' := ?_) ?_ ?_ ?_
    rotate_left; (intro w'; go_simp; with_reducible rfl); rotate_left; (simp only [sqa, sqb, sqc, sqd, i64_w, i32_w]; rfl)
    refine pu 2 41 (bl 27 7) HT_.out (v := ?_) (a' := ?_) ?_ ?_ ?_
    rotate_left; (intro w'; go_simp; with_reducible rfl); rotate_left; (simp only [sqa, sqb, sqc, sqd, i64_w, i32_w]; rfl)
    refine pu 3 42 (bl 27 15) HT_.out (v := ?_) (a' := ?_) ?_ ?_ ?_
    rotate_left; (intro w'; go_simp; with_reducible rfl); rotate_left; (simp only [sqa, sqb, sqc, sqd, i64_w, i32_w]; rfl)
    refine pu 4 43 (bl 27 31) HT_.out (v := ?_) (a' := ?_) ?_ ?_ ?_
    rotate_left; (intro w'; go_simp; with_reducible rfl); rotate_left; (simp only [sqa, sqb, sqc, sqd, i64_w, i32_w]; rfl)
    refine tk 5 44 (bl 27 63) HT_.out HW_.out hHeld (v := ?_) (a' := ?_) ?_ ?_ ?_
    rotate_left; (rintro w' ⟨s0, s1, s2, s3, s4⟩; go_simp; with_reducible rfl); rotate_left; (simp only [sqa, sqb, sqc, sqd, i64_w, i32_w]; rfl)
    refine pu 6 45 (bl 27 127) HT_.out (v := ?_) (a' := ?_) ?_ ?_ ?_
    rotate_left; (intro w'; go_simp; with_reducible rfl); rotate_left; (simp only [sqa, sqb, sqc, sqd, i64_w, i32_w]; rfl)
    refine pu 7 46 (bl 27 255) HT_.out (v := ?_) (a' := ?_) ?_ ?_ ?_
    rotate_left; (intro w'; go_simp; with_reducible rfl); rotate_left; (simp only [sqa, sqb, sqc, sqd, i64_w, i32_w]; rfl)
    refine pu 8 47 (bl 27 511) HT_.out (v := ?_) (a' := ?_) ?_ ?_ ?_
    rotate_left; (intro w'; go_simp; with_reducible rfl); rotate_left; (simp only [sqa, sqb, sqc, sqd, i64_w, i32_w]; rfl)
    refine pure_ (i := 9) (N := some 48) (v := undef) (a' := ?_) (bl 27 1023) rfl rfl (any_of HT_.out (by kernel_rfl)) (fun _ _ _ h => h) (Or.inr ⟨by rfl, rfl⟩) ?_ ?_
    rotate_left
    ·simp only [sqa, sqb, sqc, sqd, i64_w, i32_w]
     rfl
    refine pure_ (i := 10) (N := some 49) (v := undef) (a' := ?_) (bl 27 2047) rfl rfl (any_of HT_.out (by kernel_rfl)) (fun _ _ _ h => h) (Or.inr ⟨by rfl, rfl⟩) ?_ ?_
    rotate_left
    ·simp only [sqa, sqb, sqc, sqd, i64_w, i32_w]
     rfl
    refine pure_ (i := 11) (N := some 50) (v := undef) (a' := ?_) (bl 27 4095) rfl rfl (any_of HT_.out (by kernel_rfl)) (fun _ _ _ h => h) (Or.inr ⟨by rfl, rfl⟩) ?_ ?_
    rotate_left
    ·simp only [sqa, sqb, sqc, sqd, i64_w, i32_w]
     rfl
    refine pure_ (i := 12) (N := some 51) (v := undef) (a' := ?_) (bl 27 8191) rfl rfl (any_of HT_.out (by kernel_rfl)) (fun _ _ _ h => h) (Or.inr ⟨by rfl, rfl⟩) ?_ ?_
    rotate_left
    ·simp only [sqa, sqb, sqc, sqd, i64_w, i32_w]
     rfl
    refine pure_ (i := 13) (N := some 52) (v := undef) (a' := ?_) (bl 27 16383) rfl rfl (any_of HT_.out (by kernel_rfl)) (fun _ _ _ h => h) (Or.inr ⟨by rfl, rfl⟩) ?_ ?_
    rotate_left
    ·simp only [sqa, sqb, sqc, sqd, i64_w, i32_w]
     rfl
    refine pure_ (i := 14) (N := some 53) (v := undef) (a' := ?_) (bl 27 32767) rfl rfl (any_of HT_.out (by kernel_rfl)) (fun _ _ _ h => h) (Or.inr ⟨by rfl, rfl⟩) ?_ ?_
    rotate_left
    ·simp only [sqa, sqb, sqc, sqd, i64_w, i32_w]
     rfl
    refine pure_ (i := 15) (N := some 54) (v := undef) (a' := ?_) (bl 27 65535) rfl rfl (any_of HT_.out (by kernel_rfl)) (fun _ _ _ h => h) (Or.inr ⟨by rfl, rfl⟩) ?_ ?_
    rotate_left
    ·simp only [sqa, sqb, sqc, sqd, i64_w, i32_w]
     rfl
    refine pure_ (i := 16) (N := some 55) (v := undef) (a' := ?_) (bl 27 131071) rfl rfl (any_of HT_.out (by kernel_rfl)) (fun _ _ _ h => h) (Or.inr ⟨by rfl, rfl⟩) ?_ ?_
    rotate_left
    ·simp only [sqa, sqb, sqc, sqd, i64_w, i32_w]
     rfl
    refine pure_ (i := 17) (N := some 56) (v := undef) (a' := ?_) (bl 27 262143) rfl rfl (any_of HT_.out (by kernel_rfl)) (fun _ _ _ h => h) (Or.inr ⟨by rfl, rfl⟩) ?_ ?_
    rotate_left
    ·simp only [sqa, sqb, sqc, sqd, i64_w, i32_w]
     rfl
    refine pure_ (i := 18) (N := some 57) (v := undef) (a' := ?_) (bl 27 524287) rfl rfl (any_of HT_.out (by kernel_rfl)) (fun _ _ _ h => h) (Or.inr ⟨by rfl, rfl⟩) ?_ ?_
    rotate_left
    ·simp only [sqa, sqb, sqc, sqd, i64_w, i32_w]
     rfl
    refine pure_ (i := 19) (N := some 58) (v := undef) (a' := ?_) (bl 27 1048575) rfl rfl (any_of HT_.out (by kernel_rfl)) (fun _ _ _ h => h) (Or.inr ⟨by rfl, rfl⟩) ?_ ?_
    rotate_left
    ·simp only [sqa, sqb, sqc, sqd, i64_w, i32_w]
     rfl
    refine pure_ (i := 20) (N := some 59) (v := undef) (a' := ?_) (bl 27 2097151) rfl rfl (any_of HT_.out (by kernel_rfl)) (fun _ _ _ h => h) (Or.inr ⟨by rfl, rfl⟩) ?_ ?_
    rotate_left
    ·simp only [sqa, sqb, sqc, sqd, i64_w, i32_w]
     rfl
    refine pure_ (i := 21) (N := some 60) (v := undef) (a' := ?_) (bl 27 4194303) rfl rfl (any_of HT_.out (by kernel_rfl)) (fun _ _ _ h => h) (Or.inr ⟨by rfl, rfl⟩) ?_ ?_
    rotate_left
    ·simp only [sqa, sqb, sqc, sqd, i64_w, i32_w]
     rfl
    refine pure_ (i := 22) (N := some 61) (v := undef) (a' := ?_) (bl 27 8388607) rfl rfl (any_of HT_.out (by kernel_rfl)) (fun _ _ _ h => h) (Or.inr ⟨by rfl, rfl⟩) ?_ ?_
    rotate_left
    ·simp only [sqa, sqb, sqc, sqd, i64_w, i32_w]
     rfl
    refine pure_ (i := 23) (N := some 62) (v := undef) (a' := ?_) (bl 27 16777215) rfl rfl (any_of HT_.out (by kernel_rfl)) (fun _ _ _ h => h) (Or.inr ⟨by rfl, rfl⟩) ?_ ?_
    rotate_left
    ·simp only [sqa, sqb, sqc, sqd, i64_w, i32_w]
     rfl
    refine pu 24 63 (bl 27 33554431) HT_.out (v := ?_) (a' := ?_) ?_ ?_ ?_
    rotate_left; (intro w'; go_simp; with_reducible rfl); rotate_left; (simp only [sqa, sqb, sqc, sqd, i64_w, i32_w]; rfl)
    refine pu 25 4 (bl 27 67108863) HT_.out (v := ?_) (a' := ?_) ?_ ?_ ?_
    rotate_left; (intro w'; go_simp; with_reducible rfl); rotate_left; (simp only [sqa, sqb, sqc, sqd, i64_w, i32_w]; rfl)
    refine pu 26 5 (bl 27 134217727) HT_.out (v := ?_) (a' := ?_) ?_ ?_ ?_
    rotate_left; (intro w'; go_simp; with_reducible rfl); rotate_left; (simp only [sqa, sqb, sqc, sqd, i64_w, i32_w]; rfl)
    refine done_ (done_of HT_.out (by kernel_rfl)) ?_
    try go_wp2
    go_ret2
    exact ⟨by first | rfl | (simp [errW_none, errW_some] <;> rfl) | (simp [*, errW_none, errW_some] <;> rfl), bw HB⟩
   rw [if_pos c18] at H
   have c18b0 : decide (x6_1 < (l0_4.length : Int)) = true := decide_eq_true c18
   clear c18
   by_cases c19 : 0 ≤ x6_1
   rotate_left
   ·rw [if_neg c19] at H
    exact absurd H (by simp)
   rw [if_pos c19] at H
   have c19b0 : decide (0 ≤ x6_1) = true := decide_eq_true c19
   clear c19
   by_cases c20 : 0 ≤ (rd l0_4 x6_1)
   rotate_left
   ·rw [if_neg c20] at H
    exact absurd H (by simp)
   rw [if_pos c20] at H
   have c20b0 : decide (0 ≤ (rd l0_4 x6_1)) = true := decide_eq_true c20
   clear c20
   by_cases c21 : (rd l0_4 x6_1) < (l0_0.length : Int)
   rotate_left
   ·rw [if_neg c21] at H
    exact absurd H (by simp)
   rw [if_pos c21] at H
   have c21b0 : decide ((rd l0_4 x6_1) < (l0_0.length : Int)) = true := decide_eq_true c21
   clear c21
   replace H := Option.bind_eq_some_iff.mp H
   obtain ⟨t194, A220, H⟩ := H
   (try dsimp only at H)
   have A22 := Aside0.mk A220
   clear A220
   simp only [Option.some.injEq, Prod.mk.injEq] at H
   obtain ⟨rfl, rfl⟩ := H
   try go_wp2
   replace BK187 := Aside0.mk (blk_drew BK187.out)
   replace BK188 := Aside0.mk (blk_drew BK188.out)
   replace HB := Aside0.mk (below_drew1 HB.out)
   have p192 : 0 ≤ (x6_1 : Int) := of_decide_eq_true ‹_›
   have q192 : x6_1 < (l0_4.length : Int) := of_decide_eq_true ‹_›
   obtain ⟨ad192, e192, hx192_0⟩ := Kd.at_int HR0_4.out x6_1 p192 q192
   have hw192_0 := hx192_0
   cases e192
   replace hx192_0 := (HB.out.cell (World.block_lt_of_cell? w _ hx192_0)).trans hx192_0
   replace p192 := eq_true p192
   replace q192 := eq_true q192
   have p193 : 0 ≤ ((rd l0_4 x6_1) : Int) := of_decide_eq_true ‹_›
   have q193 : (rd l0_4 x6_1) < (l0_0.length : Int) := of_decide_eq_true ‹_›
   obtain ⟨ad193, A193_0, c193_0, A193_1, c193_1, e193, hx193_0, hx193_1, hl193_0, hi193_0, hl193_1, hi193_1⟩ := at_T35 HR0_0.out (rd l0_4 x6_1) p193 q193
   have hw193_1 := hx193_1
   have hw193_0 := hx193_0
   cases e193
   replace hx193_0 := (HB.out.cell (World.block_lt_of_cell? w _ hx193_0)).trans hx193_0
   replace hx193_1 := (HB.out.cell (World.block_lt_of_cell? w _ hx193_1)).trans hx193_1
   have HR193_0 := Aside0.mk hi193_0
   have HC193_0 := Aside0.mk hl193_0
   clear hi193_0 hl193_0
   have HR193_1 := Aside0.mk hi193_1
   have HC193_1 := Aside0.mk hl193_1
   clear hi193_1 hl193_1
   replace p193 := eq_true p193
   replace q193 := eq_true q193
   refine start_ (n := 27) (S := fun w' => w'.cell? ⟨gb187, 0, none⟩ = some (.slice (some ad193) l0_0.length c0_0) ∧ w'.cell? ⟨gb187, 1, none⟩ = some (.slice A0_1 l0_1.length c0_1) ∧ w'.cell? ⟨gb187, 2, none⟩ = some (.slice A0_2 l0_2.length c0_2) ∧ w'.cell? ⟨gb187, 3, none⟩ = some (.slice A0_3 l0_3.length c0_3) ∧ w'.cell? ⟨gb187, 4, none⟩ = some (.slice (some ad192) l0_4.length c0_4) ∧ w'.cell? ⟨gb188, 0, none⟩ = some (.slice A1_0 l1_0.length c1_0) ∧ w'.cell? ⟨gb188, 1, none⟩ = some (.slice A1_1 l1_1.length c1_1) ∧ w'.cell? (ad192.add (x6_1).toNat) = some (.int .i64 (rd l0_4 x6_1)) ∧ w'.cell? (ad193.add (((rd l0_4 x6_1)).toNat * 2)) = some (.slice A193_0 ((rd_T35 l0_0 (rd l0_4 x6_1)).f0).length c193_0) ∧ w'.cell? ⟨(ad193.add (((rd l0_4 x6_1)).toNat * 2)).block, (ad193.add (((rd l0_4 x6_1)).toNat * 2)).off + 1, none⟩ = some (.slice A193_1 ((rd_T35 l0_0 (rd l0_4 x6_1)).f1).length c193_1)) (ds := []) (bl 27 0) (by kernel_rfl) rfl rfl ⟨bc0 BK187, bc1 BK187, bc2 BK187, bc3 BK187, bc4 BK187, bc0 BK188, bc1 BK188, ((HB.out.cell (World.block_lt_of_cell? w _ hw192_0)).trans hw192_0), ((HB.out.cell (World.block_lt_of_cell? w _ hw193_0)).trans hw193_0), ((HB.out.cell (World.block_lt_of_cell? w _ hw193_1)).trans hw193_1)⟩ (fun hHeld => ?_); refine with_tabW spec_plPlace.tab7 spec_plPlace.bits7 (fun HT_ HW_ => ?_)
   generalize wr.drew = w23 at BK187 BK188 HB HR193_0 HR193_1 hx192_0 hx193_0 hx193_1 hHeld ⊢
   refine pu 0 39 (bl 27 1) HT_.out (v := ?_) (a' := ?_) ?_ ?_ ?_
   rotate_left; (intro w'; go_simp; with_reducible rfl); rotate_left; (simp only [sqa, sqb, sqc, sqd, i64_w, i32_w]; rfl)
   refine pu 1 40 (bl 27 3) HT_.out (v := ?_) (a' := ?_) ?_ ?_ ?_
   rotate_left; (intro w'; go_simp; with_reducible rfl); rotate_left; (simp only [sqa, sqb, sqc, sqd, i64_w, i32_w]; rfl)
   refine pu 2 41 (bl 27 7) HT_.out (v := ?_) (a' := ?_) ?_ ?_ ?_
   rotate_left; (intro w'; go_simp; with_reducible rfl); rotate_left; (simp only [sqa, sqb, sqc, sqd, i64_w, i32_w]; rfl)
   refine pu 3 42 (bl 27 15) HT_.out (v := ?_) (a' := ?_) ?_ ?_ ?_
   rotate_left; (intro w'; go_simp; with_reducible rfl); rotate_left; (simp only [sqa, sqb, sqc, sqd, i64_w, i32_w]; rfl)
   refine pu 4 43 (bl 27 31) HT_.out (v := ?_) (a' := ?_) ?_ ?_ ?_
   rotate_left; (intro w'; go_simp; with_reducible rfl); rotate_left; (simp only [sqa, sqb, sqc, sqd, i64_w, i32_w]; rfl)
   refine tk 5 44 (bl 27 63) HT_.out HW_.out hHeld (v := ?_) (a' := ?_) ?_ ?_ ?_
   rotate_left; (rintro w' ⟨s0, s1, s2, s3, s4, s5, s6, s7, s8, s9⟩; go_simp; with_reducible rfl); rotate_left; (simp only [sqa, sqb, sqc, sqd, i64_w, i32_w]; rfl)
   refine pu 6 45 (bl 27 127) HT_.out (v := ?_) (a' := ?_) ?_ ?_ ?_
   rotate_left; (intro w'; go_simp; with_reducible rfl); rotate_left; (simp only [sqa, sqb, sqc, sqd, i64_w, i32_w]; rfl)
   refine pu 7 46 (bl 27 255) HT_.out (v := ?_) (a' := ?_) ?_ ?_ ?_
   rotate_left; (intro w'; go_simp; with_reducible rfl); rotate_left; (simp only [sqa, sqb, sqc, sqd, i64_w, i32_w]; rfl)
   refine pu 8 47 (bl 27 511) HT_.out (v := ?_) (a' := ?_) ?_ ?_ ?_
   rotate_left; (intro w'; go_simp; with_reducible rfl); rotate_left; (simp only [sqa, sqb, sqc, sqd, i64_w, i32_w]; rfl)
   refine pu 9 48 (bl 27 1023) HT_.out (v := ?_) (a' := ?_) ?_ ?_ ?_
   rotate_left; (intro w'; go_simp; with_reducible rfl); rotate_left; (simp only [sqa, sqb, sqc, sqd, i64_w, i32_w]; rfl)
   refine pu 10 49 (bl 27 2047) HT_.out (v := ?_) (a' := ?_) ?_ ?_ ?_
   rotate_left; (intro w'; go_simp; with_reducible rfl); rotate_left; (simp only [sqa, sqb, sqc, sqd, i64_w, i32_w]; rfl)
   refine pu 11 50 (bl 27 4095) HT_.out (v := ?_) (a' := ?_) ?_ ?_ ?_
   rotate_left; (intro w'; go_simp; with_reducible rfl); rotate_left; (simp only [sqa, sqb, sqc, sqd, i64_w, i32_w]; rfl)
   refine pu 13 52 (bl 27 12287) HT_.out (v := ?_) (a' := ?_) ?_ ?_ ?_
   rotate_left; (intro w'; go_simp; with_reducible rfl); rotate_left; (simp only [sqa, sqb, sqc, sqd, i64_w, i32_w]; rfl)
   refine pu 14 53 (bl 27 28671) HT_.out (v := ?_) (a' := ?_) ?_ ?_ ?_
   rotate_left; (intro w'; go_simp; with_reducible rfl); rotate_left; (simp only [sqa, sqb, sqc, sqd, i64_w, i32_w]; rfl)
   refine pu 15 54 (bl 27 61439) HT_.out (v := ?_) (a' := ?_) ?_ ?_ ?_
   rotate_left; (intro w'; go_simp; with_reducible rfl); rotate_left; (simp only [sqa, sqb, sqc, sqd, i64_w, i32_w]; rfl)
   refine pu 17 56 (bl 27 192511) HT_.out (v := ?_) (a' := ?_) ?_ ?_ ?_
   rotate_left; (intro w'; go_simp; with_reducible rfl); rotate_left; (simp only [sqa, sqb, sqc, sqd, i64_w, i32_w]; rfl)
   refine tk 12 51 (bl 27 196607) HT_.out HW_.out hHeld (v := ?_) (a' := ?_) ?_ ?_ ?_
   rotate_left; (rintro w' ⟨s0, s1, s2, s3, s4, s5, s6, s7, s8, s9⟩; go_simp; with_reducible rfl); rotate_left; (simp only [sqa, sqb, sqc, sqd, i64_w, i32_w]; rfl)
   refine tk 16 55 (bl 27 262143) HT_.out HW_.out hHeld (v := ?_) (a' := ?_) ?_ ?_ ?_
   rotate_left; (rintro w' ⟨s0, s1, s2, s3, s4, s5, s6, s7, s8, s9⟩; go_simp; with_reducible rfl); rotate_left; (simp only [sqa, sqb, sqc, sqd, i64_w, i32_w]; rfl)
   refine pu 18 57 (bl 27 524287) HT_.out (v := ?_) (a' := ?_) ?_ ?_ ?_
   rotate_left; (intro w'; go_simp; with_reducible rfl); rotate_left; (simp only [sqa, sqb, sqc, sqd, i64_w, i32_w]; rfl)
   refine tk 19 58 (bl 27 1048575) HT_.out HW_.out hHeld (v := ?_) (a' := ?_) ?_ ?_ ?_
   rotate_left; (rintro w' ⟨s0, s1, s2, s3, s4, s5, s6, s7, s8, s9⟩; go_simp; with_reducible rfl); rotate_left; (simp only [sqa, sqb, sqc, sqd, i64_w, i32_w]; rfl)
   refine pu 20 59 (bl 27 2097151) HT_.out (v := ?_) (a' := ?_) ?_ ?_ ?_
   rotate_left; (intro w'; go_simp; with_reducible rfl); rotate_left; (simp only [sqa, sqb, sqc, sqd, i64_w, i32_w]; rfl)
   refine tk 21 60 (bl 27 4194303) HT_.out HW_.out hHeld (v := ?_) (a' := ?_) ?_ ?_ ?_
   rotate_left; (rintro w' ⟨s0, s1, s2, s3, s4, s5, s6, s7, s8, s9⟩; go_simp; with_reducible rfl); rotate_left; (simp only [sqa, sqb, sqc, sqd, i64_w, i32_w]; rfl)
   refine tk 22 61 (bl 27 8388607) HT_.out HW_.out hHeld (v := ?_) (a' := ?_) ?_ ?_ ?_
   rotate_left; (rintro w' ⟨s0, s1, s2, s3, s4, s5, s6, s7, s8, s9⟩; go_simp; with_reducible rfl); rotate_left; (simp only [sqa, sqb, sqc, sqd, i64_w, i32_w]; rfl)
   refine on 23 62 (bl 27 16777215) HT_.out (fun K hK => ?_)
   refine gs Try.func75 #[.agg #[.slice A193_0 ((rd_T35 l0_0 (rd l0_4 x6_1)).f0).length c193_0, .slice A193_1 ((rd_T35 l0_0 (rd l0_4 x6_1)).f1).length c193_1], .agg #[.slice A1_0 l1_0.length c1_0, .slice A1_1 l1_1.length c1_1]] ?_
   with_reducible refine (spec_veSame.calls k1 _ _ ((rd_T35 l0_0 (rd l0_4 x6_1)).f0) _ _ ((rd_T35 l0_0 (rd l0_4 x6_1)).f1) _ _ l1_0 _ _ l1_1 t194 _ ?side1 ?side2 ?side3 ?side4 ?side5 ?side6 ?side7 ?side8 A22.out).mono ?_
   (case side1 => exact ck HR193_0 HB)
   (case side2 => exact HC193_0.out)
   (case side3 => exact ck HR193_1 HB)
   (case side4 => exact HC193_1.out)
   (case side5 => exact ck HR1_0 HB)
   (case side6 => exact HC1_0.out)
   (case side7 => exact ck HR1_1 HB)
   (case side8 => exact HC1_1.out)
   rintro e w24 ⟨rfl, hb⟩
   refine ⟨_, rfl, ?_⟩
   replace BK187 := bb BK187 hb
   replace BK188 := bb BK188 hb
   replace HB := bs HB hb
   (try clear hb); (try clear hb2); (try clear hk); (try clear hi)
   refine hK.out _ _ ⟨bc0 BK187, bc1 BK187, bc2 BK187, bc3 BK187, bc4 BK187, bc0 BK188, bc1 BK188, ((HB.out.cell (World.block_lt_of_cell? w _ hw192_0)).trans hw192_0), ((HB.out.cell (World.block_lt_of_cell? w _ hw193_0)).trans hw193_0), ((HB.out.cell (World.block_lt_of_cell? w _ hw193_1)).trans hw193_1)⟩ (fun hHeld => ?_)
   clear hK K
   refine norm_ (a' := ?_) ?_ ?_; rotate_left; (show Act.put _ (some 62) _ = _; simp only [sqa, sqb, sqc, sqd, i64_w, i32_w]; rfl)
   refine pu 24 63 (bl 27 33554431) HT_.out (v := ?_) (a' := ?_) ?_ ?_ ?_
   rotate_left; (intro w'; go_simp; with_reducible rfl); rotate_left; (simp only [sqa, sqb, sqc, sqd, i64_w, i32_w]; rfl)
   refine pu 25 4 (bl 27 67108863) HT_.out (v := ?_) (a' := ?_) ?_ ?_ ?_
   rotate_left; (intro w'; go_simp; with_reducible rfl); rotate_left; (simp only [sqa, sqb, sqc, sqd, i64_w, i32_w]; rfl)
   refine pu 26 5 (bl 27 134217727) HT_.out (v := ?_) (a' := ?_) ?_ ?_ ?_
   rotate_left; (intro w'; go_simp; with_reducible rfl); rotate_left; (simp only [sqa, sqb, sqc, sqd, i64_w, i32_w]; rfl)
   refine done_ (done_of HT_.out (by kernel_rfl)) ?_
   try go_wp2
   go_ret2
   exact ⟨by first | rfl | (simp [errW_none, errW_some] <;> rfl) | (simp [*, errW_none, errW_some] <;> rfl), bw HB⟩
/-- What stands behind a *plReach. -/
def plC (b g : Nat) (v0 v1 v2 v3 v4 : Value) (x0 : List S35) (x1 : List Int) (x2 : List S55) (x3 x4 : List Int) : List Comp :=
 [nrow k35 35 b v0 x0, row (Kd.int .i64) 3 b v1 x1, row k55 55 b v2 x2, row (Kd.int .i64) 3 b v3 x3, row (Kd.int .i64) 3 b v4 x4, blk g #[v0, v1, v2, v3, v4] 62]
theorem pl_idx {b g : Nat} {v0 v1 v2 v3 v4 : Value} {x0 : List S35} {x1 : List Int} {x2 : List S55} {x3 x4 : List Int} {rest : List Comp} {i : Nat} {c : Comp} (h : (plC b g v0 v1 v2 v3 v4 x0 x1 x2 x3 x4)[i]? = some c) : (plC b g v0 v1 v2 v3 v4 x0 x1 x2 x3 x4 ++ rest)[i]? = some c := by
 rw [List.getElem?_append_left (List.getElem?_eq_some_iff.1 h).1]; exact h
theorem spec_plPlace.sep (k : Nat) {F : Nat → Prop} {w0 w : World} {b g : Nat} {v0 v1 v2 v3 v4 : Value} {x0 : List S35} {x1 : List Int} {x2 : List S55} {x3 x4 : List Int} {rest : List Comp} (hS : SB F w0 w (plC b g v0 v1 v2 v3 v4 x0 x1 x2 x3 x4 ++ rest))
  (A0 : Option Addr) (c0 : Nat) (l0 : List Int) (A1 : Option Addr) (c1 : Nat) (l1 : List Int) (r1 : Int) (r2 : Bool) (h0 : Kd.C (Kd.int .i64) w A0 l0.length l0) (hc0 : l0.length ≤ c0) (h1 : Kd.C (Kd.int .i64) w A1 l1.length l1) (hc1 : l1.length ≤ c1) (h : spec_plPlace.f k x0 x1 x2 x3 x4 l0 l1 = some (r1, r2)) :
  Calls Try.prog 53 #[.pointer (some ⟨g, 0, none⟩), .agg #[.slice A0 l0.length c0, .slice A1 l1.length c1]] w fun e w' => e = .returned (.tuple #[.int .i64 r1, .bool r2]) ∧ Below w.heap.size w w' := by
 have n0 := hS.s.get 0 (pl_idx rfl)
 have n1 := hS.s.get 1 (pl_idx rfl)
 have n2 := hS.s.get 2 (pl_idx rfl)
 have n3 := hS.s.get 3 (pl_idx rfl)
 have n4 := hS.s.get 4 (pl_idx rfl)
 have n5 := hS.s.get 5 (pl_idx rfl)
 obtain ⟨B0, d0, rfl⟩ := Kd.N_slice n0
 obtain ⟨B1, d1, rfl⟩ := Kd.R_slice n1
 obtain ⟨B2, d2, rfl⟩ := Kd.R_slice n2
 obtain ⟨B3, d3, rfl⟩ := Kd.R_slice n3
 obtain ⟨B4, d4, rfl⟩ := Kd.R_slice n4
 exact spec_plPlace.calls k B0 d0 x0 B1 d1 x1 B2 d2 x2 B3 d3 x3 B4 d4 x4 A0 c0 l0 A1 c1 l1 r1 r2 w g n5.1 (Kd.N_reads' n0).2.2 (Kd.N_reads' n0).2.1 (Kd.R_reads' n1).2.2 (Kd.R_reads' n1).2.1 (Kd.R_reads' n2).2.2 (Kd.R_reads' n2).2.1 (Kd.R_reads' n3).2.2 (Kd.R_reads' n3).2.1 (Kd.R_reads' n4).2.2 (Kd.R_reads' n4).2.1 h0 hc0 h1 hc1 h
end Go.Proofs.Ytieioddimkafbaa.V
