-- Functions of the program as plain functions, and that the calls come to them. Written by a program (ownprint.py); nothing here is trusted: Lean checks it.
import Derived.Test.YtflbcikfphfkdaaQbRx0
import Derived.Test.YtflbcikfphfkdaaQbRx4
import Derived.Test.YtflbcikfphfkdaaQbRx5
namespace Go.Proofs.Ytflbcikfphfkdaa.R
open Go.RowKit Go.Proofs.YtflbcikfphfkdaaW.PrintWords Go.Proofs.YtflbcikfphfkdaaW.PrintLast Go.Proofs.YtflbcikfphfkdaaW.PrintMore Go.Proofs.Ytflbcikfphfkdaa.Sq
attribute [local go_sem] max2_int min2_int max_two min_two max_three min_three max_four min_four   -- for this text's walks alone
set_option linter.unusedVariables false
set_option linter.unusedSimpArgs false
mutual
def spec_LeastSize.j0 : Nat → List (S30) → Int → List Int → Bool → Option (Int × Bool)
 | 0, _, _, _, _ => none
 | k + 1, x0, x1, x2, x24 => if x24 = true then (some (0, false)) else (if 0 ≤ x1 then (if x1 < (x0.length : Int) then ((spec_l1Most.f 1 ((rd_T30 x0 x1).f2)).bind fun t866 => (spec_LeastSize.l0 k x0 x1 x2 t866)) else (none)) else (none))
def spec_LeastSize.l0 : Nat → List (S30) → Int → List Int → Int → Option (Int × Bool)
 | 0, _, _, _, _ => none
 | k + 1, x0, x1, x2, x8 => if x8 ≤ 1000 then ((some (([] : List (S30)) : List (S30))).bind fun y867 => (if y867.length + x0.length < 5864062014805 then ((some (y867 ++ x0 : List (S30))).bind fun y870 => (if 0 ≤ x1 then (if x1 < (x0.length : Int) then (if x1 < (y870.length : Int) then ((spec_weGo.f k (y870.set (x1 : Int).toNat (⟨x8, (rd_T30 x0 x1).f1, (rd_T30 x0 x1).f2⟩ : S30)) x2).bind fun bt876 => (spec_LeastSize.l1 k x0 x1 x2 x8 false bt876.2.2.1 (bt876.2.2.1.length : Int) 0)) else (none)) else (none)) else (none))) else (none))) else (some (0, false))
def spec_LeastSize.l1 : Nat → List (S30) → Int → List Int → Int → Bool → List (List Int) → Int → Int → Option (Int × Bool)
 | 0, _, _, _, _, _, _, _, _ => none
 | k + 1, x0, x1, x2, x8, x10, x56, x57, x58 => if x58 < x57 then (if 0 ≤ x58 then (if x58 < (x56.length : Int) then (if x10 = true then (spec_LeastSize.l1 k x0 x1 x2 x8 true x56 x57 (wrap64 (x58 + 1))) else (if 0 ≤ x1 then (if x1 < ((rd_L4 x56 x58).length : Int) then (spec_LeastSize.l1 k x0 x1 x2 x8 (decide ((rd (rd_L4 x56 x58) x1) > 0)) x56 x57 (wrap64 (x58 + 1))) else (none)) else (none))) else (none)) else (none)) else (if x10 = true then (spec_LeastSize.l0 k x0 x1 x2 (wrap64 (x8 + 1))) else (some (x8, true)))
end
def spec_LeastSize.f (k : Nat) (l0 : List (S30)) (a1 : Int) (l2 : List Int) : Option (Int × Bool) := (spec_weAsked.f k l0 l2).bind fun t863 => (if t863 = true then ((spec_l1In.f a1 0 (wrap64 ((l0.length : Int) - 1))).bind fun t864 => (spec_LeastSize.j0 k l0 a1 l2 (!t864))) else (spec_LeastSize.j0 k l0 a1 l2 true))
def spec_LeastSize.T7 : Bool × List (List Nat × List Nat) := (true, [([], []), ([], []), ([], []), ([], []), ([], []), ([3, 4], [3, 4]), ([5], [5]), ([6], [6]), ([], []), ([], []), ([8, 9], [8, 9]), ([10], [10]), ([11], [11]), ([2, 7, 12], [2, 7, 12]), ([0, 1, 0, 1, 2, 3, 4, 5, 6, 7, 8, 9, 10, 11, 12, 13], [0, 1]), ([14, 13, 0, 1, 2, 3, 4, 5, 6, 7, 8, 9, 10, 11, 12, 13], [13, 14])])
def spec_LeastSize.B7 : List Nat := [0, 0, 0, 0, 0, 24, 56, 120, 0, 0, 768, 1792, 3840, 8188, 16383, 32767]
theorem spec_LeastSize.tab7 : rtab .any (opsOf Try.f22 7) = spec_LeastSize.T7 := by kernel_rfl
theorem spec_LeastSize.bits7 : waitsOk spec_LeastSize.T7.2 spec_LeastSize.B7 = true := by kernel_rfl
set_option maxHeartbeats 8000000 in
set_option maxRecDepth 100000 in
theorem spec_LeastSize.calls (k : Nat) (A0 : Option Addr) (c0 : Nat) (l0 : List (S30)) (a1 : Int) (A2 : Option Addr) (c2 : Nat) (l2 : List Int) (r1 : Int) (r2 : Bool) (w : World) (hr0 : Kd.C k30 w A0 l0.length l0) (hc0 : l0.length ≤ c0) (hr2 : Kd.C (Kd.int .i64) w A2 l2.length l2) (hc2 : l2.length ≤ c2) (h : spec_LeastSize.f k l0 a1 l2 = some (r1, r2)) :
  Calls Try.prog 22 #[.slice A0 l0.length c0, .int .i64 a1, .slice A2 l2.length c2] w fun e w' => e = .returned (.tuple #[.int .i64 r1, .bool r2]) ∧ Below w.heap.size w w' := by
 have hu30 := Try.underlying30
 have hfd78_2 : ∀ (x0 x1 x2 x3 : Value) (W : World), (Instr.field 78 (.agg #[x0, x1, x2, x3]) 2).run Try.prog W = .ok (x2) W := fun x0 x1 x2 x3 W => by rfl
 have HR0 := Aside0.mk hr0
 have HC0 := Aside0.mk hc0
 clear hr0 hc0
 have HR2 := Aside0.mk hr2
 have HC2 := Aside0.mk hc2
 clear hr2 hc2
 have HB := Aside0.mk (Below.refl w.heap.size w)
 have H : ((spec_weAsked.f k l0 l2).bind fun t863 => (if t863 = true then ((spec_l1In.f a1 0 (wrap64 ((l0.length : Int) - 1))).bind fun t864 => (spec_LeastSize.j0 k l0 a1 l2 (!t864))) else (spec_LeastSize.j0 k l0 a1 l2 true))) = some (r1, r2) := h
 clear h
 have HC4 := Aside0.mk H
 clear H
 go_enter Try.func22, Try.ntmps22
 go_upto_region 1 with (fail)
 go_cut [24] (fun v24 wc => ∃ (kq : Nat) (x24_3 : Bool), v24 = .bool x24_3 ∧ Aside0 (spec_LeastSize.j0 kq l0 a1 l2 x24_3 = some (r1, r2)) ∧ Aside0 (kq ≤ k) ∧ Aside0 (Below w.heap.size w wc))
 case first =>
  have H := HC4.out
  clear HC4
  replace H := Option.bind_eq_some_iff.mp H
  obtain ⟨t863, A50, H⟩ := H
  (try dsimp only at H)
  have A5 := Aside0.mk A50
  clear A50
  by_cases c6 : t863 = true
  rotate_left
  ·replace c6 := Bool.eq_false_iff.mpr c6
   subst c6
   have H1 : (spec_LeastSize.j0 k l0 a1 l2 true) = some (r1, r2) := by rw [if_neg (show ¬ (false = true) by decide)] at H; exact H
   clear H
   have H := H1
   clear H1
   have H' := Aside0.mk H
   clear H
   go_wp2_with (first | ((with_reducible refine gate_callee (f := 64) rfl ?_); refine gl 15 Try.func64 #[.slice A0 l0.length c0, .slice A2 l2.length c2] ?_; (with_reducible refine (spec_weAsked.calls k _ _ l0 _ _ l2 false _ ?side1 ?side2 ?side3 ?side4 A5.out).mono ?_); (case side1 => exact ck HR0 HB); (case side2 => exact HC0.out); (case side3 => exact ck HR2 HB); (case side4 => exact HC2.out); rintro e w9 ⟨rfl, hb⟩; refine ⟨_, rfl, ?_⟩; replace HB := bs HB hb; (try clear hb)))
   go_meet
   case rel => exact ⟨_, (true), (by first | rfl | (simp; done) | (simp [*]; done)), H', ⟨by first | omega | exact Nat.le_refl _⟩, ⟨bw HB⟩⟩
  subst c6
  have H1 : ((spec_l1In.f a1 0 (wrap64 ((l0.length : Int) - 1))).bind fun t864 => (spec_LeastSize.j0 k l0 a1 l2 (!t864))) = some (r1, r2) := by rw [if_pos rfl] at H; exact H
  clear H
  have H := H1
  clear H1
  replace H := Option.bind_eq_some_iff.mp H
  obtain ⟨t864, A70, H⟩ := H
  (try dsimp only at H)
  have A7 := Aside0.mk A70
  clear A70
  have H' := Aside0.mk H
  clear H
  go_wp2_with (first | ((with_reducible refine gate_callee (f := 64) rfl ?_); refine gl 15 Try.func64 #[.slice A0 l0.length c0, .slice A2 l2.length c2] ?_; (with_reducible refine (spec_weAsked.calls k _ _ l0 _ _ l2 true _ ?side1 ?side2 ?side3 ?side4 A5.out).mono ?_); (case side1 => exact ck HR0 HB); (case side2 => exact HC0.out); (case side3 => exact ck HR2 HB); (case side4 => exact HC2.out); rintro e w8 ⟨rfl, hb⟩; refine ⟨_, rfl, ?_⟩; replace HB := bs HB hb; (try clear hb)) | (go_at_call 60; (with_reducible refine (spec_l1In.calls a1 0 (wrap64 ((l0.length : Int) - 1)) t864 _ A7.out).mono ?_); rintro e w' ⟨rfl, ⟨nd, rfl⟩⟩))
  go_meet
  case rel => exact ⟨_, (!t864), (by first | rfl | (simp; done) | (simp [*]; done)), H', ⟨by first | omega | exact Nat.le_refl _⟩, ⟨bw HB⟩⟩
 case rest =>
  clear HC4
  (try clear c2); (try clear p2); (try clear c6); (try clear p6)
  obtain ⟨kq, x24_3, rfl, HA, HJ3, HB⟩ := hcut
  cases kq with
  | zero => exact absurd HA.out (by simp [spec_LeastSize.j0])
  | succ kj3 =>
   have H := HA.out
   clear HA
   simp only [spec_LeastSize.j0] at H
   by_cases c10 : x24_3 = true
   ·subst c10
    have H1 : (some (0, false)) = some (r1, r2) := by rw [if_pos rfl] at H; exact H
    clear H
    have H := H1
    clear H1
    simp only [Option.some.injEq, Prod.mk.injEq] at H
    obtain ⟨rfl, rfl⟩ := H
    go_wp2
    go_ret2
    exact ⟨by first | rfl | (simp [errW_none, errW_some] <;> rfl) | (simp [*, errW_none, errW_some] <;> rfl), bw HB⟩
   replace c10 := Bool.eq_false_iff.mpr c10
   subst c10
   have H1 : (if 0 ≤ a1 then (if a1 < (l0.length : Int) then ((spec_l1Most.f 1 ((rd_T30 l0 a1).f2)).bind fun t866 => (spec_LeastSize.l0 kj3 l0 a1 l2 t866)) else (none)) else (none)) = some (r1, r2) := by rw [if_neg (show ¬ (false = true) by decide)] at H; exact H
   clear H
   have H := H1
   clear H1
   by_cases c11 : 0 ≤ a1
   rotate_left
   ·rw [if_neg c11] at H
    exact absurd H (by simp)
   rw [if_pos c11] at H
   have c11b0 : decide (0 ≤ a1) = true := decide_eq_true c11
   clear c11
   by_cases c12 : a1 < (l0.length : Int)
   rotate_left
   ·rw [if_neg c12] at H
    exact absurd H (by simp)
   rw [if_pos c12] at H
   have c12b0 : decide (a1 < (l0.length : Int)) = true := decide_eq_true c12
   clear c12
   replace H := Option.bind_eq_some_iff.mp H
   obtain ⟨t866, A130, H⟩ := H
   (try dsimp only at H)
   have A13 := Aside0.mk A130
   clear A130
   have H' := Aside0.mk H
   clear H
   have p865 : 0 ≤ (a1 : Int) := of_decide_eq_true ‹_›
   have q865 : a1 < (l0.length : Int) := of_decide_eq_true ‹_›
   obtain ⟨ad865, e865, hx865_0, hx865_1, hx865_2⟩ := at_T30 HR0.out a1 p865 q865
   cases e865
   (first | replace hx865_0 := (HB.out.cell (World.block_lt_of_cell? w _ hx865_0)).trans hx865_0 | skip)
   (first | replace hx865_1 := (HB.out.cell (World.block_lt_of_cell? w _ hx865_1)).trans hx865_1 | skip)
   (first | replace hx865_2 := (HB.out.cell (World.block_lt_of_cell? w _ hx865_2)).trans hx865_2 | skip)
   replace p865 := eq_true p865
   replace q865 := eq_true q865
   go_wp2_with (first | ((with_reducible refine gate_callee (f := 65) rfl ?_); refine gl 30 Try.func65 #[.int .i64 1, .int .i64 ((rd_T30 l0 a1).f2)] ?_; (with_reducible refine (spec_l1Most.calls 1 ((rd_T30 l0 a1).f2) t866 _ A13.out).mono ?_); rintro e w' ⟨rfl, ⟨nd, rfl⟩⟩; refine ⟨_, rfl, ?_⟩))
   try simp only [Act.put, List.setIfInBounds_toArray, List.set_cons_zero, List.set_cons_succ]
   go_loopg [8] kj3 (fun kq v8 w' => ∃ (x8_2 : Int), v8 = .int .i64 x8_2 ∧ Aside0 (spec_LeastSize.l0 kq l0 a1 l2 x8_2 = some (r1, r2)) ∧ Aside0 (kq ≤ kj3) ∧ Aside0 (Below w.heap.size w w'))
   case atStart => exact ⟨(t866), (by first | rfl | (simp; done) | (simp [*]; done)), H', ⟨Nat.le_refl _⟩, ⟨bw HB⟩⟩
   case round =>
    clear H'
    (try clear c1); (try clear c2); (try clear p2); (try clear c6); (try clear p6); (try clear p8); (try clear q8); (try clear hx8); (try clear c10); (try clear c11); (try clear c11b0); (try clear c12); (try clear c12b0); (try clear hx865_0); (try clear hx865_1); (try clear hx865_2); (try clear p2); (try clear p6); (try clear p865); (try clear q865)
    obtain ⟨x8_2, rfl, HA, HK2, HB⟩ := hrel
    cases gk with
    | zero => exact absurd HA.out (by simp [spec_LeastSize.l0])
    | succ k2 =>
     have H := HA.out
     clear HA
     simp only [spec_LeastSize.l0] at H
     by_cases c14 : x8_2 ≤ 1000
     rotate_left
     ·rw [if_neg c14] at H
      have c14b0 : decide (x8_2 ≤ 1000) = false := decide_eq_false c14
      clear c14
      simp only [Option.some.injEq, Prod.mk.injEq] at H
      obtain ⟨rfl, rfl⟩ := H
      go_wp2
      go_ret2
      exact ⟨by first | rfl | (simp [errW_none, errW_some] <;> rfl) | (simp [*, errW_none, errW_some] <;> rfl), bw HB⟩
     rw [if_pos c14] at H
     have c14b0 : decide (x8_2 ≤ 1000) = true := decide_eq_true c14
     clear c14
     obtain ⟨y867, hy867⟩ : ∃ y_ : List (S30), y_ = (([] : List (S30))) := ⟨_, rfl⟩
     replace H : (if y867.length + l0.length < 5864062014805 then ((some (y867 ++ l0 : List (S30))).bind fun y870 => (if 0 ≤ a1 then (if a1 < (l0.length : Int) then (if a1 < (y870.length : Int) then ((spec_weGo.f k2 (y870.set (a1 : Int).toNat (⟨x8_2, (rd_T30 l0 a1).f1, (rd_T30 l0 a1).f2⟩ : S30)) l2).bind fun bt876 => (spec_LeastSize.l1 k2 l0 a1 l2 x8_2 false bt876.2.2.1 (bt876.2.2.1.length : Int) 0)) else (none)) else (none)) else (none))) else (none)) = some (r1, r2) := by first | (rw [hy867]; with_reducible exact H) | (have H2_ := (Option.bind_some _ _).symm.trans H; rw [hy867]; with_reducible exact H2_) | (have H2_ := (Option.bind_some _ _).symm.trans H; with_reducible exact H2_) | with_reducible exact H | (rw [hy867]; exact H) | exact H
     have Ny867 := Aside0.mk hy867
     clear hy867
     by_cases c15 : y867.length + l0.length < 5864062014805
     rotate_left
     ·rw [if_neg c15] at H
      exact absurd H (by simp)
     rw [if_pos c15] at H
     have LMc15 := Aside0.mk c15
     clear c15
     obtain ⟨y870, hy870⟩ : ∃ y_ : List (S30), y_ = (y867 ++ l0) := ⟨_, rfl⟩
     replace H : (if 0 ≤ a1 then (if a1 < (l0.length : Int) then (if a1 < (y870.length : Int) then ((spec_weGo.f k2 (y870.set (a1 : Int).toNat (⟨x8_2, (rd_T30 l0 a1).f1, (rd_T30 l0 a1).f2⟩ : S30)) l2).bind fun bt876 => (spec_LeastSize.l1 k2 l0 a1 l2 x8_2 false bt876.2.2.1 (bt876.2.2.1.length : Int) 0)) else (none)) else (none)) else (none)) = some (r1, r2) := by first | (rw [hy870]; with_reducible exact H) | (have H2_ := (Option.bind_some _ _).symm.trans H; rw [hy870]; with_reducible exact H2_) | (have H2_ := (Option.bind_some _ _).symm.trans H; with_reducible exact H2_) | with_reducible exact H | (rw [hy870]; exact H) | exact H
     have Ny870 := Aside0.mk hy870
     clear hy870
     by_cases c16 : 0 ≤ a1
     rotate_left
     ·rw [if_neg c16] at H
      exact absurd H (by simp)
     rw [if_pos c16] at H
     have c16b0 : decide (0 ≤ a1) = true := decide_eq_true c16
     clear c16
     by_cases c17 : a1 < (l0.length : Int)
     rotate_left
     ·rw [if_neg c17] at H
      exact absurd H (by simp)
     rw [if_pos c17] at H
     have c17b0 : decide (a1 < (l0.length : Int)) = true := decide_eq_true c17
     clear c17
     by_cases c18 : a1 < (y870.length : Int)
     rotate_left
     ·rw [if_neg c18] at H
      exact absurd H (by simp)
     rw [if_pos c18] at H
     have c18b0 : decide (a1 < (y870.length : Int)) = true := decide_eq_true c18
     clear c18
     obtain ⟨y875, hy875⟩ : ∃ y_ : List (S30), y_ = (y870.set (a1 : Int).toNat (⟨x8_2, (rd_T30 l0 a1).f1, (rd_T30 l0 a1).f2⟩ : S30)) := ⟨_, rfl⟩
     replace H : ((spec_weGo.f k2 y875 l2).bind fun bt876 => (spec_LeastSize.l1 k2 l0 a1 l2 x8_2 false bt876.2.2.1 (bt876.2.2.1.length : Int) 0)) = some (r1, r2) := by first | (rw [hy875]; with_reducible exact H) | (have H2_ := (Option.bind_some _ _).symm.trans H; rw [hy875]; with_reducible exact H2_) | (have H2_ := (Option.bind_some _ _).symm.trans H; with_reducible exact H2_) | with_reducible exact H | (rw [hy875]; exact H) | exact H
     have Ny875 := Aside0.mk hy875
     clear hy875
     replace H := Option.bind_eq_some_iff.mp H
     obtain ⟨⟨t876, t879, t882, t885⟩, A200, H⟩ := H
     (try dsimp only at H)
     have A20 := Aside0.mk A200
     clear A200
     have H' := Aside0.mk H
     clear H
     try go_wp2_with (first | ((with_reducible refine gate_dst (N := 35) rfl ?_); (try (refine gate_guard (by rfl) ?_; dsimp only)); refine Kd.R_lit k30 _ 30 ?hg (N := 35) ?hd (xs := ([] : List (S30))) (inner := []) (ok := fun _ => True) (okp := fun _ => True) ?hr ?hp (fun _ hk => hk) trivial (Below.refl _ _) (Nat.le_refl _) (by simp) ?_; (case hd => rfl); (case hg => rfl); (case hr => first | (go_simp; done) | (go_simp; rfl)); (case hp => exact (Reps.none _ _)); intro v868 w21 ho22 hb hg_ hnew_; clear hg_ hnew_; (first | rw [← Ny867.out] at ho22 | (simp only [Int.reduceToNat] at ho22; rw [← Ny867.out] at ho22)); have HO869 := lo ho22 HB; replace HB := bs HB hb; clear hb ho22) | ((with_reducible refine gate_builtin (b := .append) (xs := #[.tmp 35, .tmp 36]) rfl ?_); (try (refine gate_guard (by rfl) ?_; dsimp only)); at_builtin; refine Kd.R_append_rows k30 (w0 := w) w.heap.size rfl (.tmp 35) (.tmp 36) 24 30 (.agg #[(.int .i64 0), (.int .i64 0), (.int .i64 0)]) 24 rfl Try.underlying24 info30 rfl (by decide) (by omega) v868 y867 l0 _ _ _ (fun _ => True) (fun _ => False) rfl rfl ?aO ?aR (fun _ _ h => h) (fun _ h => h.elim) ?aF ?aB ?aS ?aL ?_; (case aR => exact ck HR0 HB); (case aB => exact (bw HB)); (case aF => exact (fun _ _ => trivial)); (case aO => exact (rk HO869)); (case aS => exact (below_size (bw HB))); (case aL => have := LMc15.out; omega); intro v871 w23 ho hb hg hat; rw [← Ny870.out] at ho; have n0_ := Aside0.mk (hb); have n1_ := Aside0.mk (ho); clear HB; clear HO869; have HB := n0_; have HO872 := n1_; clear n0_ n1_; clear ho hb hg hat))
     replace HO872 := Aside0.mk (Kd.R_drew HO872.out)
     replace HB := Aside0.mk (below_drew1 HB.out)
     have p873 : 0 ≤ (a1 : Int) := of_decide_eq_true ‹_›
     have q873 : a1 < (l0.length : Int) := of_decide_eq_true ‹_›
     obtain ⟨ad873, e873, hx873_0, hx873_1, hx873_2⟩ := at_T30 HR0.out a1 p873 q873
     have hw873_2 := hx873_2
     have hw873_1 := hx873_1
     have hw873_0 := hx873_0
     obtain rfl : ad865 = ad873 := (by injection e873)
     (first | replace hx873_0 := (HB.out.cell (World.block_lt_of_cell? w _ hx873_0)).trans hx873_0 | skip)
     (first | replace hx873_1 := (HB.out.cell (World.block_lt_of_cell? w _ hx873_1)).trans hx873_1 | skip)
     (first | replace hx873_2 := (HB.out.cell (World.block_lt_of_cell? w _ hx873_2)).trans hx873_2 | skip)
     replace p873 := eq_true p873
     replace q873 := eq_true q873
     have p874 : 0 ≤ (a1 : Int) := of_decide_eq_true ‹_›
     have q874 : a1 < (l0.length : Int) := of_decide_eq_true ‹_›
     obtain ⟨ad874, e874, hx874_0, hx874_1, hx874_2⟩ := at_T30 HR0.out a1 p874 q874
     have hw874_2 := hx874_2
     have hw874_1 := hx874_1
     have hw874_0 := hx874_0
     obtain rfl : ad865 = ad874 := (by injection e874)
     (first | replace hx874_0 := (HB.out.cell (World.block_lt_of_cell? w _ hx874_0)).trans hx874_0 | skip)
     (first | replace hx874_1 := (HB.out.cell (World.block_lt_of_cell? w _ hx874_1)).trans hx874_1 | skip)
     (first | replace hx874_2 := (HB.out.cell (World.block_lt_of_cell? w _ hx874_2)).trans hx874_2 | skip)
     replace p874 := eq_true p874
     replace q874 := eq_true q874
     have p19 : 0 ≤ (a1 : Int) := of_decide_eq_true ‹_›
     have q19 : (a1 : Int) < ((y870.length : Int) : Int) := of_decide_eq_true ‹_›
     obtain ⟨go19, co19, eo19, gb19, gl19, cl19, HG19⟩ := Kd.R_form HO872.out (by omega)
     (first | cases eo19 | (injection eo19 with ea_ en_ ec_; (first | subst ea_ | (injection ea_ with ea_; subst ea_)); subst ec_; clear en_))
     have GB19 := Aside0.mk gb19
     have GG19 := Aside0.mk HG19
     clear gb19 gl19 HG19
     obtain ⟨ce19, hcl19, hM19, hcc19, hfr19⟩ := Kd.R_elem HO872.out z30 (a1 : Int) p19 q19
     obtain rfl := k30_openM hM19
     have hx19_0 : World.cell? _ ⟨go19, (a1 : Int).toNat * 3, none⟩ = some (.int .i64 ((rd_T30 y870 a1).f0)) := hcc19 0 _ rfl
     have hx19_1 : World.cell? _ ⟨go19, (a1 : Int).toNat * 3 + 1, none⟩ = some (.int .i64 ((rd_T30 y870 a1).f1)) := hcc19 1 _ rfl
     have hx19_2 : World.cell? _ ⟨go19, (a1 : Int).toNat * 3 + 2, none⟩ = some (.int .i64 ((rd_T30 y870 a1).f2)) := hcc19 2 _ rfl
     have hf19_0 : World.frozen? _ ⟨go19, (a1 : Int).toNat * 3, none⟩ = false := hfr19 0
     have hf19_1 : World.frozen? _ ⟨go19, (a1 : Int).toNat * 3 + 1, none⟩ = false := hfr19 1
     have hf19_2 : World.frozen? _ ⟨go19, (a1 : Int).toNat * 3 + 2, none⟩ = false := hfr19 2
     clear hcl19 hcc19 hfr19 hM19
     replace p19 := eq_true p19
     replace q19 := eq_true q19
     obtain ⟨ce25, hcl25, hM25, hcc25, hfr25⟩ := Kd.R_elem HO872.out z30 (a1 : Int) (of_decide_eq_true ‹_›) (by have h_ : (a1 : Int) < ((y870.length : Int) : Int) := of_decide_eq_true ‹_›; first | exact h_ | (have e_ := (Kd.R_reads' HO872.out).1; omega) | simpa using h_)
     obtain rfl := k30_openM hM25
     have HP25 := (Kd.R_seg HO872.out (a1 : Int) (of_decide_eq_true ‹_›) (by have h_ : (a1 : Int) < ((y870.length : Int) : Int) := of_decide_eq_true ‹_›; first | exact h_ | (have e_ := (Kd.R_reads' HO872.out).1; omega) | simpa using h_) (seg := [.int .i64 x8_2, .int .i64 ((rd_T30 l0 a1).f1), .int .i64 ((rd_T30 l0 a1).f2)]) (j := 0) hcl25 hcc25 (show 3 ≤ 3 from by decide) (x' := (⟨x8_2, (rd_T30 l0 a1).f1, (rd_T30 l0 a1).f2⟩ : S30)) (k30_mkM _ _ _ (⟨x8_2, (rd_T30 l0 a1).f1, (rd_T30 l0 a1).f2⟩ : S30) ) (fun _ hk => hk)).1
     rw [← Ny875.out] at HP25
     have HQ25 := Aside0.mk HP25
     clear hcl25 hcc25 hfr25 hM25 HP25
     refine start_ (n := 16) (S := fun w' => w'.cell? (ad865.add ((a1).toNat * 3)) = some (.int .i64 ((rd_T30 l0 a1).f0)) ∧ w'.cell? ⟨(ad865.add ((a1).toNat * 3)).block, (ad865.add ((a1).toNat * 3)).off + 1, none⟩ = some (.int .i64 ((rd_T30 l0 a1).f1)) ∧ w'.cell? ⟨(ad865.add ((a1).toNat * 3)).block, (ad865.add ((a1).toNat * 3)).off + 2, none⟩ = some (.int .i64 ((rd_T30 l0 a1).f2)) ∧ w'.cell? (ad865.add ((a1).toNat * 3)) = some (.int .i64 ((rd_T30 l0 a1).f0)) ∧ w'.cell? ⟨(ad865.add ((a1).toNat * 3)).block, (ad865.add ((a1).toNat * 3)).off + 1, none⟩ = some (.int .i64 ((rd_T30 l0 a1).f1)) ∧ w'.cell? ⟨(ad865.add ((a1).toNat * 3)).block, (ad865.add ((a1).toNat * 3)).off + 2, none⟩ = some (.int .i64 ((rd_T30 l0 a1).f2))) (ds := [15]) (bl 16 0) (by kernel_rfl) rfl rfl ⟨((HB.out.cell (World.block_lt_of_cell? w _ hw873_0)).trans hw873_0), ((HB.out.cell (World.block_lt_of_cell? w _ hw873_1)).trans hw873_1), ((HB.out.cell (World.block_lt_of_cell? w _ hw873_2)).trans hw873_2), ((HB.out.cell (World.block_lt_of_cell? w _ hw874_0)).trans hw874_0), ((HB.out.cell (World.block_lt_of_cell? w _ hw874_1)).trans hw874_1), ((HB.out.cell (World.block_lt_of_cell? w _ hw874_2)).trans hw874_2)⟩ (fun hHeld => ?_); refine with_tabW spec_LeastSize.tab7 spec_LeastSize.bits7 (fun HT_ HW_ => ?_)
     generalize w23.drew = w24 at HO872 HB GG19 HQ25 hf19_0 hf19_1 hf19_2 hx19_0 hx19_1 hx19_2 hx873_0 hx873_1 hx873_2 hx874_0 hx874_1 hx874_2 hHeld ⊢
     refine pu 0 38 (bl 16 1) HT_.out (v := ?_) (a' := ?_) ?_ ?_ ?_
     rotate_left; (intro w'; go_simp; with_reducible rfl); rotate_left; (simp only [sqa, sqb, sqc, sqd, i64_w, i32_w]; rfl)
     refine pu 1 39 (bl 16 3) HT_.out (v := ?_) (a' := ?_) ?_ ?_ ?_
     rotate_left; (intro w'; go_simp; with_reducible rfl); rotate_left; (simp only [sqa, sqb, sqc, sqd, i64_w, i32_w]; rfl)
     refine pu 2 40 (bl 16 7) HT_.out (v := ?_) (a' := ?_) ?_ ?_ ?_
     rotate_left; (intro w'; go_simp; with_reducible rfl); rotate_left; (simp only [sqa, sqb, sqc, sqd, i64_w, i32_w]; rfl)
     refine pu 3 41 (bl 16 15) HT_.out (v := ?_) (a' := ?_) ?_ ?_ ?_
     rotate_left; (intro w'; go_simp; with_reducible rfl); rotate_left; (simp only [sqa, sqb, sqc, sqd, i64_w, i32_w]; rfl)
     refine pu 4 42 (bl 16 31) HT_.out (v := ?_) (a' := ?_) ?_ ?_ ?_
     rotate_left; (intro w'; go_simp; with_reducible rfl); rotate_left; (simp only [sqa, sqb, sqc, sqd, i64_w, i32_w]; rfl)
     refine pu 5 43 (bl 16 63) HT_.out (v := ?_) (a' := ?_) ?_ ?_ ?_
     rotate_left; (intro w'; go_simp; with_reducible rfl); rotate_left; (simp only [sqa, sqb, sqc, sqd, i64_w, i32_w]; rfl)
     refine pu 6 44 (bl 16 127) HT_.out (v := ?_) (a' := ?_) ?_ ?_ ?_
     rotate_left; (intro w'; go_simp; with_reducible rfl); rotate_left; (simp only [sqa, sqb, sqc, sqd, i64_w, i32_w]; rfl)
     refine pu 8 46 (bl 16 383) HT_.out (v := ?_) (a' := ?_) ?_ ?_ ?_
     rotate_left; (intro w'; go_simp; with_reducible rfl); rotate_left; (simp only [sqa, sqb, sqc, sqd, i64_w, i32_w]; rfl)
     refine pu 9 47 (bl 16 895) HT_.out (v := ?_) (a' := ?_) ?_ ?_ ?_
     rotate_left; (intro w'; go_simp; with_reducible rfl); rotate_left; (simp only [sqa, sqb, sqc, sqd, i64_w, i32_w]; rfl)
     refine pu 10 48 (bl 16 1919) HT_.out (v := ?_) (a' := ?_) ?_ ?_ ?_
     rotate_left; (intro w'; go_simp; with_reducible rfl); rotate_left; (simp only [sqa, sqb, sqc, sqd, i64_w, i32_w]; rfl)
     refine pu 11 49 (bl 16 3967) HT_.out (v := ?_) (a' := ?_) ?_ ?_ ?_
     rotate_left; (intro w'; go_simp; with_reducible rfl); rotate_left; (simp only [sqa, sqb, sqc, sqd, i64_w, i32_w]; rfl)
     refine tk 7 45 (bl 16 4095) HT_.out HW_.out hHeld (v := ?_) (a' := ?_) ?_ ?_ ?_
     rotate_left; (rintro w' ⟨s0, s1, s2, s3, s4, s5⟩; go_simp; with_reducible rfl); rotate_left; (simp only [sqa, sqb, sqc, sqd, i64_w, i32_w]; rfl)
     refine tk 12 50 (bl 16 8191) HT_.out HW_.out hHeld (v := ?_) (a' := ?_) ?_ ?_ ?_
     rotate_left; (rintro w' ⟨s0, s1, s2, s3, s4, s5⟩; go_simp; with_reducible rfl); rotate_left; (simp only [sqa, sqb, sqc, sqd, i64_w, i32_w]; rfl)
     refine pu 13 51 (bl 16 16383) HT_.out (v := ?_) (a' := ?_) ?_ ?_ ?_
     rotate_left; (intro w'; go_simp; with_reducible rfl); rotate_left; (simp only [sqa, sqb, sqc, sqd, i64_w, i32_w]; rfl)
     refine pu 14 52 (bl 16 32767) HT_.out (v := ?_) (a' := ?_) ?_ ?_ ?_
     rotate_left; (intro w'; go_simp; with_reducible rfl); rotate_left; (simp only [sqa, sqb, sqc, sqd, i64_w, i32_w]; rfl)
     refine last_ (i := 15) (N := none) (bl 16 65535) rfl rfl (one_of HT_.out (by kernel_rfl)) (by decide) (fun K hK => ?_)
     refine skip_ (w1 := ?_) (by rfl) rfl ?_ ?_
     rotate_left
     ·go_simp
      rfl
     refine hK.out _ _ ?_
     clear hK K
     refine done_ (done_of HT_.out (by kernel_rfl)) ?_
     try go_wp2_with (first | ((with_reducible refine gate_callee (f := 66) rfl ?_); refine goesL_ (some 55) rfl rfl Try.func66 (by kernel_rfl) rfl #[.slice (some ⟨go19, 0, none⟩) y875.length co19, .slice A2 l2.length c2] rfl (by (try simp only [List.map_toArray, List.map_cons, List.map_nil]); first | done | (rw [show y875.length = y870.length from (Kd.R_reads' HQ25.out).1.symm] <;> rfl) | rfl | (simp only [List.length_drop, List.length_take]; rfl)) ?_; (with_reducible refine (spec_weGo.calls k2 _ _ y875 _ _ l2 t876 t879 t882 t885 _ ?side1 ?side2 ?side3 ?side4 A20.out).mono ?_); (case side1 => refine (Kd.R_reads' (e := 30) (base := w.heap.size) (ok := fun k_ => True) (n := y870.length) (c := co19) ?_).2.2; exact HQ25.out); (case side2 => rw [show y875.length = y870.length from (Kd.R_reads' HQ25.out).1.symm]; exact (Kd.R_reads' HO872.out).2.1); (case side3 => exact Kd.C_below HR2.out (by repeat (first | (with_reducible first | exact HB.out | apply below_alloc | apply pw_below_drewN | apply below_drew1 | refine below_set ?_ GB19.out | refine below_set ?_ GB19.out | refine below_set ?_ GB19.out) | exact HB.out))); (case side4 => exact HC2.out); rintro e w26 ⟨v877, v880, v883, v886, rfl, ho0, ho1, ho2, ho3, hb⟩; refine ⟨_, rfl, ?_⟩; replace HO872 := Aside0.mk (Kd.R_elder' HQ25.out (Kd.R_base ho1) hb); have HO878 := Aside0.mk (Kd.R_lower ho0 (below_size (by repeat (first | (with_reducible first | exact HB.out | apply below_alloc | apply pw_below_drewN | apply below_drew1 | refine below_set ?_ GB19.out | refine below_set ?_ GB19.out | refine below_set ?_ GB19.out) | exact HB.out)))); have HO881 := Aside0.mk (Kd.R_lower (Kd.R_new' ho1 (Kd.R_lt HQ25.out)) (below_size (by repeat (first | (with_reducible first | exact HB.out | apply below_alloc | apply pw_below_drewN | apply below_drew1 | refine below_set ?_ GB19.out | refine below_set ?_ GB19.out | refine below_set ?_ GB19.out) | exact HB.out)))); have HO884 := Aside0.mk (Kd.S_lower ho2 (below_size (by repeat (first | (with_reducible first | exact HB.out | apply below_alloc | apply pw_below_drewN | apply below_drew1 | refine below_set ?_ GB19.out | refine below_set ?_ GB19.out | refine below_set ?_ GB19.out) | exact HB.out)))); have HO887 := Aside0.mk (Kd.S_lower (Kd.S_new' ho3 (Kd.R_lt HQ25.out)) (below_size (by repeat (first | (with_reducible first | exact HB.out | apply below_alloc | apply pw_below_drewN | apply below_drew1 | refine below_set ?_ GB19.out | refine below_set ?_ GB19.out | refine below_set ?_ GB19.out) | exact HB.out)))); replace HB := Aside0.mk (below_step (by repeat (first | (with_reducible first | exact HB.out | apply below_alloc | apply pw_below_drewN | apply below_drew1 | refine below_set ?_ GB19.out | refine below_set ?_ GB19.out | refine below_set ?_ GB19.out) | exact HB.out)) hb); (try clear hb); (try clear ho0); (try clear ho1); (try clear ho2); (try clear ho3); obtain ⟨Ao27, co27, eo27⟩ := Kd.S_slice HO884.out; subst eo27))
     try simp only [Act.put, List.setIfInBounds_toArray, List.set_cons_zero, List.set_cons_succ]
     go_loopg [10, 58] k2 (fun kq v10 v58 w' => ∃ (x10_3 : Bool) (x58_3 : Int), v10 = .bool x10_3 ∧ v58 = .int .i64 x58_3 ∧ Aside0 (spec_LeastSize.l1 kq l0 a1 l2 x8_2 x10_3 t882 (t882.length : Int) x58_3 = some (r1, r2)) ∧ Aside0 (kq ≤ k2) ∧ Aside0 (Kd.S (Kd.slice 3 (Kd.int .i64)) 33 w' w.heap.size (fun _ => True) (.slice Ao27 t882.length co27) t882) ∧ Aside0 (Below w.heap.size w w'))
     case atStart => exact ⟨(false), (0), (by first | rfl | (simp; done) | (simp [*]; done)), (by first | rfl | (simp; done) | (simp [*]; done)), H', ⟨Nat.le_refl _⟩, ⟨by (with_reducible repeat (first | apply Kd.S_alloc | apply Kd.S_drewN | apply Kd.S_drew)); exact Kd.S_mono HO884.out (fun _ hk => trivial)⟩, ⟨bw HB⟩⟩
     case round =>
      clear H'
      (try clear c1); (try clear p1); (try clear q1); (try clear hx1); (try clear c2); (try clear p2); (try clear c6); (try clear p6); (try clear p8); (try clear q8); (try clear hx8); (try clear c10); (try clear c11); (try clear c11b0); (try clear c12); (try clear c12b0); (try clear c14); (try clear c14b0); (try clear c15); (try clear c16); (try clear c16b0); (try clear c17); (try clear c17b0); (try clear c18); (try clear c18b0); (try clear c19); (try clear p19); (try clear q19); (try clear hx19); (try clear hf19); (try clear c22); (try clear c25); (try clear hx19_0); (try clear hx19_1); (try clear hx19_2); (try clear hx865_0); (try clear hx865_1); (try clear hx865_2); (try clear hx873_0); (try clear hx873_1); (try clear hx873_2); (try clear hx874_0); (try clear hx874_1); (try clear hx874_2); (try clear p19); (try clear p2); (try clear p6); (try clear p8); (try clear p865); (try clear p873); (try clear p874); (try clear q19); (try clear q8); (try clear q865); (try clear q873); (try clear q874)
      obtain ⟨x10_3, x58_3, rfl, rfl, HA, HK3, HO_56, HB⟩ := hrel
      cases gk with
      | zero => exact absurd HA.out (by simp [spec_LeastSize.l1])
      | succ k3 =>
       have H := HA.out
       clear HA
       simp only [spec_LeastSize.l1] at H
       by_cases c28 : x58_3 < (t882.length : Int)
       rotate_left
       ·rw [if_neg c28] at H
        have c28b0 : decide (x58_3 < (t882.length : Int)) = false := decide_eq_false c28
        clear c28
        by_cases c34 : x10_3 = true
        rotate_left
        ·replace c34 := Bool.eq_false_iff.mpr c34
         subst c34
         have H1 : (some (x8_2, true)) = some (r1, r2) := by rw [if_neg (show ¬ (false = true) by decide)] at H; exact H
         clear H
         have H := H1
         clear H1
         simp only [Option.some.injEq, Prod.mk.injEq] at H
         obtain ⟨rfl, rfl⟩ := H
         go_wp2
         go_ret2
         exact ⟨by first | rfl | (simp [errW_none, errW_some] <;> rfl) | (simp [*, errW_none, errW_some] <;> rfl), bw HB⟩
        subst c34
        have H1 : (spec_LeastSize.l0 k3 l0 a1 l2 (wrap64 (x8_2 + 1))) = some (r1, r2) := by rw [if_pos rfl] at H; exact H
        clear H
        have H := H1
        clear H1
        have H' := Aside0.mk H
        clear H
        go_wp2
        go_roundg k3
        case measure => have := HJ3.out; have := HK2.out; have := HK3.out; omega
        case rel => exact ⟨(wrap64 (x8_2 + 1)), (by first | rfl | (simp; done) | (simp [*]; done)), H', ⟨by have := HJ3.out; have := HK2.out; have := HK3.out; omega⟩, ⟨bw HB⟩⟩
       rw [if_pos c28] at H
       have c28b0 : decide (x58_3 < (t882.length : Int)) = true := decide_eq_true c28
       clear c28
       by_cases c29 : 0 ≤ x58_3
       rotate_left
       ·rw [if_neg c29] at H
        exact absurd H (by simp)
       rw [if_pos c29] at H
       have c29b0 : decide (0 ≤ x58_3) = true := decide_eq_true c29
       clear c29
       by_cases c30 : x58_3 < (t882.length : Int)
       rotate_left
       ·rw [if_neg c30] at H
        exact absurd H (by simp)
       rw [if_pos c30] at H
       have c30b0 : decide (x58_3 < (t882.length : Int)) = true := decide_eq_true c30
       clear c30
       by_cases c31 : x10_3 = true
       ·subst c31
        have H1 : (spec_LeastSize.l1 k3 l0 a1 l2 x8_2 true t882 (t882.length : Int) (wrap64 (x58_3 + 1))) = some (r1, r2) := by rw [if_pos rfl] at H; exact H
        clear H
        have H := H1
        clear H1
        have H' := Aside0.mk H
        clear H
        have p888 : 0 ≤ (x58_3 : Int) := of_decide_eq_true ‹_›
        have q888 : x58_3 < (t882.length : Int) := of_decide_eq_true ‹_›
        obtain ⟨ad888, A888_0, c888_0, e888, hx888_0, hl888_0, hi888_0⟩ := at_L4 (Kd.S_reads' HO_56.out).2.2 x58_3 p888 q888
        cases e888
        obtain ⟨ce888, hce888, hMe888, hcc888⟩ := Kd.S_get HO_56.out [] x58_3 p888 (by first | exact q888 | exact of_decide_eq_true ‹_› | (have e_ := (Kd.S_reads' HO_56.out).1; omega))
        obtain ⟨ve888_0, rfl, ge888_0⟩ := hMe888
        have hv888_0 := hcc888 0 _ rfl
        rw [Nat.add_zero, show ((Kd.slice 3 (Kd.int .i64))).sz = 1 from rfl, Nat.mul_one] at hv888_0
        replace hv888_0 := Option.some.inj (hv888_0.symm.trans hx888_0)
        rw [hv888_0] at ge888_0
        have HL888_0 := Aside0.mk (show Kd.R (Kd.int .i64) 3 _ _ _ _ (rd_L4 t882 x58_3) from ge888_0)
        clear hv888_0 ge888_0
        clear hcc888 hce888
        have HR888_0 := Aside0.mk hi888_0
        have HC888_0 := Aside0.mk hl888_0
        clear hi888_0 hl888_0
        replace p888 := eq_true p888
        replace q888 := eq_true q888
        go_wp2
        go_roundg k3
        case measure => have := HJ3.out; have := HK2.out; have := HK3.out; omega
        case rel => exact ⟨(true), (wrap64 (x58_3 + 1)), (by first | rfl | (simp; done) | (simp [*]; done)), (by first | rfl | (simp; done) | (simp [*]; done)), H', ⟨by have := HJ3.out; have := HK2.out; have := HK3.out; omega⟩, ⟨by (with_reducible repeat (first | apply Kd.S_alloc | apply Kd.S_drewN | apply Kd.S_drew)); exact HO_56.out⟩, ⟨bw HB⟩⟩
       replace c31 := Bool.eq_false_iff.mpr c31
       subst c31
       have H1 : (if 0 ≤ a1 then (if a1 < ((rd_L4 t882 x58_3).length : Int) then (spec_LeastSize.l1 k3 l0 a1 l2 x8_2 (decide ((rd (rd_L4 t882 x58_3) a1) > 0)) t882 (t882.length : Int) (wrap64 (x58_3 + 1))) else (none)) else (none)) = some (r1, r2) := by rw [if_neg (show ¬ (false = true) by decide)] at H; exact H
       clear H
       have H := H1
       clear H1
       by_cases c32 : 0 ≤ a1
       rotate_left
       ·rw [if_neg c32] at H
        exact absurd H (by simp)
       rw [if_pos c32] at H
       have c32b0 : decide (0 ≤ a1) = true := decide_eq_true c32
       clear c32
       by_cases c33 : a1 < ((rd_L4 t882 x58_3).length : Int)
       rotate_left
       ·rw [if_neg c33] at H
        exact absurd H (by simp)
       rw [if_pos c33] at H
       have c33b0 : decide (a1 < ((rd_L4 t882 x58_3).length : Int)) = true := decide_eq_true c33
       clear c33
       have H' := Aside0.mk H
       clear H
       have p888 : 0 ≤ (x58_3 : Int) := of_decide_eq_true ‹_›
       have q888 : x58_3 < (t882.length : Int) := of_decide_eq_true ‹_›
       obtain ⟨ad888, A888_0, c888_0, e888, hx888_0, hl888_0, hi888_0⟩ := at_L4 (Kd.S_reads' HO_56.out).2.2 x58_3 p888 q888
       cases e888
       obtain ⟨ce888, hce888, hMe888, hcc888⟩ := Kd.S_get HO_56.out [] x58_3 p888 (by first | exact q888 | exact of_decide_eq_true ‹_› | (have e_ := (Kd.S_reads' HO_56.out).1; omega))
       obtain ⟨ve888_0, rfl, ge888_0⟩ := hMe888
       have hv888_0 := hcc888 0 _ rfl
       rw [Nat.add_zero, show ((Kd.slice 3 (Kd.int .i64))).sz = 1 from rfl, Nat.mul_one] at hv888_0
       replace hv888_0 := Option.some.inj (hv888_0.symm.trans hx888_0)
       rw [hv888_0] at ge888_0
       have HL888_0 := Aside0.mk (show Kd.R (Kd.int .i64) 3 _ _ _ _ (rd_L4 t882 x58_3) from ge888_0)
       clear hv888_0 ge888_0
       clear hcc888 hce888
       have HR888_0 := Aside0.mk hi888_0
       have HC888_0 := Aside0.mk hl888_0
       clear hi888_0 hl888_0
       replace p888 := eq_true p888
       replace q888 := eq_true q888
       have p889 : 0 ≤ (a1 : Int) := of_decide_eq_true ‹_›
       have q889 : a1 < ((rd_L4 t882 x58_3).length : Int) := of_decide_eq_true ‹_›
       obtain ⟨ad889, e889, hx889_0⟩ := Kd.at_int (by repeat (first | (with_reducible exact HR888_0.out) | (with_reducible refine Kd.C_alloc ?_ _) | (with_reducible refine Kd.C_drewN ?_ _) | (with_reducible refine Kd.C_drew ?_) | exact HR888_0.out)) a1 p889 q889
       cases e889
       replace p889 := eq_true p889
       replace q889 := eq_true q889
       go_wp2
       go_roundg k3
       case measure => have := HJ3.out; have := HK2.out; have := HK3.out; omega
       case rel => exact ⟨(decide ((rd (rd_L4 t882 x58_3) a1) > 0)), (wrap64 (x58_3 + 1)), (by first | rfl | (simp; done) | (simp [*]; done)), (by first | rfl | (simp; done) | (simp [*]; done)), H', ⟨by have := HJ3.out; have := HK2.out; have := HK3.out; omega⟩, ⟨by (with_reducible repeat (first | apply Kd.S_alloc | apply Kd.S_drewN | apply Kd.S_drew)); exact HO_56.out⟩, ⟨bw HB⟩⟩
mutual
def spec_HeldAlong.j0 : Nat → List (S30) → Int → List Int → Bool → Option (List Int × Bool)
 | 0, _, _, _, _ => none
 | k + 1, x0, x1, x2, x22 => if x22 = true then (some (([] : List Int), false)) else ((spec_weGo.f k x0 x2).bind fun bt892 => (spec_HeldAlong.l0 k x1 ([] : List Int) bt892.2.2.2 (bt892.2.2.2.length : Int) 0))
def spec_HeldAlong.l0 : Nat → Int → List Int → List (List (S30)) → Int → Int → Option (List Int × Bool)
 | 0, _, _, _, _, _ => none
 | k + 1, x1, x8, x26, x27, x28 => if x28 < x27 then (if 0 ≤ x28 then (if x28 < (x26.length : Int) then (if 0 ≤ x1 then (if x1 < ((rd_L3 x26 x28).length : Int) then (if x8.length < 17592186044416 then (spec_HeldAlong.l0 k x1 (x8 ++ [(rd_T30 (rd_L3 x26 x28) x1).f2]) x26 x27 (wrap64 (x28 + 1))) else (none)) else (none)) else (none)) else (none)) else (none)) else (some (x8, true))
end
def spec_HeldAlong.f (k : Nat) (l0 : List (S30)) (a1 : Int) (l2 : List Int) : Option (List Int × Bool) := (spec_weAsked.f k l0 l2).bind fun t890 => (if t890 = true then ((spec_l1In.f a1 0 (wrap64 ((l0.length : Int) - 1))).bind fun t891 => (spec_HeldAlong.j0 k l0 a1 l2 (!t891))) else (spec_HeldAlong.j0 k l0 a1 l2 true))
set_option maxHeartbeats 8000000 in
set_option maxRecDepth 100000 in
theorem spec_HeldAlong.calls (k : Nat) (A0 : Option Addr) (c0 : Nat) (l0 : List (S30)) (a1 : Int) (A2 : Option Addr) (c2 : Nat) (l2 : List Int) (r1 : List Int) (r2 : Bool) (w : World) (hr0 : Kd.C k30 w A0 l0.length l0) (hc0 : l0.length ≤ c0) (hr2 : Kd.C (Kd.int .i64) w A2 l2.length l2) (hc2 : l2.length ≤ c2) (h : spec_HeldAlong.f k l0 a1 l2 = some (r1, r2)) :
  Calls Try.prog 24 #[.slice A0 l0.length c0, .int .i64 a1, .slice A2 l2.length c2] w fun e w' => ∃ v0_ : Value, e = .returned (.tuple #[v0_, .bool r2]) ∧ Kd.R (Kd.int .i64) 3 w' w.heap.size (fun _ => True) v0_ r1 ∧ Below w.heap.size w w' := by
 have hfd78_3 : ∀ (x0 x1 x2 x3 : Value) (W : World), (Instr.field 78 (.agg #[x0, x1, x2, x3]) 3).run Try.prog W = .ok (x3) W := fun x0 x1 x2 x3 W => by rfl
 have HR0 := Aside0.mk hr0
 have HC0 := Aside0.mk hc0
 clear hr0 hc0
 have HR2 := Aside0.mk hr2
 have HC2 := Aside0.mk hc2
 clear hr2 hc2
 have HB := Aside0.mk (Below.refl w.heap.size w)
 have H : ((spec_weAsked.f k l0 l2).bind fun t890 => (if t890 = true then ((spec_l1In.f a1 0 (wrap64 ((l0.length : Int) - 1))).bind fun t891 => (spec_HeldAlong.j0 k l0 a1 l2 (!t891))) else (spec_HeldAlong.j0 k l0 a1 l2 true))) = some (r1, r2) := h
 clear h
 have HC4 := Aside0.mk H
 clear H
 go_enter Try.func24, Try.ntmps24
 go_upto_region 1 with (fail)
 go_cut [22] (fun v22 wc => ∃ (kq : Nat) (x22_3 : Bool), v22 = .bool x22_3 ∧ Aside0 (spec_HeldAlong.j0 kq l0 a1 l2 x22_3 = some (r1, r2)) ∧ Aside0 (kq ≤ k) ∧ Aside0 (Below w.heap.size w wc))
 case first =>
  have H := HC4.out
  clear HC4
  replace H := Option.bind_eq_some_iff.mp H
  obtain ⟨t890, A50, H⟩ := H
  (try dsimp only at H)
  have A5 := Aside0.mk A50
  clear A50
  by_cases c6 : t890 = true
  rotate_left
  ·replace c6 := Bool.eq_false_iff.mpr c6
   subst c6
   have H1 : (spec_HeldAlong.j0 k l0 a1 l2 true) = some (r1, r2) := by rw [if_neg (show ¬ (false = true) by decide)] at H; exact H
   clear H
   have H := H1
   clear H1
   have H' := Aside0.mk H
   clear H
   go_wp2_with (first | ((with_reducible refine gate_callee (f := 64) rfl ?_); refine gl 13 Try.func64 #[.slice A0 l0.length c0, .slice A2 l2.length c2] ?_; (with_reducible refine (spec_weAsked.calls k _ _ l0 _ _ l2 false _ ?side1 ?side2 ?side3 ?side4 A5.out).mono ?_); (case side1 => exact ck HR0 HB); (case side2 => exact HC0.out); (case side3 => exact ck HR2 HB); (case side4 => exact HC2.out); rintro e w9 ⟨rfl, hb⟩; refine ⟨_, rfl, ?_⟩; replace HB := bs HB hb; (try clear hb)))
   go_meet
   case rel => exact ⟨_, (true), (by first | rfl | (simp; done) | (simp [*]; done)), H', ⟨by first | omega | exact Nat.le_refl _⟩, ⟨bw HB⟩⟩
  subst c6
  have H1 : ((spec_l1In.f a1 0 (wrap64 ((l0.length : Int) - 1))).bind fun t891 => (spec_HeldAlong.j0 k l0 a1 l2 (!t891))) = some (r1, r2) := by rw [if_pos rfl] at H; exact H
  clear H
  have H := H1
  clear H1
  replace H := Option.bind_eq_some_iff.mp H
  obtain ⟨t891, A70, H⟩ := H
  (try dsimp only at H)
  have A7 := Aside0.mk A70
  clear A70
  have H' := Aside0.mk H
  clear H
  go_wp2_with (first | ((with_reducible refine gate_callee (f := 64) rfl ?_); refine gl 13 Try.func64 #[.slice A0 l0.length c0, .slice A2 l2.length c2] ?_; (with_reducible refine (spec_weAsked.calls k _ _ l0 _ _ l2 true _ ?side1 ?side2 ?side3 ?side4 A5.out).mono ?_); (case side1 => exact ck HR0 HB); (case side2 => exact HC0.out); (case side3 => exact ck HR2 HB); (case side4 => exact HC2.out); rintro e w8 ⟨rfl, hb⟩; refine ⟨_, rfl, ?_⟩; replace HB := bs HB hb; (try clear hb)) | (go_at_call 60; (with_reducible refine (spec_l1In.calls a1 0 (wrap64 ((l0.length : Int) - 1)) t891 _ A7.out).mono ?_); rintro e w' ⟨rfl, ⟨nd, rfl⟩⟩))
  go_meet
  case rel => exact ⟨_, (!t891), (by first | rfl | (simp; done) | (simp [*]; done)), H', ⟨by first | omega | exact Nat.le_refl _⟩, ⟨bw HB⟩⟩
 case rest =>
  clear HC4
  (try clear c2); (try clear p2); (try clear c6); (try clear p6)
  obtain ⟨kq, x22_3, rfl, HA, HJ3, HB⟩ := hcut
  cases kq with
  | zero => exact absurd HA.out (by simp [spec_HeldAlong.j0])
  | succ kj3 =>
   have H := HA.out
   clear HA
   simp only [spec_HeldAlong.j0] at H
   by_cases c10 : x22_3 = true
   ·subst c10
    have H1 : (some (([] : List Int), false)) = some (r1, r2) := by rw [if_pos rfl] at H; exact H
    clear H
    have H := H1
    clear H1
    simp only [Option.some.injEq, Prod.mk.injEq] at H
    obtain ⟨rfl, rfl⟩ := H
    go_wp2
    go_ret2
    exact ⟨_, by first | rfl | (simp [errW_none, errW_some] <;> rfl) | (simp [*, errW_none, errW_some] <;> rfl), by first | exact Kd.R_nil _ _ _ _ _ | exact Kd.N_nil _ _ _ _ _ | exact Kd.V_nil _ _ _ _ _ | exact Kd.Q_nil _ _ _ _ _ | exact Kd.S_nil _ _ _ _ _, bw HB⟩
   replace c10 := Bool.eq_false_iff.mpr c10
   subst c10
   have H1 : ((spec_weGo.f kj3 l0 l2).bind fun bt892 => (spec_HeldAlong.l0 kj3 a1 ([] : List Int) bt892.2.2.2 (bt892.2.2.2.length : Int) 0)) = some (r1, r2) := by rw [if_neg (show ¬ (false = true) by decide)] at H; exact H
   clear H
   have H := H1
   clear H1
   replace H := Option.bind_eq_some_iff.mp H
   obtain ⟨⟨t892, t895, t898, t901⟩, A110, H⟩ := H
   (try dsimp only at H)
   have A11 := Aside0.mk A110
   clear A110
   have H' := Aside0.mk H
   clear H
   go_wp2_with (first | ((with_reducible refine gate_callee (f := 66) rfl ?_); refine gl 25 Try.func66 #[.slice A0 l0.length c0, .slice A2 l2.length c2] ?_; (with_reducible refine (spec_weGo.calls kj3 _ _ l0 _ _ l2 t892 t895 t898 t901 _ ?side1 ?side2 ?side3 ?side4 A11.out).mono ?_); (case side1 => exact ck HR0 HB); (case side2 => exact HC0.out); (case side3 => exact ck HR2 HB); (case side4 => exact HC2.out); rintro e w12 ⟨v893, v896, v899, v902, rfl, ho0, ho1, ho2, ho3, hb⟩; refine ⟨_, rfl, ?_⟩; have HO894 := lo ho0 HB; have HO897 := lo ho1 HB; have HO900 := Aside0.mk (Kd.S_lower ho2 (below_size (bw HB))); have HO903 := Aside0.mk (Kd.S_lower ho3 (below_size (bw HB))); replace HB := bs HB hb; (try clear hb); (try clear ho0); (try clear ho1); (try clear ho2); (try clear ho3); obtain ⟨Ao13, co13, eo13⟩ := Kd.S_slice HO903.out; subst eo13))
   try simp only [Act.put, List.setIfInBounds_toArray, List.set_cons_zero, List.set_cons_succ]
   go_loopg [8, 28] kj3 (fun kq v8 v28 w' => ∃ (x8_2 : List Int) (x28_2 : Int), v28 = .int .i64 x28_2 ∧ Aside0 (spec_HeldAlong.l0 kq a1 x8_2 t901 (t901.length : Int) x28_2 = some (r1, r2)) ∧ Aside0 (kq ≤ kj3) ∧ Aside0 (Kd.R (Kd.int .i64) 3 w' w.heap.size (fun _ => True) v8 x8_2) ∧ Aside0 (Kd.S (Kd.slice 30 k30) 24 w' w.heap.size (fun _ => True) (.slice Ao13 t901.length co13) t901) ∧ Aside0 (Below w.heap.size w w'))
   case atStart => exact ⟨(([] : List Int)), (0), (by first | rfl | (simp; done) | (simp [*]; done)), H', ⟨Nat.le_refl _⟩, ⟨by first | exact Kd.R_nil _ _ _ _ _ | exact Kd.N_nil _ _ _ _ _ | exact Kd.V_nil _ _ _ _ _ | exact Kd.Q_nil _ _ _ _ _ | exact Kd.S_nil _ _ _ _ _⟩, ⟨by (with_reducible repeat (first | apply Kd.S_alloc | apply Kd.S_drewN | apply Kd.S_drew)); exact Kd.S_mono HO903.out (fun _ hk => trivial)⟩, ⟨bw HB⟩⟩
   case round =>
    clear H'
    (try clear c1); (try clear c2); (try clear p2); (try clear c6); (try clear p6); (try clear c10); (try clear p2); (try clear p6)
    obtain ⟨x8_2, x28_2, rfl, HA, HK2, HO_8, HO_26, HB⟩ := hrel
    cases gk with
    | zero => exact absurd HA.out (by simp [spec_HeldAlong.l0])
    | succ k2 =>
     have H := HA.out
     clear HA
     simp only [spec_HeldAlong.l0] at H
     by_cases c14 : x28_2 < (t901.length : Int)
     rotate_left
     ·rw [if_neg c14] at H
      have c14b0 : decide (x28_2 < (t901.length : Int)) = false := decide_eq_false c14
      clear c14
      simp only [Option.some.injEq, Prod.mk.injEq] at H
      obtain ⟨rfl, rfl⟩ := H
      go_wp2
      go_ret2
      exact ⟨_, by first | rfl | (simp [errW_none, errW_some] <;> rfl) | (simp [*, errW_none, errW_some] <;> rfl), rk HO_8, bw HB⟩
     rw [if_pos c14] at H
     have c14b0 : decide (x28_2 < (t901.length : Int)) = true := decide_eq_true c14
     clear c14
     by_cases c15 : 0 ≤ x28_2
     rotate_left
     ·rw [if_neg c15] at H
      exact absurd H (by simp)
     rw [if_pos c15] at H
     have c15b0 : decide (0 ≤ x28_2) = true := decide_eq_true c15
     clear c15
     by_cases c16 : x28_2 < (t901.length : Int)
     rotate_left
     ·rw [if_neg c16] at H
      exact absurd H (by simp)
     rw [if_pos c16] at H
     have c16b0 : decide (x28_2 < (t901.length : Int)) = true := decide_eq_true c16
     clear c16
     by_cases c17 : 0 ≤ a1
     rotate_left
     ·rw [if_neg c17] at H
      exact absurd H (by simp)
     rw [if_pos c17] at H
     have c17b0 : decide (0 ≤ a1) = true := decide_eq_true c17
     clear c17
     by_cases c18 : a1 < ((rd_L3 t901 x28_2).length : Int)
     rotate_left
     ·rw [if_neg c18] at H
      exact absurd H (by simp)
     rw [if_pos c18] at H
     have c18b0 : decide (a1 < ((rd_L3 t901 x28_2).length : Int)) = true := decide_eq_true c18
     clear c18
     by_cases c19 : x8_2.length < 17592186044416
     rotate_left
     ·rw [if_neg c19] at H
      exact absurd H (by simp)
     rw [if_pos c19] at H
     have LMc19 := Aside0.mk c19
     clear c19
     obtain ⟨y906, hy906⟩ : ∃ y_ : List Int, y_ = (x8_2 ++ [(rd_T30 (rd_L3 t901 x28_2) a1).f2]) := ⟨_, rfl⟩
     replace H : (spec_HeldAlong.l0 k2 a1 y906 t901 (t901.length : Int) (wrap64 (x28_2 + 1))) = some (r1, r2) := by first | (rw [hy906]; with_reducible exact H) | (have H2_ := (Option.bind_some _ _).symm.trans H; rw [hy906]; with_reducible exact H2_) | (have H2_ := (Option.bind_some _ _).symm.trans H; with_reducible exact H2_) | with_reducible exact H | (rw [hy906]; exact H) | exact H
     have Ny906 := Aside0.mk hy906
     clear hy906
     have H' := Aside0.mk H
     clear H
     have p904 : 0 ≤ (x28_2 : Int) := of_decide_eq_true ‹_›
     have q904 : x28_2 < (t901.length : Int) := of_decide_eq_true ‹_›
     obtain ⟨ad904, A904_0, c904_0, e904, hx904_0, hl904_0, hi904_0⟩ := at_L3 (Kd.S_reads' HO_26.out).2.2 x28_2 p904 q904
     cases e904
     obtain ⟨ce904, hce904, hMe904, hcc904⟩ := Kd.S_get HO_26.out [] x28_2 p904 (by first | exact q904 | exact of_decide_eq_true ‹_› | (have e_ := (Kd.S_reads' HO_26.out).1; omega))
     obtain ⟨ve904_0, rfl, ge904_0⟩ := hMe904
     have hv904_0 := hcc904 0 _ rfl
     rw [Nat.add_zero, show ((Kd.slice 30 k30)).sz = 1 from rfl, Nat.mul_one] at hv904_0
     replace hv904_0 := Option.some.inj (hv904_0.symm.trans hx904_0)
     rw [hv904_0] at ge904_0
     have HL904_0 := Aside0.mk (show Kd.R k30 30 _ _ _ _ (rd_L3 t901 x28_2) from ge904_0)
     clear hv904_0 ge904_0
     clear hcc904 hce904
     have HR904_0 := Aside0.mk hi904_0
     have HC904_0 := Aside0.mk hl904_0
     clear hi904_0 hl904_0
     replace p904 := eq_true p904
     replace q904 := eq_true q904
     have p905 : 0 ≤ (a1 : Int) := of_decide_eq_true ‹_›
     have q905 : a1 < ((rd_L3 t901 x28_2).length : Int) := of_decide_eq_true ‹_›
     obtain ⟨ad905, e905, hx905_0, hx905_1, hx905_2⟩ := at_T30 (by repeat (first | (with_reducible exact HR904_0.out) | (with_reducible refine Kd.C_alloc ?_ _) | (with_reducible refine Kd.C_drewN ?_ _) | (with_reducible refine Kd.C_drew ?_) | exact HR904_0.out)) a1 p905 q905
     cases e905
     replace p905 := eq_true p905
     replace q905 := eq_true q905
     go_wp2_with (first | ((with_reducible refine gate_builtin (b := .append) (xs := #[.tmp 32, .tmp 38]) rfl ?_); (try (refine gate_guard (by rfl) ?_; dsimp only)); at_builtin; refine Kd.R_append (Kd.int .i64) (w0 := w) w.heap.size rfl (.tmp 32) (.tmp 38) 33 3 (.int .i64 0) 8 rfl Try.underlying33 info3 rfl (by decide) (by omega) u8 x8_2 ((rd_T30 (rd_L3 t901 x28_2) a1).f2) [.int .i64 ((rd_T30 (rd_L3 t901 x28_2) a1).f2)] (fun _ => True) (fun _ => False) rfl rfl ?aP (fun _ hk => hk.elim) ?aF ?aO ?aB ?aS ?aL ?_; (case aP => exact rfl); (case aB => exact (bw HB)); (case aF => exact (fun _ _ => trivial)); (case aO => exact (rk HO_8)); (case aS => exact (below_size (bw HB))); (case aL => have := LMc19.out; omega); intro v907 w20 ho hb hg hat; rw [← Ny906.out] at ho; have n0_ := Aside0.mk (Kd.S_over' (by (with_reducible repeat (first | apply Kd.S_alloc | apply Kd.S_drewN | apply Kd.S_drew)); exact HO_26.out) (Kd.R_typed (rk HO_8)) (by decide) hg); have n1_ := Aside0.mk (Kd.R_over' HL904_0.out (Kd.R_typed (rk HO_8)) (by decide) hg); have n2_ := Aside0.mk (hb); have n3_ := Aside0.mk (ho); clear HO_26; clear HL904_0; clear HB; clear HO_8; have HO_26 := n0_; have HL904_0 := n1_; have HB := n2_; have HO908 := n3_; clear n0_ n1_ n2_ n3_; clear ho hb hg hat))
     go_roundg k2
     case measure => have := HJ3.out; have := HK2.out; omega
     case rel => exact ⟨(y906), (wrap64 (x28_2 + 1)), (by first | rfl | (simp; done) | (simp [*]; done)), H', ⟨by have := HJ3.out; have := HK2.out; omega⟩, ⟨rk HO908⟩, ⟨by (with_reducible repeat (first | apply Kd.S_alloc | apply Kd.S_drewN | apply Kd.S_drew)); exact HO_26.out⟩, ⟨bw HB⟩⟩
def spec_TickRow.f (k : Nat) (l0 : List (S30)) (a1 : Int) : Option ((List (S30)) × Int × Bool) := (spec_weRow.f k l0).bind fun t909 => (if t909 = true then ((spec_l1In.f a1 0 1000).bind fun t910 => (if t910 = true then ((spec_weTick.f k l0 a1).bind fun bt911 => (some (bt911.1, bt911.2.1, true))) else (some (([] : List (S30)), 0, false)))) else (some (([] : List (S30)), 0, false)))
set_option maxHeartbeats 8000000 in
set_option maxRecDepth 100000 in
theorem spec_TickRow.calls (k : Nat) (A0 : Option Addr) (c0 : Nat) (l0 : List (S30)) (a1 : Int) (r1 : List (S30)) (r2 : Int) (r3 : Bool) (w : World) (hr0 : Kd.C k30 w A0 l0.length l0) (hc0 : l0.length ≤ c0) (h : spec_TickRow.f k l0 a1 = some (r1, r2, r3)) :
  Calls Try.prog 26 #[.slice A0 l0.length c0, .int .i64 a1] w fun e w' => ∃ v0_ : Value, e = .returned (.tuple #[v0_, .int .i64 r2, .bool r3]) ∧ Kd.R k30 30 w' w.heap.size (fun _ => True) v0_ r1 ∧ Below w.heap.size w w' := by
 have HR0 := Aside0.mk hr0
 have HC0 := Aside0.mk hc0
 clear hr0 hc0
 have HB := Aside0.mk (Below.refl w.heap.size w)
 have H : ((spec_weRow.f k l0).bind fun t909 => (if t909 = true then ((spec_l1In.f a1 0 1000).bind fun t910 => (if t910 = true then ((spec_weTick.f k l0 a1).bind fun bt911 => (some (bt911.1, bt911.2.1, true))) else (some (([] : List (S30)), 0, false)))) else (some (([] : List (S30)), 0, false)))) = some (r1, r2, r3) := h
 clear h
 replace H := Option.bind_eq_some_iff.mp H
 obtain ⟨t909, A30, H⟩ := H
 (try dsimp only at H)
 have A3 := Aside0.mk A30
 clear A30
 by_cases c4 : t909 = true
 rotate_left
 ·replace c4 := Bool.eq_false_iff.mpr c4
  subst c4
  have H1 : (some (([] : List (S30)), 0, false)) = some (r1, r2, r3) := by rw [if_neg (show ¬ (false = true) by decide)] at H; exact H
  clear H
  have H := H1
  clear H1
  simp only [Option.some.injEq, Prod.mk.injEq] at H
  obtain ⟨rfl, rfl, rfl⟩ := H
  go_enter Try.func26, Try.ntmps26
  go_wp2_with (first | ((with_reducible refine gate_callee (f := 51) rfl ?_); refine gl 11 Try.func51 #[.slice A0 l0.length c0] ?_; (with_reducible refine (spec_weRow.calls k _ _ l0 false _ ?side1 ?side2 A3.out).mono ?_); (case side1 => repeat (first | exact HR0.out | (with_reducible refine Kd.C_alloc ?_ _) | (with_reducible refine Kd.C_drewN ?_ _) | (with_reducible refine Kd.C_drew ?_))); (case side2 => exact HC0.out); rintro e w11 ⟨rfl, hb⟩; refine ⟨_, rfl, ?_⟩; replace HB := bs HB hb; (try clear hb)))
  go_ret3
  exact ⟨_, by first | rfl | (simp [errW_none, errW_some] <;> rfl) | (simp [*, errW_none, errW_some] <;> rfl), by first | exact Kd.R_nil _ _ _ _ _ | exact Kd.N_nil _ _ _ _ _ | exact Kd.V_nil _ _ _ _ _ | exact Kd.Q_nil _ _ _ _ _ | exact Kd.S_nil _ _ _ _ _, bw HB⟩
 subst c4
 have H1 : ((spec_l1In.f a1 0 1000).bind fun t910 => (if t910 = true then ((spec_weTick.f k l0 a1).bind fun bt911 => (some (bt911.1, bt911.2.1, true))) else (some (([] : List (S30)), 0, false)))) = some (r1, r2, r3) := by rw [if_pos rfl] at H; exact H
 clear H
 have H := H1
 clear H1
 replace H := Option.bind_eq_some_iff.mp H
 obtain ⟨t910, A50, H⟩ := H
 (try dsimp only at H)
 have A5 := Aside0.mk A50
 clear A50
 by_cases c6 : t910 = true
 rotate_left
 ·replace c6 := Bool.eq_false_iff.mpr c6
  subst c6
  have H1 : (some (([] : List (S30)), 0, false)) = some (r1, r2, r3) := by rw [if_neg (show ¬ (false = true) by decide)] at H; exact H
  clear H
  have H := H1
  clear H1
  simp only [Option.some.injEq, Prod.mk.injEq] at H
  obtain ⟨rfl, rfl, rfl⟩ := H
  go_enter Try.func26, Try.ntmps26
  go_wp2_with (first | ((with_reducible refine gate_callee (f := 51) rfl ?_); refine gl 11 Try.func51 #[.slice A0 l0.length c0] ?_; (with_reducible refine (spec_weRow.calls k _ _ l0 true _ ?side1 ?side2 A3.out).mono ?_); (case side1 => repeat (first | exact HR0.out | (with_reducible refine Kd.C_alloc ?_ _) | (with_reducible refine Kd.C_drewN ?_ _) | (with_reducible refine Kd.C_drew ?_))); (case side2 => exact HC0.out); rintro e w10 ⟨rfl, hb⟩; refine ⟨_, rfl, ?_⟩; replace HB := bs HB hb; (try clear hb)) | (go_at_call 60; (with_reducible refine (spec_l1In.calls a1 0 1000 false _ A5.out).mono ?_); rintro e w' ⟨rfl, ⟨nd, rfl⟩⟩))
  go_ret3
  exact ⟨_, by first | rfl | (simp [errW_none, errW_some] <;> rfl) | (simp [*, errW_none, errW_some] <;> rfl), by first | exact Kd.R_nil _ _ _ _ _ | exact Kd.N_nil _ _ _ _ _ | exact Kd.V_nil _ _ _ _ _ | exact Kd.Q_nil _ _ _ _ _ | exact Kd.S_nil _ _ _ _ _, bw HB⟩
 subst c6
 have H1 : ((spec_weTick.f k l0 a1).bind fun bt911 => (some (bt911.1, bt911.2.1, true))) = some (r1, r2, r3) := by rw [if_pos rfl] at H; exact H
 clear H
 have H := H1
 clear H1
 replace H := Option.bind_eq_some_iff.mp H
 obtain ⟨⟨t911, t912, t913⟩, A70, H⟩ := H
 (try dsimp only at H)
 have A7 := Aside0.mk A70
 clear A70
 simp only [Option.some.injEq, Prod.mk.injEq] at H
 obtain ⟨rfl, rfl, rfl⟩ := H
 go_enter Try.func26, Try.ntmps26
 go_wp2_with (first | ((with_reducible refine gate_callee (f := 51) rfl ?_); refine gl 11 Try.func51 #[.slice A0 l0.length c0] ?_; (with_reducible refine (spec_weRow.calls k _ _ l0 true _ ?side1 ?side2 A3.out).mono ?_); (case side1 => repeat (first | exact HR0.out | (with_reducible refine Kd.C_alloc ?_ _) | (with_reducible refine Kd.C_drewN ?_ _) | (with_reducible refine Kd.C_drew ?_))); (case side2 => exact HC0.out); rintro e w8 ⟨rfl, hb⟩; refine ⟨_, rfl, ?_⟩; replace HB := bs HB hb; (try clear hb)) | (go_at_call 60; (with_reducible refine (spec_l1In.calls a1 0 1000 true _ A5.out).mono ?_); rintro e w' ⟨rfl, ⟨nd, rfl⟩⟩) | ((with_reducible refine gate_callee (f := 53) rfl ?_); refine gl 21 Try.func53 #[.slice A0 l0.length c0, .int .i64 a1] ?_; (with_reducible refine (spec_weTick.calls k _ _ l0 a1 t911 t912 t913 _ ?side1 ?side2 A7.out).mono ?_); (case side1 => repeat (first | exact (Kd.C_below HR0.out (bw HB)) | (with_reducible refine Kd.C_alloc ?_ _) | (with_reducible refine Kd.C_drewN ?_ _) | (with_reducible refine Kd.C_drew ?_))); (case side2 => exact HC0.out); rintro e w9 ⟨v914, v916, rfl, ho0, ho1, hb⟩; refine ⟨_, rfl, ?_⟩; have HO915 := lo ho0 HB; have HO917 := lo ho1 HB; replace HB := bs HB hb; (try clear hb); (try clear ho0); (try clear ho1)))
 go_ret3
 exact ⟨_, by first | rfl | (simp [errW_none, errW_some] <;> rfl) | (simp [*, errW_none, errW_some] <;> rfl), rk HO915, bw HB⟩
end Go.Proofs.Ytflbcikfphfkdaa.R
