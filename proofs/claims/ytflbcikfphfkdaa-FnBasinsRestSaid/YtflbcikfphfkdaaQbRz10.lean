-- Functions of the program as plain functions, and that the calls come to them. Written by a program (ownprint.py); nothing here is trusted: Lean checks it.
import Derived.Test.YtflbcikfphfkdaaQbGvCut
import Derived.Test.YtflbcikfphfkdaaQbRx0
import Derived.Test.YtflbcikfphfkdaaQbRx2
import Derived.Test.YtflbcikfphfkdaaQbRx3
import Derived.Test.YtflbcikfphfkdaaQbRx4
import Derived.Test.YtflbcikfphfkdaaQbRx8
import Derived.Test.YtflbcikfphfkdaaQbRx9
import Derived.Test.YtflbcikfphfkdaaQbRx10
namespace Go.Proofs.Ytflbcikfphfkdaa.R
open Go.RowKit Go.Proofs.YtflbcikfphfkdaaW.PrintWords Go.Proofs.YtflbcikfphfkdaaW.PrintLast Go.Proofs.YtflbcikfphfkdaaW.PrintMore Go.Proofs.Ytflbcikfphfkdaa.Sq
attribute [local go_sem] max2_int min2_int max_two min_two max_three min_three max_four min_four   -- for this text's walks alone
set_option linter.unusedVariables false
set_option linter.unusedSimpArgs false
set_option maxHeartbeats 80000000 in
set_option maxRecDepth 100000 in
theorem laws_FnBasinsRest.calls (k : Nat) (A0 : Option Addr) (c0 : Nat) (l0 : List Int) (A1 : Option Addr) (c1 : Nat) (l1 : List Int) (r : Bool) (w : World) (hr0 : Kd.C (Kd.int .u8) w A0 l0.length l0) (hc0 : l0.length ≤ c0) (hr1 : Kd.C (Kd.int .u8) w A1 l1.length l1) (hc1 : l1.length ≤ c1) (hrt : Aside0 (r = true)) (h : laws_FnBasinsRest.f k l0 l1 = some r) :
  Calls Try.prog 3 #[.slice A0 l0.length c0, .slice A1 l1.length c1] w fun e w' => e = .returned (.bool r) ∧ Below w.heap.size w w' := by
 have hu30 := Try.underlying30
 have HR0 := Aside0.mk hr0
 have HC0 := Aside0.mk hc0
 clear hr0 hc0
 have HR1 := Aside0.mk hr1
 have HC1 := Aside0.mk hc1
 clear hr1 hc1
 have HB := Aside0.mk (Below.refl w.heap.size w)
 have H : ((laws_big.f l0 l1).bind fun t918 => (if t918 = true then (some true) else ((spec_DrawTicksToEmpty.f k l0).bind fun t919 => ((impl_TicksToEmpty.f k t919).bind fun bt922 => ((spec_TicksToEmpty.f k t919).bind fun bt924 => ((impl_HeldInRow.f k t919).bind fun bt926 => ((spec_HeldInRow.f k t919).bind fun bt928 => (if (bt922.2 != bt924.2) = true then (laws_FnBasinsRest.j0 k l1 t919 bt922.1 bt922.2 bt926.2 true) else (if bt922.1 = bt924.1 then (if (bt926.2 != bt928.2) = true then (laws_FnBasinsRest.j0 k l1 t919 bt922.1 bt922.2 bt926.2 true) else (if bt926.1 = bt928.1 then ((impl_IsRow.f t919).bind fun t930 => (if (bt926.2 != t930) = true then (laws_FnBasinsRest.j0 k l1 t919 bt922.1 bt922.2 bt926.2 true) else ((impl_IsRow.f t919).bind fun t931 => ((spec_IsRow.f k t919).bind fun t932 => (if (t931 != t932) = true then (laws_FnBasinsRest.j0 k l1 t919 bt922.1 bt922.2 bt926.2 true) else (if bt922.2 = true then (laws_FnBasinsRest.j0 k l1 t919 bt922.1 bt922.2 bt926.2 (!bt926.2)) else (laws_FnBasinsRest.j0 k l1 t919 bt922.1 bt922.2 bt926.2 false))))))) else (laws_FnBasinsRest.j0 k l1 t919 bt922.1 bt922.2 bt926.2 true))) else (laws_FnBasinsRest.j0 k l1 t919 bt922.1 bt922.2 bt926.2 true)))))))))) = some r := h
 clear h
 replace H := Option.bind_eq_some_iff.mp H
 obtain ⟨t918, A30, H⟩ := H
 (try dsimp only at H)
 have A3 := Aside0.mk A30
 clear A30
 by_cases c4 : t918 = true
 ·subst c4
  have H1 : (some true) = some r := by rw [if_pos rfl] at H; exact H
  clear H
  have H := H1
  clear H1
  obtain rfl := Option.some.inj H
  go_enter Try.func3, Try.ntmps3
  go_wp2_with (first | ((with_reducible refine gate_callee (f := 5) rfl ?_); refine gl 62 Try.func5 #[.slice A0 l0.length c0, .slice A1 l1.length c1] ?_; (with_reducible refine (laws_big.calls _ _ l0 _ _ l1 true _ ?side1 ?side2 ?side3 ?side4 A3.out).mono ?_); (case side1 => repeat (first | exact HR0.out | (with_reducible refine Kd.C_alloc ?_ _) | (with_reducible refine Kd.C_drewN ?_ _) | (with_reducible refine Kd.C_drew ?_))); (case side2 => exact HC0.out); (case side3 => repeat (first | exact HR1.out | (with_reducible refine Kd.C_alloc ?_ _) | (with_reducible refine Kd.C_drewN ?_ _) | (with_reducible refine Kd.C_drew ?_))); (case side4 => exact HC1.out); rintro e w' ⟨rfl, ⟨nd, rfl⟩⟩; refine ⟨_, rfl, ?_⟩))
  go_ret
  exact ⟨by first | rfl | (simp [errW_none, errW_some] <;> rfl) | (simp [*, errW_none, errW_some] <;> rfl), bw HB⟩
 replace c4 := Bool.eq_false_iff.mpr c4
 subst c4
 have H1 : ((spec_DrawTicksToEmpty.f k l0).bind fun t919 => ((impl_TicksToEmpty.f k t919).bind fun bt922 => ((spec_TicksToEmpty.f k t919).bind fun bt924 => ((impl_HeldInRow.f k t919).bind fun bt926 => ((spec_HeldInRow.f k t919).bind fun bt928 => (if (bt922.2 != bt924.2) = true then (laws_FnBasinsRest.j0 k l1 t919 bt922.1 bt922.2 bt926.2 true) else (if bt922.1 = bt924.1 then (if (bt926.2 != bt928.2) = true then (laws_FnBasinsRest.j0 k l1 t919 bt922.1 bt922.2 bt926.2 true) else (if bt926.1 = bt928.1 then ((impl_IsRow.f t919).bind fun t930 => (if (bt926.2 != t930) = true then (laws_FnBasinsRest.j0 k l1 t919 bt922.1 bt922.2 bt926.2 true) else ((impl_IsRow.f t919).bind fun t931 => ((spec_IsRow.f k t919).bind fun t932 => (if (t931 != t932) = true then (laws_FnBasinsRest.j0 k l1 t919 bt922.1 bt922.2 bt926.2 true) else (if bt922.2 = true then (laws_FnBasinsRest.j0 k l1 t919 bt922.1 bt922.2 bt926.2 (!bt926.2)) else (laws_FnBasinsRest.j0 k l1 t919 bt922.1 bt922.2 bt926.2 false))))))) else (laws_FnBasinsRest.j0 k l1 t919 bt922.1 bt922.2 bt926.2 true))) else (laws_FnBasinsRest.j0 k l1 t919 bt922.1 bt922.2 bt926.2 true)))))))) = some r := by rw [if_neg (show ¬ (false = true) by decide)] at H; exact H
 clear H
 have H := H1
 clear H1
 replace H := Option.bind_eq_some_iff.mp H
 obtain ⟨t919, A50, H⟩ := H
 (try dsimp only at H)
 have A5 := Aside0.mk A50
 clear A50
 replace H := Option.bind_eq_some_iff.mp H
 obtain ⟨⟨t922, t923⟩, A60, H⟩ := H
 (try dsimp only at H)
 have A6 := Aside0.mk A60
 clear A60
 replace H := Option.bind_eq_some_iff.mp H
 obtain ⟨⟨t924, t925⟩, A70, H⟩ := H
 (try dsimp only at H)
 have A7 := Aside0.mk A70
 clear A70
 replace H := Option.bind_eq_some_iff.mp H
 obtain ⟨⟨t926, t927⟩, A80, H⟩ := H
 (try dsimp only at H)
 have A8 := Aside0.mk A80
 clear A80
 replace H := Option.bind_eq_some_iff.mp H
 obtain ⟨⟨t928, t929⟩, A90, H⟩ := H
 (try dsimp only at H)
 have A9 := Aside0.mk A90
 clear A90
 have HC10 := Aside0.mk H
 clear H
 go_enter Try.func3, Try.ntmps3
 go_upto_region 8 with (first | ((with_reducible refine gate_callee (f := 5) rfl ?_); refine gl 62 Try.func5 #[.slice A0 l0.length c0, .slice A1 l1.length c1] ?_; (with_reducible refine (laws_big.calls _ _ l0 _ _ l1 false _ ?side1 ?side2 ?side3 ?side4 A3.out).mono ?_); (case side1 => repeat (first | exact HR0.out | (with_reducible refine Kd.C_alloc ?_ _) | (with_reducible refine Kd.C_drewN ?_ _) | (with_reducible refine Kd.C_drew ?_))); (case side2 => exact HC0.out); (case side3 => repeat (first | exact HR1.out | (with_reducible refine Kd.C_alloc ?_ _) | (with_reducible refine Kd.C_drewN ?_ _) | (with_reducible refine Kd.C_drew ?_))); (case side4 => exact HC1.out); rintro e w' ⟨rfl, ⟨nd, rfl⟩⟩; refine ⟨_, rfl, ?_⟩) | ((with_reducible refine gate_callee (f := 6) rfl ?_); refine gl 64 Try.func6 #[.slice A0 l0.length c0] ?_; (with_reducible refine (spec_DrawTicksToEmpty.calls k _ _ l0 t919 _ ?side1 ?side2 A5.out).mono ?_); (case side1 => repeat (first | exact HR0.out | (with_reducible refine Kd.C_alloc ?_ _) | (with_reducible refine Kd.C_drewN ?_ _) | (with_reducible refine Kd.C_drew ?_))); (case side2 => exact HC0.out); rintro e w11 ⟨v920, rfl, ho0, hb⟩; refine ⟨_, rfl, ?_⟩; have HO921 := lo ho0 HB; replace HB := bs HB hb; (try clear hb); (try clear ho0); obtain ⟨Ao12, co12, eo12⟩ := Kd.R_slice HO921.out; subst eo12) | ((with_reducible refine gate_callee (f := 7) rfl ?_); refine gl 67 Try.func7 #[.slice Ao12 t919.length co12] ?_; (with_reducible refine (impl_TicksToEmpty.calls k (fun k_ => some k_ = (.slice Ao12 t919.length co12 : Value).ownBlock) _ _ t919 t922 t923 _ ?side1 A6.out).mono ?_); (case side1 => exact Kd.R_V (Kd.R_tight rfl (HO921.out))); rintro e w13 ⟨rfl, hb⟩; refine ⟨_, rfl, ?_⟩; replace HO921 := rb HO921 hb; replace HB := bs HB hb; (try clear hb)) | ((with_reducible refine gate_callee (f := 8) rfl ?_); refine gl 72 Try.func8 #[.slice Ao12 t919.length co12] ?_; (with_reducible refine (spec_TicksToEmpty.calls k (fun k_ => some k_ = (.slice Ao12 t919.length co12 : Value).ownBlock) _ _ t919 t924 t925 _ ?side1 A7.out).mono ?_); (case side1 => exact Kd.R_V (Kd.R_tight rfl (HO921.out))); rintro e w14 ⟨rfl, hb⟩; refine ⟨_, rfl, ?_⟩; replace HO921 := rb HO921 hb; replace HB := bs HB hb; (try clear hb)) | ((with_reducible refine gate_callee (f := 9) rfl ?_); refine gl 77 Try.func9 #[.slice Ao12 t919.length co12] ?_; (with_reducible refine (impl_HeldInRow.calls k _ _ t919 t926 t927 _ ?side1 ?side2 A8.out).mono ?_); (case side1 => exact cr HO921); (case side2 => exact (Kd.R_reads' HO921.out).2.1); rintro e w15 ⟨rfl, hb⟩; refine ⟨_, rfl, ?_⟩; replace HO921 := rb HO921 hb; replace HB := bs HB hb; (try clear hb)) | ((with_reducible refine gate_callee (f := 10) rfl ?_); refine gl 82 Try.func10 #[.slice Ao12 t919.length co12] ?_; (with_reducible refine (spec_HeldInRow.calls k _ _ t919 t928 t929 _ ?side1 ?side2 A9.out).mono ?_); (case side1 => exact cr HO921); (case side2 => exact (Kd.R_reads' HO921.out).2.1); rintro e w16 ⟨rfl, hb⟩; refine ⟨_, rfl, ?_⟩; replace HO921 := rb HO921 hb; replace HB := bs HB hb; (try clear hb)))
 (try simp only [Act.put, List.setIfInBounds_toArray, List.set_cons_zero, List.set_cons_succ])
 refine cutF (rl [60, 64, 3, 101, 3, 152, 3, 51] false) (fun u_ wc => ∃ (kq : Nat) (x122_9 : Bool), (u_ 122) = .bool x122_9 ∧ Aside0 (laws_FnBasinsRest.j0 kq l1 t919 t922 t923 t927 x122_9 = some r) ∧ Aside0 (kq ≤ k) ∧ Aside0 (Kd.R k30 30 wc w.heap.size (fun _ => True) (.slice Ao12 t919.length co12) t919) ∧ Aside0 (Below w.heap.size w wc)) ?first1 ?rest1
 case first1 =>
  as_aux_lemma =>
   intro J_ K_ hJ_ hK_
   have H := HC10.out
   clear HC10
   by_cases c17 : (t923 != t925) = true
   ·rw [if_pos c17] at H
    have c17b0 : (t923 != t925) = true := c17
    (try (have c17b1 : decide (t923 = t925) = false := by simpa using c17))
    (try (have c17b2 : (t923 == t925) = false := by simpa using c17))
    (try (have c17b3 : ¬ (t923 = t925) := by simpa using c17))
    clear c17
    (first | rw [c17b0] | (simp only [i64_w, i32_w]; rw [c17b0]) | skip)
    exact absurd H (by rw [hrt.out]; cases k <;> simp [laws_FnBasinsRest.j0])
   rw [if_neg c17] at H
   have c17b0 : (t923 != t925) = false := by simpa using c17
   (try (have c17b1 : decide (t923 = t925) = true := by simpa using c17))
   (try (have c17b2 : (t923 == t925) = true := by simpa using c17))
   clear c17
   (first | rw [c17b0] | (simp only [i64_w, i32_w]; rw [c17b0]) | skip)
   by_cases c18 : t922 = t924
   rotate_left
   ·rw [if_neg c18] at H
    have c18b0 : (t922 == t924) = false := beq_eq_false_iff_ne.mpr c18
    have c18b1 : (t922 != t924) = true := bne_iff_ne.mpr c18
    exact absurd H (by rw [hrt.out]; cases k <;> simp [laws_FnBasinsRest.j0])
   rw [if_pos c18] at H
   have c18b0 : (t922 == t924) = true := beq_iff_eq.mpr c18
   have c18b1 : (t922 != t924) = false := bne_eq_false_iff_eq.mpr c18
   clear c18
   by_cases c19 : (t927 != t929) = true
   ·rw [if_pos c19] at H
    have c19b0 : (t927 != t929) = true := c19
    (try (have c19b1 : decide (t927 = t929) = false := by simpa using c19))
    (try (have c19b2 : (t927 == t929) = false := by simpa using c19))
    (try (have c19b3 : ¬ (t927 = t929) := by simpa using c19))
    clear c19
    exact absurd H (by rw [hrt.out]; cases k <;> simp [laws_FnBasinsRest.j0])
   rw [if_neg c19] at H
   have c19b0 : (t927 != t929) = false := by simpa using c19
   (try (have c19b1 : decide (t927 = t929) = true := by simpa using c19))
   (try (have c19b2 : (t927 == t929) = true := by simpa using c19))
   clear c19
   by_cases c20 : t926 = t928
   rotate_left
   ·rw [if_neg c20] at H
    have c20b0 : (t926 == t928) = false := beq_eq_false_iff_ne.mpr c20
    have c20b1 : (t926 != t928) = true := bne_iff_ne.mpr c20
    exact absurd H (by rw [hrt.out]; cases k <;> simp [laws_FnBasinsRest.j0])
   rw [if_pos c20] at H
   have c20b0 : (t926 == t928) = true := beq_iff_eq.mpr c20
   have c20b1 : (t926 != t928) = false := bne_eq_false_iff_eq.mpr c20
   clear c20
   replace H := Option.bind_eq_some_iff.mp H
   obtain ⟨t930, A210, H⟩ := H
   (try dsimp only at H)
   have A21 := Aside0.mk A210
   clear A210
   by_cases c22 : (t927 != t930) = true
   ·rw [if_pos c22] at H
    have c22b0 : (t927 != t930) = true := c22
    (try (have c22b1 : decide (t927 = t930) = false := by simpa using c22))
    (try (have c22b2 : (t927 == t930) = false := by simpa using c22))
    (try (have c22b3 : ¬ (t927 = t930) := by simpa using c22))
    clear c22
    exact absurd H (by rw [hrt.out]; cases k <;> simp [laws_FnBasinsRest.j0])
   rw [if_neg c22] at H
   have c22b0 : (t927 != t930) = false := by simpa using c22
   (try (have c22b1 : decide (t927 = t930) = true := by simpa using c22))
   (try (have c22b2 : (t927 == t930) = true := by simpa using c22))
   clear c22
   replace H := Option.bind_eq_some_iff.mp H
   obtain ⟨t931, A230, H⟩ := H
   obtain rfl : t930 = t931 := Option.some.inj (A21.out.symm.trans A230)
   (try dsimp only at H)
   have A23 := Aside0.mk A230
   clear A230
   replace H := Option.bind_eq_some_iff.mp H
   obtain ⟨t932, A240, H⟩ := H
   (try dsimp only at H)
   have A24 := Aside0.mk A240
   clear A240
   by_cases c25 : (t930 != t932) = true
   ·rw [if_pos c25] at H
    have c25b0 : (t930 != t932) = true := c25
    (try (have c25b1 : decide (t930 = t932) = false := by simpa using c25))
    (try (have c25b2 : (t930 == t932) = false := by simpa using c25))
    (try (have c25b3 : ¬ (t930 = t932) := by simpa using c25))
    clear c25
    exact absurd H (by rw [hrt.out]; cases k <;> simp [laws_FnBasinsRest.j0])
   rw [if_neg c25] at H
   have c25b0 : (t930 != t932) = false := by simpa using c25
   (try (have c25b1 : decide (t930 = t932) = true := by simpa using c25))
   (try (have c25b2 : (t930 == t932) = true := by simpa using c25))
   clear c25
   by_cases c26 : t923 = true
   ·subst c26
    have H1 : (laws_FnBasinsRest.j0 k l1 t919 t922 true t927 (!t927)) = some r := by rw [if_pos rfl] at H; exact H
    clear H
    have H := H1
    clear H1
    have H' := Aside0.mk H
    clear H
    go_wp2_with (first | (go_at_call 11; (with_reducible refine (impl_IsRow.calls _ _ t919 t930 _ ?side1 ?side2 A21.out).mono ?_); (case side1 => exact cr HO921); (case side2 => exact (Kd.R_reads' HO921.out).2.1); rintro e w27 ⟨rfl, hb⟩; replace HO921 := rb HO921 hb; replace HB := bs HB hb; (try clear hb)) | (go_at_call 11; (with_reducible refine (impl_IsRow.calls _ _ t919 t930 _ ?side1 ?side2 A23.out).mono ?_); (case side1 => exact cr HO921); (case side2 => exact (Kd.R_reads' HO921.out).2.1); rintro e w28 ⟨rfl, hb⟩; replace HO921 := rb HO921 hb; replace HB := bs HB hb; (try clear hb)) | (go_at_call 12; (with_reducible refine (spec_IsRow.calls k _ _ t919 t932 _ ?side1 ?side2 A24.out).mono ?_); (case side1 => exact cr HO921); (case side2 => exact (Kd.R_reads' HO921.out).2.1); rintro e w29 ⟨rfl, hb⟩; replace HO921 := rb HO921 hb; replace HB := bs HB hb; (try clear hb)))
    (refine Met.intro ?_; go_step; refine Cut_mk (by kernel_rfl) ?rel2)
    case rel2 => exact ⟨_, (!t927), (by first | rfl | (simp; done) | (simp [*]; done)), H', ⟨by first | exact Nat.le_refl _ | (omega)⟩, ⟨rk HO921⟩, ⟨bw HB⟩⟩
   replace c26 := Bool.eq_false_iff.mpr c26
   subst c26
   have H1 : (laws_FnBasinsRest.j0 k l1 t919 t922 false t927 false) = some r := by rw [if_neg (show ¬ (false = true) by decide)] at H; exact H
   clear H
   have H := H1
   clear H1
   have H' := Aside0.mk H
   clear H
   go_wp2_with (first | (go_at_call 11; (with_reducible refine (impl_IsRow.calls _ _ t919 t930 _ ?side1 ?side2 A21.out).mono ?_); (case side1 => exact cr HO921); (case side2 => exact (Kd.R_reads' HO921.out).2.1); rintro e w30 ⟨rfl, hb⟩; replace HO921 := rb HO921 hb; replace HB := bs HB hb; (try clear hb)) | (go_at_call 11; (with_reducible refine (impl_IsRow.calls _ _ t919 t930 _ ?side1 ?side2 A23.out).mono ?_); (case side1 => exact cr HO921); (case side2 => exact (Kd.R_reads' HO921.out).2.1); rintro e w31 ⟨rfl, hb⟩; replace HO921 := rb HO921 hb; replace HB := bs HB hb; (try clear hb)) | (go_at_call 12; (with_reducible refine (spec_IsRow.calls k _ _ t919 t932 _ ?side1 ?side2 A24.out).mono ?_); (case side1 => exact cr HO921); (case side2 => exact (Kd.R_reads' HO921.out).2.1); rintro e w32 ⟨rfl, hb⟩; replace HO921 := rb HO921 hb; replace HB := bs HB hb; (try clear hb)))
   (refine Met.intro ?_; go_step; refine Cut_mk (by kernel_rfl) ?rel3)
   case rel3 => exact ⟨_, (false), (by first | rfl | (simp; done) | (simp [*]; done)), H', ⟨by first | exact Nat.le_refl _ | (omega)⟩, ⟨rk HO921⟩, ⟨bw HB⟩⟩
 case rest1 =>
   intro u_ wc hcut l_ hl_; (simp only [rl, List.reduceReplicate, List.cons_append, List.nil_append, List.append_nil, Bool.not_true, Bool.not_false, fu, Nat.reduceAdd] at hl_); subst hl_; generalize u_ 122 = v122 at hcut ⊢
   clear HC10
   (try clear c1); (try clear c4)
   obtain ⟨kq, x122_9, rfl, HA, HJ9, HO_5, HB⟩ := hcut
   cases kq with
   | zero => exact absurd HA.out (by simp [laws_FnBasinsRest.j0])
   | succ kj9 =>
    have H := HA.out
    clear HA
    simp only [laws_FnBasinsRest.j0] at H
    by_cases c33 : x122_9 = true
    ·subst c33
     have H1 : (some false) = some r := by rw [if_pos rfl] at H; exact H
     clear H
     have H := H1
     clear H1
     exact absurd ((Option.some.inj H).trans hrt.out) (by decide)
    replace c33 := Bool.eq_false_iff.mpr c33
    subst c33
    have H1 : (if t927 = true then (laws_FnBasinsRest.l0 kj9 l1 t919 t922 t923 false false t919 (t919.length : Int) 0) else (laws_FnBasinsRest.j2 kj9 l1 t919 t922 t923)) = some r := by rw [if_neg (show ¬ (false = true) by decide)] at H; exact H
    clear H
    have H := H1
    clear H1
    have HC34 := Aside0.mk H
    clear H
    go_upto_if 123 with (fail)
    refine cutF (rl [4, 1, 9, 2, 1, 1, 42, 168, 3, 152, 3, 51] false) (fun u_ wc => ∃ (kq : Nat), Aside0 (laws_FnBasinsRest.j2 kq l1 t919 t922 t923 = some r) ∧ Aside0 (kq ≤ kj9) ∧ Aside0 (Kd.R k30 30 wc w.heap.size (fun _ => True) (.slice Ao12 t919.length co12) t919) ∧ Aside0 (Below w.heap.size w wc)) ?first4 ?rest4
    case first4 =>
     as_aux_lemma =>
      intro J_ K_ hJ_ hK_
      have H := HC34.out
      clear HC34
      by_cases c35 : t927 = true
      rotate_left
      ·replace c35 := Bool.eq_false_iff.mpr c35
       subst c35
       have H1 : (laws_FnBasinsRest.j2 kj9 l1 t919 t922 t923) = some r := by rw [if_neg (show ¬ (false = true) by decide)] at H; exact H
       clear H
       have H := H1
       clear H1
       have H' := Aside0.mk H
       clear H
       go_wp2
       (refine Met.intro ?_; go_step; refine Cut_mk (by kernel_rfl) ?rel5)
       case rel5 => exact ⟨_, H', ⟨by first | exact Nat.le_refl _ | exact Nat.le_of_succ_le HJ9.out | (have := HJ9.out; omega)⟩, ⟨rk HO_5⟩, ⟨bw HB⟩⟩
      subst c35
      have H1 : (laws_FnBasinsRest.l0 kj9 l1 t919 t922 t923 false false t919 (t919.length : Int) 0) = some r := by rw [if_pos rfl] at H; exact H
      clear H
      have H := H1
      clear H1
      have H' := Aside0.mk H
      clear H
      go_wp2
      try simp only [Act.put, List.setIfInBounds_toArray, List.set_cons_zero, List.set_cons_succ]
      refine loopF (rl [14, 2, 1, 1, 108, 20, 291] false) kj9 (fun kq u_ w' => ∃ (x14_2 : Bool) (x15_2 : Bool) (x126_2 : Int), (u_ 14) = .bool x14_2 ∧ (u_ 15) = .bool x15_2 ∧ (u_ 126) = .int .i64 x126_2 ∧ Aside0 (laws_FnBasinsRest.l0 kq l1 t919 t922 t923 x14_2 x15_2 t919 (t919.length : Int) x126_2 = some r) ∧ Aside0 (kq ≤ kj9) ∧ Aside0 (Kd.R k30 30 w' w.heap.size (fun _ => True) (.slice Ao12 t919.length co12) t919) ∧ Aside0 (Kd.R k30 30 w' w.heap.size (fun _ => True) (.slice Ao12 t919.length co12) t919) ∧ Aside0 (Below w.heap.size w w')) ?atStart6 ?round6
      case atStart6 => exact ⟨(false), (false), (0), (by first | rfl | (simp; done) | (simp [*]; done)), (by first | rfl | (simp; done) | (simp [*]; done)), (by first | rfl | (simp; done) | (simp [*]; done)), H', ⟨Nat.le_refl _⟩, ⟨rk HO_5⟩, ⟨rk HO_5⟩, ⟨bw HB⟩⟩
      case round6 =>
       intro gk u_ wr hrel l_ hl_; (simp only [rl, List.reduceReplicate, List.cons_append, List.nil_append, List.append_nil, Bool.not_true, Bool.not_false, fu, Nat.reduceAdd] at hl_); subst hl_; generalize u_ 14 = v14 at hrel ⊢; generalize u_ 15 = v15 at hrel ⊢; generalize u_ 126 = v126 at hrel ⊢
       intro J_ K_ hJ_ hK_
       clear H'
       (try clear c1); (try clear c4); (try clear c33); (try clear c35)
       obtain ⟨x14_2, x15_2, x126_2, rfl, rfl, rfl, HA, HK2, HO_5, HO_124, HB⟩ := hrel
       cases gk with
       | zero => exact absurd HA.out (by simp [laws_FnBasinsRest.l0])
       | succ k2 =>
        have H := HA.out
        clear HA
        simp only [laws_FnBasinsRest.l0] at H
        by_cases c36 : x126_2 < (t919.length : Int)
        rotate_left
        ·rw [if_neg c36] at H
         have c36b0 : decide (x126_2 < (t919.length : Int)) = false := decide_eq_false c36
         clear c36
         (first | rw [c36b0] | (simp only [i64_w, i32_w]; rw [c36b0]) | skip)
         by_cases c53 : (t923 == x14_2) = true
         ·rw [if_pos c53] at H
          have c53b0 : (t923 == x14_2) = true := c53
          (try (have c53b1 : decide (t923 = x14_2) = true := by simpa using c53))
          (try (have c53b2 : (t923 == x14_2) = true := by simpa using c53))
          clear c53
          exact absurd ((Option.some.inj H).trans hrt.out) (by decide)
         rw [if_neg c53] at H
         have c53b0 : (t923 == x14_2) = false := by simpa using c53
         (try (have c53b1 : decide (t923 = x14_2) = false := by simpa using c53))
         (try (have c53b2 : (t923 == x14_2) = false := by simpa using c53))
         (try (have c53b3 : ¬ (t923 = x14_2) := by simpa using c53))
         clear c53
         have H' := Aside0.mk H
         clear H
         go_wp2
         (refine Met.intro ?_; go_step; refine Cut_mk (by kernel_rfl) ?rel7)
         case rel7 => exact ⟨_, H', ⟨by first | exact Nat.le_refl _ | exact Nat.le_of_succ_le HK2.out | exact Nat.le_of_succ_le (Nat.le_trans HK2.out (Nat.le_of_succ_le HJ9.out)) | exact Nat.le_of_succ_le HJ9.out | (have := HJ9.out; have := HK2.out; omega)⟩, ⟨rk HO_5⟩, ⟨bw HB⟩⟩
        rw [if_pos c36] at H
        have c36b0 : decide (x126_2 < (t919.length : Int)) = true := decide_eq_true c36
        clear c36
        (first | rw [c36b0] | (simp only [i64_w, i32_w]; rw [c36b0]) | skip)
        by_cases c37 : 0 ≤ x126_2
        rotate_left
        ·rw [if_neg c37] at H
         exact absurd H (by simp)
        rw [if_pos c37] at H
        have c37b0 : decide (0 ≤ x126_2) = true := decide_eq_true c37
        clear c37
        by_cases c38 : x126_2 < (t919.length : Int)
        rotate_left
        ·rw [if_neg c38] at H
         exact absurd H (by simp)
        rw [if_pos c38] at H
        have c38b0 : decide (x126_2 < (t919.length : Int)) = true := decide_eq_true c38
        clear c38
        by_cases c39 : x15_2 = true
        ·subst c39
         have H1 : (if x14_2 = true then (laws_FnBasinsRest.l0 k2 l1 t919 t922 t923 true true t919 (t919.length : Int) (wrap64 (x126_2 + 1))) else (laws_FnBasinsRest.l0 k2 l1 t919 t922 t923 (((rd_T30 t919 x126_2).f1) == 0) true t919 (t919.length : Int) (wrap64 (x126_2 + 1)))) = some r := by rw [if_pos rfl] at H; exact H
         clear H
         have H := H1
         clear H1
         by_cases c40 : x14_2 = true
         ·subst c40
          have H1 : (laws_FnBasinsRest.l0 k2 l1 t919 t922 t923 true true t919 (t919.length : Int) (wrap64 (x126_2 + 1))) = some r := by rw [if_pos rfl] at H; exact H
          clear H
          have H := H1
          clear H1
          have H' := Aside0.mk H
          clear H
          have p933 : 0 ≤ (x126_2 : Int) := of_decide_eq_true ‹_›
          have q933 : x126_2 < (t919.length : Int) := of_decide_eq_true ‹_›
          obtain ⟨ad933, e933, hx933_0, hx933_1, hx933_2⟩ := at_T30 (Kd.R_reads' HO_124.out).2.2 x126_2 p933 q933
          cases e933
          replace p933 := eq_true p933
          replace q933 := eq_true q933
          go_wp2_with (first | ((with_reducible refine gate_dst (N := 17) rfl ?_); refine bx 17 #[.int .i64 0, .int .i64 0, .int .i64 0] 30 ?_; intro gb934 hg w41 hbox hb; replace HO_5 := Aside0.mk (Kd.R_below (Kd.R_elderB (rk HO_5) gb934 (Nat.le_of_eq hg.symm)) hb); replace HO_124 := Aside0.mk (Kd.R_below (Kd.R_elderB (rk HO_124) gb934 (Nat.le_of_eq hg.symm)) hb); have BK934 := Aside0.mk (hbox); have GW934 := ge HB hg; have GE934 := ge HB hg; replace HB := bs HB hb; clear hb hbox hg; have hcz42_0 := bc0 BK934; have hcz42_1 := bc1 BK934; have hcz42_2 := bc2 BK934; have hfz42_0 := blk_frozen BK934.out 0; have hfz42_1 := blk_frozen BK934.out 1; have hfz42_2 := blk_frozen BK934.out 2))
          (refine Handed.intro k2 ?measure8 ?_; rotate_left; go_step; refine LoopI_mk (by kernel_rfl) ?rel8)
          case measure8 => have := HJ9.out; have := HK2.out; omega
          case rel8 => exact ⟨(true), (true), (wrap64 (x126_2 + 1)), (by first | rfl | (simp; done) | (simp [*]; done)), (by first | rfl | (simp; done) | (simp [*]; done)), (by first | rfl | (simp; done) | (simp [*]; done)), H', ⟨by have := HJ9.out; have := HK2.out; omega⟩, ⟨by exact Kd.R_mono (Kd.R_far (p := ⟨gb934, 2, none⟩) (Kd.R_far (p := ⟨gb934, 1, none⟩) (Kd.R_far (p := ⟨gb934, 0, none⟩) (Kd.R_mono HO_5.out (fun k_ hk => (⟨hk, hk.2⟩ : _ ∧ k_ ≠ gb934))) (fun _ hk => hk.2) (.int .i64 ((rd_T30 t919 x126_2).f0))) (fun _ hk => hk.2) (.int .i64 ((rd_T30 t919 x126_2).f1))) (fun _ hk => hk.2) (.int .i64 ((rd_T30 t919 x126_2).f2))) (fun _ hk => trivial)⟩, ⟨by exact Kd.R_mono (Kd.R_far (p := ⟨gb934, 2, none⟩) (Kd.R_far (p := ⟨gb934, 1, none⟩) (Kd.R_far (p := ⟨gb934, 0, none⟩) (Kd.R_mono HO_124.out (fun k_ hk => (⟨hk, hk.2⟩ : _ ∧ k_ ≠ gb934))) (fun _ hk => hk.2) (.int .i64 ((rd_T30 t919 x126_2).f0))) (fun _ hk => hk.2) (.int .i64 ((rd_T30 t919 x126_2).f1))) (fun _ hk => hk.2) (.int .i64 ((rd_T30 t919 x126_2).f2))) (fun _ hk => trivial)⟩, ⟨bw HB⟩⟩
         replace c40 := Bool.eq_false_iff.mpr c40
         subst c40
         have H1 : (laws_FnBasinsRest.l0 k2 l1 t919 t922 t923 (((rd_T30 t919 x126_2).f1) == 0) true t919 (t919.length : Int) (wrap64 (x126_2 + 1))) = some r := by rw [if_neg (show ¬ (false = true) by decide)] at H; exact H
         clear H
         have H := H1
         clear H1
         have H' := Aside0.mk H
         clear H
         have p933 : 0 ≤ (x126_2 : Int) := of_decide_eq_true ‹_›
         have q933 : x126_2 < (t919.length : Int) := of_decide_eq_true ‹_›
         obtain ⟨ad933, e933, hx933_0, hx933_1, hx933_2⟩ := at_T30 (Kd.R_reads' HO_124.out).2.2 x126_2 p933 q933
         cases e933
         replace p933 := eq_true p933
         replace q933 := eq_true q933
         go_wp2_with (first | ((with_reducible refine gate_dst (N := 17) rfl ?_); refine bx 17 #[.int .i64 0, .int .i64 0, .int .i64 0] 30 ?_; intro gb934 hg w43 hbox hb; replace HO_5 := Aside0.mk (Kd.R_below (Kd.R_elderB (rk HO_5) gb934 (Nat.le_of_eq hg.symm)) hb); replace HO_124 := Aside0.mk (Kd.R_below (Kd.R_elderB (rk HO_124) gb934 (Nat.le_of_eq hg.symm)) hb); have BK934 := Aside0.mk (hbox); have GW934 := ge HB hg; have GE934 := ge HB hg; replace HB := bs HB hb; clear hb hbox hg; have hcz44_0 := bc0 BK934; have hcz44_1 := bc1 BK934; have hcz44_2 := bc2 BK934; have hfz44_0 := blk_frozen BK934.out 0; have hfz44_1 := blk_frozen BK934.out 1; have hfz44_2 := blk_frozen BK934.out 2))
         (refine Handed.intro k2 ?measure9 ?_; rotate_left; go_step; refine LoopI_mk (by kernel_rfl) ?rel9)
         case measure9 => have := HJ9.out; have := HK2.out; omega
         case rel9 => exact ⟨((((rd_T30 t919 x126_2).f1) == 0)), (true), (wrap64 (x126_2 + 1)), (by first | rfl | (simp; done) | (simp [*]; done)), (by first | rfl | (simp; done) | (simp [*]; done)), (by first | rfl | (simp; done) | (simp [*]; done)), H', ⟨by have := HJ9.out; have := HK2.out; omega⟩, ⟨by exact Kd.R_mono (Kd.R_far (p := ⟨gb934, 2, none⟩) (Kd.R_far (p := ⟨gb934, 1, none⟩) (Kd.R_far (p := ⟨gb934, 0, none⟩) (Kd.R_mono HO_5.out (fun k_ hk => (⟨hk, hk.2⟩ : _ ∧ k_ ≠ gb934))) (fun _ hk => hk.2) (.int .i64 ((rd_T30 t919 x126_2).f0))) (fun _ hk => hk.2) (.int .i64 ((rd_T30 t919 x126_2).f1))) (fun _ hk => hk.2) (.int .i64 ((rd_T30 t919 x126_2).f2))) (fun _ hk => trivial)⟩, ⟨by exact Kd.R_mono (Kd.R_far (p := ⟨gb934, 2, none⟩) (Kd.R_far (p := ⟨gb934, 1, none⟩) (Kd.R_far (p := ⟨gb934, 0, none⟩) (Kd.R_mono HO_124.out (fun k_ hk => (⟨hk, hk.2⟩ : _ ∧ k_ ≠ gb934))) (fun _ hk => hk.2) (.int .i64 ((rd_T30 t919 x126_2).f0))) (fun _ hk => hk.2) (.int .i64 ((rd_T30 t919 x126_2).f1))) (fun _ hk => hk.2) (.int .i64 ((rd_T30 t919 x126_2).f2))) (fun _ hk => trivial)⟩, ⟨bw HB⟩⟩
        replace c39 := Bool.eq_false_iff.mpr c39
        subst c39
        have H1 : (if x14_2 = true then (laws_FnBasinsRest.l0 k2 l1 t919 t922 t923 true (decide (((rd_T30 t919 x126_2).f2) > 0)) t919 (t919.length : Int) (wrap64 (x126_2 + 1))) else (if ((rd_T30 t919 x126_2).f2) > 0 then (laws_FnBasinsRest.l0 k2 l1 t919 t922 t923 (((rd_T30 t919 x126_2).f1) == 0) (decide (((rd_T30 t919 x126_2).f2) > 0)) t919 (t919.length : Int) (wrap64 (x126_2 + 1))) else (laws_FnBasinsRest.l0 k2 l1 t919 t922 t923 false (decide (((rd_T30 t919 x126_2).f2) > 0)) t919 (t919.length : Int) (wrap64 (x126_2 + 1))))) = some r := by rw [if_neg (show ¬ (false = true) by decide)] at H; exact H
        clear H
        have H := H1
        clear H1
        by_cases c45 : x14_2 = true
        ·subst c45
         have H1 : (laws_FnBasinsRest.l0 k2 l1 t919 t922 t923 true (decide (((rd_T30 t919 x126_2).f2) > 0)) t919 (t919.length : Int) (wrap64 (x126_2 + 1))) = some r := by rw [if_pos rfl] at H; exact H
         clear H
         have H := H1
         clear H1
         have H' := Aside0.mk H
         clear H
         have p933 : 0 ≤ (x126_2 : Int) := of_decide_eq_true ‹_›
         have q933 : x126_2 < (t919.length : Int) := of_decide_eq_true ‹_›
         obtain ⟨ad933, e933, hx933_0, hx933_1, hx933_2⟩ := at_T30 (Kd.R_reads' HO_124.out).2.2 x126_2 p933 q933
         cases e933
         replace p933 := eq_true p933
         replace q933 := eq_true q933
         go_wp2_with (first | ((with_reducible refine gate_dst (N := 17) rfl ?_); refine bx 17 #[.int .i64 0, .int .i64 0, .int .i64 0] 30 ?_; intro gb934 hg w46 hbox hb; replace HO_5 := Aside0.mk (Kd.R_below (Kd.R_elderB (rk HO_5) gb934 (Nat.le_of_eq hg.symm)) hb); replace HO_124 := Aside0.mk (Kd.R_below (Kd.R_elderB (rk HO_124) gb934 (Nat.le_of_eq hg.symm)) hb); have BK934 := Aside0.mk (hbox); have GW934 := ge HB hg; have GE934 := ge HB hg; replace HB := bs HB hb; clear hb hbox hg; have hcz47_0 := bc0 BK934; have hcz47_1 := bc1 BK934; have hcz47_2 := bc2 BK934; have hfz47_0 := blk_frozen BK934.out 0; have hfz47_1 := blk_frozen BK934.out 1; have hfz47_2 := blk_frozen BK934.out 2))
         (refine Handed.intro k2 ?measure10 ?_; rotate_left; go_step; refine LoopI_mk (by kernel_rfl) ?rel10)
         case measure10 => have := HJ9.out; have := HK2.out; omega
         case rel10 => exact ⟨(true), (decide (((rd_T30 t919 x126_2).f2) > 0)), (wrap64 (x126_2 + 1)), (by first | rfl | (simp; done) | (simp [*]; done)), (by first | rfl | (simp; done) | (simp [*]; done)), (by first | rfl | (simp; done) | (simp [*]; done)), H', ⟨by have := HJ9.out; have := HK2.out; omega⟩, ⟨by exact Kd.R_mono (Kd.R_far (p := ⟨gb934, 2, none⟩) (Kd.R_far (p := ⟨gb934, 1, none⟩) (Kd.R_far (p := ⟨gb934, 0, none⟩) (Kd.R_mono HO_5.out (fun k_ hk => (⟨hk, hk.2⟩ : _ ∧ k_ ≠ gb934))) (fun _ hk => hk.2) (.int .i64 ((rd_T30 t919 x126_2).f0))) (fun _ hk => hk.2) (.int .i64 ((rd_T30 t919 x126_2).f1))) (fun _ hk => hk.2) (.int .i64 ((rd_T30 t919 x126_2).f2))) (fun _ hk => trivial)⟩, ⟨by exact Kd.R_mono (Kd.R_far (p := ⟨gb934, 2, none⟩) (Kd.R_far (p := ⟨gb934, 1, none⟩) (Kd.R_far (p := ⟨gb934, 0, none⟩) (Kd.R_mono HO_124.out (fun k_ hk => (⟨hk, hk.2⟩ : _ ∧ k_ ≠ gb934))) (fun _ hk => hk.2) (.int .i64 ((rd_T30 t919 x126_2).f0))) (fun _ hk => hk.2) (.int .i64 ((rd_T30 t919 x126_2).f1))) (fun _ hk => hk.2) (.int .i64 ((rd_T30 t919 x126_2).f2))) (fun _ hk => trivial)⟩, ⟨bw HB⟩⟩
        replace c45 := Bool.eq_false_iff.mpr c45
        subst c45
        have H1 : (if ((rd_T30 t919 x126_2).f2) > 0 then (laws_FnBasinsRest.l0 k2 l1 t919 t922 t923 (((rd_T30 t919 x126_2).f1) == 0) (decide (((rd_T30 t919 x126_2).f2) > 0)) t919 (t919.length : Int) (wrap64 (x126_2 + 1))) else (laws_FnBasinsRest.l0 k2 l1 t919 t922 t923 false (decide (((rd_T30 t919 x126_2).f2) > 0)) t919 (t919.length : Int) (wrap64 (x126_2 + 1)))) = some r := by rw [if_neg (show ¬ (false = true) by decide)] at H; exact H
        clear H
        have H := H1
        clear H1
        by_cases c48 : ((rd_T30 t919 x126_2).f2) > 0
        rotate_left
        ·rw [if_neg c48] at H
         have c48b0 : decide (0 < ((rd_T30 t919 x126_2).f2)) = false := decide_eq_false c48
         clear c48
         have H' := Aside0.mk H
         clear H
         have p933 : 0 ≤ (x126_2 : Int) := of_decide_eq_true ‹_›
         have q933 : x126_2 < (t919.length : Int) := of_decide_eq_true ‹_›
         obtain ⟨ad933, e933, hx933_0, hx933_1, hx933_2⟩ := at_T30 (Kd.R_reads' HO_124.out).2.2 x126_2 p933 q933
         cases e933
         replace p933 := eq_true p933
         replace q933 := eq_true q933
         go_wp2_with (first | ((with_reducible refine gate_dst (N := 17) rfl ?_); refine bx 17 #[.int .i64 0, .int .i64 0, .int .i64 0] 30 ?_; intro gb934 hg w51 hbox hb; replace HO_5 := Aside0.mk (Kd.R_below (Kd.R_elderB (rk HO_5) gb934 (Nat.le_of_eq hg.symm)) hb); replace HO_124 := Aside0.mk (Kd.R_below (Kd.R_elderB (rk HO_124) gb934 (Nat.le_of_eq hg.symm)) hb); have BK934 := Aside0.mk (hbox); have GW934 := ge HB hg; have GE934 := ge HB hg; replace HB := bs HB hb; clear hb hbox hg; have hcz52_0 := bc0 BK934; have hcz52_1 := bc1 BK934; have hcz52_2 := bc2 BK934; have hfz52_0 := blk_frozen BK934.out 0; have hfz52_1 := blk_frozen BK934.out 1; have hfz52_2 := blk_frozen BK934.out 2))
         (refine Handed.intro k2 ?measure11 ?_; rotate_left; go_step; refine LoopI_mk (by kernel_rfl) ?rel11)
         case measure11 => have := HJ9.out; have := HK2.out; omega
         case rel11 => exact ⟨(false), (decide (((rd_T30 t919 x126_2).f2) > 0)), (wrap64 (x126_2 + 1)), (by first | rfl | (simp; done) | (simp [*]; done)), (by first | rfl | (simp; done) | (simp [*]; done)), (by first | rfl | (simp; done) | (simp [*]; done)), H', ⟨by have := HJ9.out; have := HK2.out; omega⟩, ⟨by exact Kd.R_mono (Kd.R_far (p := ⟨gb934, 2, none⟩) (Kd.R_far (p := ⟨gb934, 1, none⟩) (Kd.R_far (p := ⟨gb934, 0, none⟩) (Kd.R_mono HO_5.out (fun k_ hk => (⟨hk, hk.2⟩ : _ ∧ k_ ≠ gb934))) (fun _ hk => hk.2) (.int .i64 ((rd_T30 t919 x126_2).f0))) (fun _ hk => hk.2) (.int .i64 ((rd_T30 t919 x126_2).f1))) (fun _ hk => hk.2) (.int .i64 ((rd_T30 t919 x126_2).f2))) (fun _ hk => trivial)⟩, ⟨by exact Kd.R_mono (Kd.R_far (p := ⟨gb934, 2, none⟩) (Kd.R_far (p := ⟨gb934, 1, none⟩) (Kd.R_far (p := ⟨gb934, 0, none⟩) (Kd.R_mono HO_124.out (fun k_ hk => (⟨hk, hk.2⟩ : _ ∧ k_ ≠ gb934))) (fun _ hk => hk.2) (.int .i64 ((rd_T30 t919 x126_2).f0))) (fun _ hk => hk.2) (.int .i64 ((rd_T30 t919 x126_2).f1))) (fun _ hk => hk.2) (.int .i64 ((rd_T30 t919 x126_2).f2))) (fun _ hk => trivial)⟩, ⟨bw HB⟩⟩
        rw [if_pos c48] at H
        have c48b0 : decide (0 < ((rd_T30 t919 x126_2).f2)) = true := decide_eq_true c48
        clear c48
        have H' := Aside0.mk H
        clear H
        have p933 : 0 ≤ (x126_2 : Int) := of_decide_eq_true ‹_›
        have q933 : x126_2 < (t919.length : Int) := of_decide_eq_true ‹_›
        obtain ⟨ad933, e933, hx933_0, hx933_1, hx933_2⟩ := at_T30 (Kd.R_reads' HO_124.out).2.2 x126_2 p933 q933
        cases e933
        replace p933 := eq_true p933
        replace q933 := eq_true q933
        go_wp2_with (first | ((with_reducible refine gate_dst (N := 17) rfl ?_); refine bx 17 #[.int .i64 0, .int .i64 0, .int .i64 0] 30 ?_; intro gb934 hg w49 hbox hb; replace HO_5 := Aside0.mk (Kd.R_below (Kd.R_elderB (rk HO_5) gb934 (Nat.le_of_eq hg.symm)) hb); replace HO_124 := Aside0.mk (Kd.R_below (Kd.R_elderB (rk HO_124) gb934 (Nat.le_of_eq hg.symm)) hb); have BK934 := Aside0.mk (hbox); have GW934 := ge HB hg; have GE934 := ge HB hg; replace HB := bs HB hb; clear hb hbox hg; have hcz50_0 := bc0 BK934; have hcz50_1 := bc1 BK934; have hcz50_2 := bc2 BK934; have hfz50_0 := blk_frozen BK934.out 0; have hfz50_1 := blk_frozen BK934.out 1; have hfz50_2 := blk_frozen BK934.out 2))
        (refine Handed.intro k2 ?measure12 ?_; rotate_left; go_step; refine LoopI_mk (by kernel_rfl) ?rel12)
        case measure12 => have := HJ9.out; have := HK2.out; omega
        case rel12 => exact ⟨((((rd_T30 t919 x126_2).f1) == 0)), (decide (((rd_T30 t919 x126_2).f2) > 0)), (wrap64 (x126_2 + 1)), (by first | rfl | (simp; done) | (simp [*]; done)), (by first | rfl | (simp; done) | (simp [*]; done)), (by first | rfl | (simp; done) | (simp [*]; done)), H', ⟨by have := HJ9.out; have := HK2.out; omega⟩, ⟨by exact Kd.R_mono (Kd.R_far (p := ⟨gb934, 2, none⟩) (Kd.R_far (p := ⟨gb934, 1, none⟩) (Kd.R_far (p := ⟨gb934, 0, none⟩) (Kd.R_mono HO_5.out (fun k_ hk => (⟨hk, hk.2⟩ : _ ∧ k_ ≠ gb934))) (fun _ hk => hk.2) (.int .i64 ((rd_T30 t919 x126_2).f0))) (fun _ hk => hk.2) (.int .i64 ((rd_T30 t919 x126_2).f1))) (fun _ hk => hk.2) (.int .i64 ((rd_T30 t919 x126_2).f2))) (fun _ hk => trivial)⟩, ⟨by exact Kd.R_mono (Kd.R_far (p := ⟨gb934, 2, none⟩) (Kd.R_far (p := ⟨gb934, 1, none⟩) (Kd.R_far (p := ⟨gb934, 0, none⟩) (Kd.R_mono HO_124.out (fun k_ hk => (⟨hk, hk.2⟩ : _ ∧ k_ ≠ gb934))) (fun _ hk => hk.2) (.int .i64 ((rd_T30 t919 x126_2).f0))) (fun _ hk => hk.2) (.int .i64 ((rd_T30 t919 x126_2).f1))) (fun _ hk => hk.2) (.int .i64 ((rd_T30 t919 x126_2).f2))) (fun _ hk => trivial)⟩, ⟨bw HB⟩⟩
    case rest4 =>
      intro u_ wc hcut l_ hl_; (simp only [rl, List.reduceReplicate, List.cons_append, List.nil_append, List.append_nil, Bool.not_true, Bool.not_false, fu, Nat.reduceAdd] at hl_); subst hl_
      clear HC34
      (try clear c1); (try clear c4); (try clear c33)
      obtain ⟨kq, HA, HJ33, HO_5, HB⟩ := hcut
      cases kq with
      | zero => exact absurd HA.out (by simp [laws_FnBasinsRest.j2])
      | succ kj33 =>
       have H := HA.out
       clear HA
       simp only [laws_FnBasinsRest.j2] at H
       have HC54 := Aside0.mk H
       clear H
       go_upto_region 21 with (fail)
       refine cutF (rl [60, 64, 3, 101, 3, 152, 3, 51] false) (fun u_ wc => ∃ (kq : Nat) (x153_53 : Bool), (u_ 153) = .bool x153_53 ∧ Aside0 (laws_FnBasinsRest.j3 kq l1 t919 t922 x153_53 = some r) ∧ Aside0 (kq ≤ kj33) ∧ Aside0 (Kd.R k30 30 wc w.heap.size (fun _ => True) (.slice Ao12 t919.length co12) t919) ∧ Aside0 (Below w.heap.size w wc)) ?first13 ?rest13
       case first13 =>
        as_aux_lemma =>
         intro J_ K_ hJ_ hK_
         have H := HC54.out
         clear HC54
         by_cases c55 : t923 = true
         ·subst c55
          have H1 : (laws_FnBasinsRest.j3 kj33 l1 t919 t922 (decide (t922 ≤ 60))) = some r := by rw [if_pos rfl] at H; exact H
          clear H
          have H := H1
          clear H1
          have H' := Aside0.mk H
          clear H
          go_wp2
          (refine Met.intro ?_; go_step; refine Cut_mk (by kernel_rfl) ?rel14)
          case rel14 => exact ⟨_, (decide (t922 ≤ 60)), (by first | rfl | (simp; done) | (simp [*]; done)), H', ⟨by first | exact Nat.le_refl _ | exact Nat.le_of_succ_le HJ33.out | exact Nat.le_of_succ_le (Nat.le_trans HJ33.out (Nat.le_of_succ_le HJ9.out)) | exact Nat.le_of_succ_le HJ9.out | (have := HJ9.out; have := HJ33.out; omega)⟩, ⟨rk HO_5⟩, ⟨bw HB⟩⟩
         replace c55 := Bool.eq_false_iff.mpr c55
         subst c55
         have H1 : (laws_FnBasinsRest.j3 kj33 l1 t919 t922 false) = some r := by rw [if_neg (show ¬ (false = true) by decide)] at H; exact H
         clear H
         have H := H1
         clear H1
         have H' := Aside0.mk H
         clear H
         go_wp2
         (refine Met.intro ?_; go_step; refine Cut_mk (by kernel_rfl) ?rel15)
         case rel15 => exact ⟨_, (false), (by first | rfl | (simp; done) | (simp [*]; done)), H', ⟨by first | exact Nat.le_refl _ | exact Nat.le_of_succ_le HJ33.out | exact Nat.le_of_succ_le (Nat.le_trans HJ33.out (Nat.le_of_succ_le HJ9.out)) | exact Nat.le_of_succ_le HJ9.out | (have := HJ9.out; have := HJ33.out; omega)⟩, ⟨rk HO_5⟩, ⟨bw HB⟩⟩
       case rest13 =>
         intro u_ wc hcut l_ hl_; (simp only [rl, List.reduceReplicate, List.cons_append, List.nil_append, List.append_nil, Bool.not_true, Bool.not_false, fu, Nat.reduceAdd] at hl_); subst hl_; generalize u_ 153 = v153 at hcut ⊢
         clear HC54
         (try clear c1); (try clear c4); (try clear c33)
         obtain ⟨kq, x153_53, rfl, HA, HJ53, HO_5, HB⟩ := hcut
         cases kq with
         | zero => exact absurd HA.out (by simp [laws_FnBasinsRest.j3])
         | succ kj53 =>
          have H := HA.out
          clear HA
          simp only [laws_FnBasinsRest.j3] at H
          have HC56 := Aside0.mk H
          clear H
          go_upto_if 153 with (fail)
          refine cutF (rl [4, 1, 13, 4, 38, 64, 3, 101, 3, 152, 3, 51] false) (fun u_ wc => ∃ (kq : Nat), Aside0 (laws_FnBasinsRest.j5 kq l1 = some r) ∧ Aside0 (kq ≤ kj53) ∧ Aside0 (Below w.heap.size w wc)) ?first16 ?rest16
          case first16 =>
           as_aux_lemma =>
            intro J_ K_ hJ_ hK_
            have H := HC56.out
            clear HC56
            by_cases c57 : x153_53 = true
            rotate_left
            ·replace c57 := Bool.eq_false_iff.mpr c57
             subst c57
             have H1 : (laws_FnBasinsRest.j5 kj53 l1) = some r := by rw [if_neg (show ¬ (false = true) by decide)] at H; exact H
             clear H
             have H := H1
             clear H1
             have H' := Aside0.mk H
             clear H
             go_wp2
             (refine Met.intro ?_; go_step; refine Cut_mk (by kernel_rfl) ?rel17)
             case rel17 => exact ⟨_, H', ⟨by first | exact Nat.le_refl _ | exact Nat.le_of_succ_le HJ53.out | exact Nat.le_of_succ_le (Nat.le_trans HJ53.out (Nat.le_of_succ_le HJ33.out)) | exact Nat.le_of_succ_le (Nat.le_trans (Nat.le_trans HJ53.out (Nat.le_of_succ_le HJ33.out)) (Nat.le_of_succ_le HJ9.out)) | exact Nat.le_of_succ_le HJ33.out | exact Nat.le_of_succ_le (Nat.le_trans HJ33.out (Nat.le_of_succ_le HJ9.out)) | exact Nat.le_of_succ_le HJ9.out | (have := HJ9.out; have := HJ33.out; have := HJ53.out; omega)⟩, ⟨bw HB⟩⟩
            subst c57
            have H1 : (if 0 ≤ t922 then (if (t922 : Int).toNat ≤ 35184372088832 then ((impl_RowAfter.f kj53 t919 (List.replicate (t922 : Int).toNat 0)).bind fun bt938 => ((impl_HeldInRow.f kj53 bt938.1).bind fun bt942 => (if bt938.2 = true then (if bt942.2 = true then (laws_FnBasinsRest.j4 kj53 l1 t919 t922 (bt942.1 != 0)) else (laws_FnBasinsRest.j4 kj53 l1 t919 t922 true)) else (laws_FnBasinsRest.j4 kj53 l1 t919 t922 true)))) else (none)) else (none)) = some r := by rw [if_pos rfl] at H; exact H
            clear H
            have H := H1
            clear H1
            by_cases c58 : 0 ≤ t922
            rotate_left
            ·rw [if_neg c58] at H
             exact absurd H (by simp)
            rw [if_pos c58] at H
            have c58b0 := eq_true c58
            have c58b1 : decide (0 ≤ t922) = true := decide_eq_true c58
            clear c58
            by_cases c59 : (t922 : Int).toNat ≤ 35184372088832
            rotate_left
            ·rw [if_neg c59] at H
             exact absurd H (by simp)
            rw [if_pos c59] at H
            have c59b0 := eq_true c59
            have c59b1 : decide ((t922 : Int).toNat ≤ 35184372088832) = true := decide_eq_true c59
            clear c59
            obtain ⟨y935, hy935⟩ : ∃ y_ : List Int, y_ = (List.replicate (t922 : Int).toNat 0) := ⟨_, rfl⟩
            replace H : ((impl_RowAfter.f kj53 t919 y935).bind fun bt938 => ((impl_HeldInRow.f kj53 bt938.1).bind fun bt942 => (if bt938.2 = true then (if bt942.2 = true then (laws_FnBasinsRest.j4 kj53 l1 t919 t922 (bt942.1 != 0)) else (laws_FnBasinsRest.j4 kj53 l1 t919 t922 true)) else (laws_FnBasinsRest.j4 kj53 l1 t919 t922 true)))) = some r := by first | (rw [hy935]; with_reducible exact H) | (have H2_ := (Option.bind_some _ _).symm.trans H; rw [hy935]; with_reducible exact H2_) | (have H2_ := (Option.bind_some _ _).symm.trans H; with_reducible exact H2_) | with_reducible exact H | (rw [hy935]; exact H) | exact H
            have Ny935 := Aside0.mk hy935
            clear hy935
            replace H := Option.bind_eq_some_iff.mp H
            obtain ⟨⟨t938, t941⟩, A600, H⟩ := H
            (try dsimp only at H)
            have A60 := Aside0.mk A600
            clear A600
            replace H := Option.bind_eq_some_iff.mp H
            obtain ⟨⟨t942, t943⟩, A610, H⟩ := H
            (try dsimp only at H)
            have A61 := Aside0.mk A610
            clear A610
            have HC62 := Aside0.mk H
            clear H
            go_upto_region 24 with (first | ((with_reducible refine gate_dst (N := 157) rfl ?_); refine Kd.R_make (Kd.int .i64) _ 3 rfl (N := 157) rfl 33 _ _ rfl t922 rfl rfl Try.underlying33 (.int .i64 0) 8 info3 rfl (by decide) (by omega) 0 (ok := fun _ => True) (okp := fun _ => True) rfl (fun _ hk => hk) trivial (of_decide_eq_true ‹_›) (Nat.le_trans (Nat.mul_le_mul_right _ (of_decide_eq_true ‹_› : t922.toNat ≤ 35184372088832)) (by omega)) (Below.refl _ _) (Nat.le_refl _) ?_; intro v936 w63 ho64 hb hg_ hnew_; clear hg_ hnew_; (first | rw [← Ny935.out] at ho64 | (simp only [Int.reduceToNat] at ho64; rw [← Ny935.out] at ho64)); replace HO_5 := rb HO_5 hb; have HO937 := lo ho64 HB; replace HB := bs HB hb; clear hb ho64; obtain ⟨Ao65, co65, eo65⟩ := Kd.R_slice HO937.out; subst eo65) | ((with_reducible refine gate_callee (f := 13) rfl ?_); refine gl 158 Try.func13 #[.slice Ao12 t919.length co12, .slice Ao65 y935.length co65] ?_; (with_reducible refine (impl_RowAfter.calls kj53 _ _ t919 _ _ y935 t938 t941 _ ?side1 ?side2 ?side3 ?side4 A60.out).mono ?_); (case side1 => exact cr HO_5); (case side2 => exact (Kd.R_reads' HO_5.out).2.1); (case side3 => exact cr HO937); (case side4 => exact (Kd.R_reads' HO937.out).2.1); rintro e w66 ⟨v939, rfl, ho0, hb⟩; refine ⟨_, rfl, ?_⟩; have HO940 := Aside0.mk (Kd.V_lower (Kd.V_mono (ok' := fun k_ => some k_ ≠ (.slice Ao12 t919.length co12 : Value).ownBlock ∧ some k_ ≠ (.slice Ao65 y935.length co65 : Value).ownBlock) ho0 (fun k_ hk_ => ⟨(Kd.fresh' (Kd.R_lt (rk HO_5)) k_ hk_), (Kd.fresh' (Kd.R_lt (rk HO937)) k_ hk_)⟩)) (below_size (bw HB))); replace HO_5 := rb HO_5 hb; replace HO937 := rb HO937 hb; replace HB := bs HB hb; (try clear hb); (try clear ho0); obtain ⟨Ao67, co67, eo67⟩ := Kd.V_slice HO940.out; subst eo67) | ((with_reducible refine gate_callee (f := 9) rfl ?_); refine gl 163 Try.func9 #[.slice Ao67 t938.length co67] ?_; (with_reducible refine (impl_HeldInRow.calls kj53 _ _ t938 t942 t943 _ ?side1 ?side2 A61.out).mono ?_); (case side1 => repeat (first | exact (Kd.V_reads' HO940.out).2.2 | (with_reducible refine Kd.C_alloc ?_ _) | (with_reducible refine Kd.C_drewN ?_ _) | (with_reducible refine Kd.C_drew ?_))); (case side2 => exact (Kd.V_reads' HO940.out).2.1); rintro e w68 ⟨rfl, hb⟩; refine ⟨_, rfl, ?_⟩; replace HO_5 := rb HO_5 hb; replace HO937 := rb HO937 hb; replace HO940 := Aside0.mk (Kd.V_below HO940.out hb); replace HB := bs HB hb; (try clear hb)))
            (try simp only [Act.put, List.setIfInBounds_toArray, List.set_cons_zero, List.set_cons_succ])
            refine cutF (rl [60, 64, 3, 101, 3, 152, 3, 51] false) (fun u_ wc => ∃ (kq : Nat) (x175_61 : Bool), (u_ 175) = .bool x175_61 ∧ Aside0 (laws_FnBasinsRest.j4 kq l1 t919 t922 x175_61 = some r) ∧ Aside0 (kq ≤ kj53) ∧ Aside0 (Kd.R k30 30 wc w.heap.size (fun _ => True) (.slice Ao12 t919.length co12) t919) ∧ Aside0 (Below w.heap.size w wc)) ?first18 ?rest18
            case first18 =>
             as_aux_lemma =>
              intro J_ K_ hJ_ hK_
              have H := HC62.out
              clear HC62
              by_cases c69 : t941 = true
              rotate_left
              ·replace c69 := Bool.eq_false_iff.mpr c69
               subst c69
               have H1 : (laws_FnBasinsRest.j4 kj53 l1 t919 t922 true) = some r := by rw [if_neg (show ¬ (false = true) by decide)] at H; exact H
               clear H
               have H := H1
               clear H1
               exact absurd H (by rw [hrt.out]; cases kj53 <;> simp [laws_FnBasinsRest.j4])
              subst c69
              have H1 : (if t943 = true then (laws_FnBasinsRest.j4 kj53 l1 t919 t922 (t942 != 0)) else (laws_FnBasinsRest.j4 kj53 l1 t919 t922 true)) = some r := by rw [if_pos rfl] at H; exact H
              clear H
              have H := H1
              clear H1
              by_cases c70 : t943 = true
              rotate_left
              ·replace c70 := Bool.eq_false_iff.mpr c70
               subst c70
               have H1 : (laws_FnBasinsRest.j4 kj53 l1 t919 t922 true) = some r := by rw [if_neg (show ¬ (false = true) by decide)] at H; exact H
               clear H
               have H := H1
               clear H1
               exact absurd H (by rw [hrt.out]; cases kj53 <;> simp [laws_FnBasinsRest.j4])
              subst c70
              have H1 : (laws_FnBasinsRest.j4 kj53 l1 t919 t922 (t942 != 0)) = some r := by rw [if_pos rfl] at H; exact H
              clear H
              have H := H1
              clear H1
              have H' := Aside0.mk H
              clear H
              go_wp2
              (refine Met.intro ?_; go_step; refine Cut_mk (by kernel_rfl) ?rel19)
              case rel19 => exact ⟨_, ((t942 != 0)), (by first | rfl | (simp; done) | (simp [*]; done)), H', ⟨by first | exact Nat.le_refl _ | exact Nat.le_of_succ_le HJ53.out | exact Nat.le_of_succ_le (Nat.le_trans HJ53.out (Nat.le_of_succ_le HJ33.out)) | exact Nat.le_of_succ_le (Nat.le_trans (Nat.le_trans HJ53.out (Nat.le_of_succ_le HJ33.out)) (Nat.le_of_succ_le HJ9.out)) | exact Nat.le_of_succ_le HJ33.out | exact Nat.le_of_succ_le (Nat.le_trans HJ33.out (Nat.le_of_succ_le HJ9.out)) | exact Nat.le_of_succ_le HJ9.out | (have := HJ9.out; have := HJ33.out; have := HJ53.out; omega)⟩, ⟨rk HO_5⟩, ⟨bw HB⟩⟩
            case rest18 =>
              intro u_ wc hcut l_ hl_; (simp only [rl, List.reduceReplicate, List.cons_append, List.nil_append, List.append_nil, Bool.not_true, Bool.not_false, fu, Nat.reduceAdd] at hl_); subst hl_; generalize u_ 175 = v175 at hcut ⊢
              clear HC62
              (try clear c1); (try clear c4); (try clear c33); (try clear c57); (try clear c58); (try clear c58b0); (try clear c58b1); (try clear c59); (try clear c59b0); (try clear c59b1)
              obtain ⟨kq, x175_61, rfl, HA, HJ61, HO_5, HB⟩ := hcut
              cases kq with
              | zero => exact absurd HA.out (by simp [laws_FnBasinsRest.j4])
              | succ kj61 =>
               have H := HA.out
               clear HA
               simp only [laws_FnBasinsRest.j4] at H
               by_cases c71 : x175_61 = true
               ·subst c71
                have H1 : (some false) = some r := by rw [if_pos rfl] at H; exact H
                clear H
                have H := H1
                clear H1
                exact absurd ((Option.some.inj H).trans hrt.out) (by decide)
               replace c71 := Bool.eq_false_iff.mpr c71
               subst c71
               have H1 : (if t922 > 0 then (if 0 ≤ (wrap64 (t922 - 1)) then (if (wrap64 (t922 - 1) : Int).toNat ≤ 35184372088832 then ((impl_RowAfter.f kj61 t919 (List.replicate (wrap64 (t922 - 1) : Int).toNat 0)).bind fun bt947 => ((impl_HeldInRow.f kj61 bt947.1).bind fun bt951 => (if bt947.2 = true then (if bt951.2 = true then (if bt951.1 = 0 then (some false) else (laws_FnBasinsRest.j5 kj61 l1)) else (some false)) else (some false)))) else (none)) else (none)) else (laws_FnBasinsRest.j5 kj61 l1)) = some r := by rw [if_neg (show ¬ (false = true) by decide)] at H; exact H
               clear H
               have H := H1
               clear H1
               by_cases c72 : t922 > 0
               rotate_left
               ·rw [if_neg c72] at H
                have c72b0 : decide (0 < t922) = false := decide_eq_false c72
                clear c72
                have H' := Aside0.mk H
                clear H
                go_wp2
                (refine Met.intro ?_; go_step; refine Cut_mk (by kernel_rfl) ?rel20)
                case rel20 => exact ⟨_, H', ⟨by first | exact Nat.le_refl _ | exact Nat.le_of_succ_le HJ61.out | exact Nat.le_of_succ_le (Nat.le_trans HJ61.out (Nat.le_of_succ_le HJ53.out)) | exact Nat.le_of_succ_le (Nat.le_trans (Nat.le_trans HJ61.out (Nat.le_of_succ_le HJ53.out)) (Nat.le_of_succ_le HJ33.out)) | exact Nat.le_of_succ_le (Nat.le_trans (Nat.le_trans (Nat.le_trans HJ61.out (Nat.le_of_succ_le HJ53.out)) (Nat.le_of_succ_le HJ33.out)) (Nat.le_of_succ_le HJ9.out)) | exact Nat.le_of_succ_le HJ53.out | exact Nat.le_of_succ_le (Nat.le_trans HJ53.out (Nat.le_of_succ_le HJ33.out)) | exact Nat.le_of_succ_le (Nat.le_trans (Nat.le_trans HJ53.out (Nat.le_of_succ_le HJ33.out)) (Nat.le_of_succ_le HJ9.out)) | (have := HJ9.out; have := HJ33.out; have := HJ53.out; have := HJ61.out; omega)⟩, ⟨bw HB⟩⟩
               rw [if_pos c72] at H
               have c72b0 : decide (0 < t922) = true := decide_eq_true c72
               clear c72
               obtain ⟨ji73, hji73⟩ : ∃ j_ : Int, (wrap64 (t922 - 1)) = j_ := ⟨_, rfl⟩
               replace H : (if 0 ≤ (ji73) then (if (ji73 : Int).toNat ≤ 35184372088832 then ((impl_RowAfter.f kj61 t919 (List.replicate (ji73 : Int).toNat 0)).bind fun bt947 => ((impl_HeldInRow.f kj61 bt947.1).bind fun bt951 => (if bt947.2 = true then (if bt951.2 = true then (if bt951.1 = 0 then (some false) else (laws_FnBasinsRest.j5 kj61 l1)) else (some false)) else (some false)))) else (none)) else (none)) = some r := by first | (rw [hji73] at H; exact H) | (simp only [hji73] at H ⊢; exact H)
               have hji73w : (IntKind.i64.wrap (t922 - 1)) = ji73 := (i64_w _).trans hji73
               by_cases c74 : 0 ≤ (ji73)
               rotate_left
               ·rw [if_neg c74] at H
                exact absurd H (by simp)
               rw [if_pos c74] at H
               have c74b0 := eq_true c74
               have c74b1 : decide (0 ≤ (ji73)) = true := decide_eq_true c74
               clear c74
               by_cases c75 : (ji73 : Int).toNat ≤ 35184372088832
               rotate_left
               ·rw [if_neg c75] at H
                exact absurd H (by simp)
               rw [if_pos c75] at H
               have c75b0 := eq_true c75
               have c75b1 : decide ((ji73 : Int).toNat ≤ 35184372088832) = true := decide_eq_true c75
               clear c75
               obtain ⟨y944, hy944⟩ : ∃ y_ : List Int, y_ = (List.replicate (ji73 : Int).toNat 0) := ⟨_, rfl⟩
               replace H : ((impl_RowAfter.f kj61 t919 y944).bind fun bt947 => ((impl_HeldInRow.f kj61 bt947.1).bind fun bt951 => (if bt947.2 = true then (if bt951.2 = true then (if bt951.1 = 0 then (some false) else (laws_FnBasinsRest.j5 kj61 l1)) else (some false)) else (some false)))) = some r := by first | (rw [hy944]; with_reducible exact H) | (have H2_ := (Option.bind_some _ _).symm.trans H; rw [hy944]; with_reducible exact H2_) | (have H2_ := (Option.bind_some _ _).symm.trans H; with_reducible exact H2_) | with_reducible exact H | (rw [hy944]; exact H) | exact H
               have Ny944 := Aside0.mk hy944
               clear hy944
               replace H := Option.bind_eq_some_iff.mp H
               obtain ⟨⟨t947, t950⟩, A760, H⟩ := H
               (try dsimp only at H)
               have A76 := Aside0.mk A760
               clear A760
               replace H := Option.bind_eq_some_iff.mp H
               obtain ⟨⟨t951, t952⟩, A770, H⟩ := H
               (try dsimp only at H)
               have A77 := Aside0.mk A770
               clear A770
               by_cases c78 : t950 = true
               rotate_left
               ·replace c78 := Bool.eq_false_iff.mpr c78
                subst c78
                have H1 : (some false) = some r := by rw [if_neg (show ¬ (false = true) by decide)] at H; exact H
                clear H
                have H := H1
                clear H1
                exact absurd ((Option.some.inj H).trans hrt.out) (by decide)
               subst c78
               have H1 : (if t952 = true then (if t951 = 0 then (some false) else (laws_FnBasinsRest.j5 kj61 l1)) else (some false)) = some r := by rw [if_pos rfl] at H; exact H
               clear H
               have H := H1
               clear H1
               by_cases c79 : t952 = true
               rotate_left
               ·replace c79 := Bool.eq_false_iff.mpr c79
                subst c79
                have H1 : (some false) = some r := by rw [if_neg (show ¬ (false = true) by decide)] at H; exact H
                clear H
                have H := H1
                clear H1
                exact absurd ((Option.some.inj H).trans hrt.out) (by decide)
               subst c79
               have H1 : (if t951 = 0 then (some false) else (laws_FnBasinsRest.j5 kj61 l1)) = some r := by rw [if_pos rfl] at H; exact H
               clear H
               have H := H1
               clear H1
               by_cases c80 : t951 = 0
               ·rw [if_pos c80] at H
                have c80b0 : (t951 == 0) = true := beq_iff_eq.mpr c80
                have c80b1 : (t951 != 0) = false := bne_eq_false_iff_eq.mpr c80
                clear c80
                exact absurd ((Option.some.inj H).trans hrt.out) (by decide)
               rw [if_neg c80] at H
               have c80b0 : (t951 == 0) = false := beq_eq_false_iff_ne.mpr c80
               have c80b1 : (t951 != 0) = true := bne_iff_ne.mpr c80
               have H' := Aside0.mk H
               clear H
               go_wp2_with (first | ((with_reducible refine gate_dst (N := 182) rfl ?_); refine Kd.R_make (Kd.int .i64) _ 3 rfl (N := 182) rfl 33 _ _ rfl ji73 rfl rfl Try.underlying33 (.int .i64 0) 8 info3 rfl (by decide) (by omega) 0 (ok := fun _ => True) (okp := fun _ => True) rfl (fun _ hk => hk) trivial (of_decide_eq_true ‹_›) (Nat.le_trans (Nat.mul_le_mul_right _ (of_decide_eq_true ‹_› : ji73.toNat ≤ 35184372088832)) (by omega)) (Below.refl _ _) (Nat.le_refl _) ?_; intro v945 w81 ho82 hb hg_ hnew_; clear hg_ hnew_; (first | rw [← Ny944.out] at ho82 | (simp only [Int.reduceToNat] at ho82; rw [← Ny944.out] at ho82)); replace HO_5 := rb HO_5 hb; have HO946 := lo ho82 HB; replace HB := bs HB hb; clear hb ho82; obtain ⟨Ao83, co83, eo83⟩ := Kd.R_slice HO946.out; subst eo83) | ((with_reducible refine gate_callee (f := 13) rfl ?_); refine gl 183 Try.func13 #[.slice Ao12 t919.length co12, .slice Ao83 y944.length co83] ?_; (with_reducible refine (impl_RowAfter.calls kj61 _ _ t919 _ _ y944 t947 true _ ?side1 ?side2 ?side3 ?side4 A76.out).mono ?_); (case side1 => exact cr HO_5); (case side2 => exact (Kd.R_reads' HO_5.out).2.1); (case side3 => exact cr HO946); (case side4 => exact (Kd.R_reads' HO946.out).2.1); rintro e w84 ⟨v948, rfl, ho0, hb⟩; refine ⟨_, rfl, ?_⟩; have HO949 := Aside0.mk (Kd.V_lower (Kd.V_mono (ok' := fun k_ => some k_ ≠ (.slice Ao12 t919.length co12 : Value).ownBlock ∧ some k_ ≠ (.slice Ao83 y944.length co83 : Value).ownBlock) ho0 (fun k_ hk_ => ⟨(Kd.fresh' (Kd.R_lt (rk HO_5)) k_ hk_), (Kd.fresh' (Kd.R_lt (rk HO946)) k_ hk_)⟩)) (below_size (bw HB))); replace HO_5 := rb HO_5 hb; replace HO946 := rb HO946 hb; replace HB := bs HB hb; (try clear hb); (try clear ho0); obtain ⟨Ao85, co85, eo85⟩ := Kd.V_slice HO949.out; subst eo85) | ((with_reducible refine gate_callee (f := 9) rfl ?_); refine gl 188 Try.func9 #[.slice Ao85 t947.length co85] ?_; (with_reducible refine (impl_HeldInRow.calls kj61 _ _ t947 t951 true _ ?side1 ?side2 A77.out).mono ?_); (case side1 => repeat (first | exact (Kd.V_reads' HO949.out).2.2 | (with_reducible refine Kd.C_alloc ?_ _) | (with_reducible refine Kd.C_drewN ?_ _) | (with_reducible refine Kd.C_drew ?_))); (case side2 => exact (Kd.V_reads' HO949.out).2.1); rintro e w86 ⟨rfl, hb⟩; refine ⟨_, rfl, ?_⟩; replace HO_5 := rb HO_5 hb; replace HO946 := rb HO946 hb; replace HO949 := Aside0.mk (Kd.V_below HO949.out hb); replace HB := bs HB hb; (try clear hb)))
               (refine Met.intro ?_; go_step; refine Cut_mk (by kernel_rfl) ?rel21)
               case rel21 => exact ⟨_, H', ⟨by first | exact Nat.le_refl _ | exact Nat.le_of_succ_le HJ61.out | exact Nat.le_of_succ_le (Nat.le_trans HJ61.out (Nat.le_of_succ_le HJ53.out)) | exact Nat.le_of_succ_le (Nat.le_trans (Nat.le_trans HJ61.out (Nat.le_of_succ_le HJ53.out)) (Nat.le_of_succ_le HJ33.out)) | exact Nat.le_of_succ_le (Nat.le_trans (Nat.le_trans (Nat.le_trans HJ61.out (Nat.le_of_succ_le HJ53.out)) (Nat.le_of_succ_le HJ33.out)) (Nat.le_of_succ_le HJ9.out)) | exact Nat.le_of_succ_le HJ53.out | exact Nat.le_of_succ_le (Nat.le_trans HJ53.out (Nat.le_of_succ_le HJ33.out)) | exact Nat.le_of_succ_le (Nat.le_trans (Nat.le_trans HJ53.out (Nat.le_of_succ_le HJ33.out)) (Nat.le_of_succ_le HJ9.out)) | (have := HJ9.out; have := HJ33.out; have := HJ53.out; have := HJ61.out; omega)⟩, ⟨bw HB⟩⟩
          case rest16 =>
            intro u_ wc hcut l_ hl_; (simp only [rl, List.reduceReplicate, List.cons_append, List.nil_append, List.append_nil, Bool.not_true, Bool.not_false, fu, Nat.reduceAdd] at hl_); subst hl_
            clear HC56
            (try clear c1); (try clear c4); (try clear c33)
            obtain ⟨kq, HA, HJ55, HB⟩ := hcut
            cases kq with
            | zero => exact absurd HA.out (by simp [laws_FnBasinsRest.j5])
            | succ kj55 =>
             have H := HA.out
             clear HA
             simp only [laws_FnBasinsRest.j5] at H
             replace H := Option.bind_eq_some_iff.mp H
             obtain ⟨⟨t953, t954⟩, A870, H⟩ := H
             (try dsimp only at H)
             have A87 := Aside0.mk A870
             clear A870
             replace H := Option.bind_eq_some_iff.mp H
             obtain ⟨⟨t957, t960⟩, A880, H⟩ := H
             (try dsimp only at H)
             have A88 := Aside0.mk A880
             clear A880
             replace H := Option.bind_eq_some_iff.mp H
             obtain ⟨⟨t961, t964⟩, A890, H⟩ := H
             (try dsimp only at H)
             have A89 := Aside0.mk A890
             clear A890
             have HC90 := Aside0.mk H
             clear H
             go_upto_region 34 with (first | ((with_reducible refine gate_callee (f := 14) rfl ?_); refine gl 203 Try.func14 #[.slice A1 l1.length c1] ?_; (with_reducible refine (spec_DrawSteadyHeld.calls kj55 _ _ l1 t953 t954 _ ?side1 ?side2 A87.out).mono ?_); (case side1 => exact ck HR1 HB); (case side2 => exact HC1.out); rintro e w91 ⟨v955, rfl, ho0, hb⟩; refine ⟨_, rfl, ?_⟩; have HO956 := lo ho0 HB; replace HB := bs HB hb; (try clear hb); (try clear ho0); obtain ⟨Ao92, co92, eo92⟩ := Kd.R_slice HO956.out; subst eo92) | ((with_reducible refine gate_callee (f := 15) rfl ?_); refine gl 209 Try.func15 #[.slice Ao92 t953.length co92, .int .i64 t954] ?_; (with_reducible refine (impl_SteadyHeld.calls kj55 (fun k_ => some k_ = (.slice Ao92 t953.length co92 : Value).ownBlock) _ _ t953 t954 t957 t960 _ ?side1 A88.out).mono ?_); (case side1 => exact Kd.R_V (Kd.R_tight rfl (HO956.out))); rintro e w93 ⟨v958, rfl, ho0, hb⟩; refine ⟨_, rfl, ?_⟩; replace HO956 := rb HO956 hb; have HO959 := Aside0.mk (Kd.R_lower (Kd.R_mono (ok' := fun k_ => True) ho0 (fun _ hk_ => trivial)) (below_size (bw HB))); replace HB := bs HB hb; (try clear hb); (try clear ho0)) | ((with_reducible refine gate_callee (f := 16) rfl ?_); refine gl 215 Try.func16 #[.slice Ao92 t953.length co92, .int .i64 t954] ?_; (with_reducible refine (spec_SteadyHeld.calls kj55 (fun k_ => some k_ = (.slice Ao92 t953.length co92 : Value).ownBlock) _ _ t953 t954 t961 t964 _ ?side1 A89.out).mono ?_); (case side1 => exact Kd.R_V (Kd.R_tight rfl (Kd.R_apart' (HO956.out) (Kd.R_typed HO959.out) (by decide)))); rintro e w94 ⟨v962, rfl, ho0, hb⟩; refine ⟨_, rfl, ?_⟩; replace HO956 := rb HO956 hb; have HO963 := Aside0.mk (Kd.R_lower (Kd.R_new' (Kd.R_mono (ok' := fun k_ => True) ho0 (fun _ hk_ => trivial)) (Kd.R_lt (rk HO959))) (below_size (bw HB))); replace HO959 := Aside0.mk (Kd.R_elder' (rk HO959) (Kd.R_base ho0) hb); replace HB := bs HB hb; (try clear hb); (try clear ho0)))
             (try simp only [Act.put, List.setIfInBounds_toArray, List.set_cons_zero, List.set_cons_succ])
             refine cutF (rl [60, 64, 3, 101, 3, 152, 3, 51] false) (fun u_ wc => ∃ (kq : Nat) (x226_89 : Bool), (u_ 226) = .bool x226_89 ∧ Aside0 (laws_FnBasinsRest.j6 kq l1 t953 t954 t957 t960 x226_89 = some r) ∧ Aside0 (kq ≤ kj55) ∧ Aside0 (Kd.R k30 30 wc w.heap.size (fun _ => True) (.slice Ao92 t953.length co92) t953) ∧ Aside0 (Kd.R (Kd.int .i64) 3 wc w.heap.size (fun _ => True) v958 t957) ∧ Aside0 (Below w.heap.size w wc)) ?first22 ?rest22
             case first22 =>
              as_aux_lemma =>
               intro J_ K_ hJ_ hK_
               have H := HC90.out
               clear HC90
               by_cases c95 : (t960 != t964) = true
               ·rw [if_pos c95] at H
                have c95b0 : (t960 != t964) = true := c95
                (try (have c95b1 : decide (t960 = t964) = false := by simpa using c95))
                (try (have c95b2 : (t960 == t964) = false := by simpa using c95))
                (try (have c95b3 : ¬ (t960 = t964) := by simpa using c95))
                clear c95
                (first | rw [c95b0] | (simp only [i64_w, i32_w]; rw [c95b0]) | skip)
                exact absurd H (by rw [hrt.out]; cases kj55 <;> simp [laws_FnBasinsRest.j6])
               rw [if_neg c95] at H
               have c95b0 : (t960 != t964) = false := by simpa using c95
               (try (have c95b1 : decide (t960 = t964) = true := by simpa using c95))
               (try (have c95b2 : (t960 == t964) = true := by simpa using c95))
               clear c95
               (first | rw [c95b0] | (simp only [i64_w, i32_w]; rw [c95b0]) | skip)
               replace H := Option.bind_eq_some_iff.mp H
               obtain ⟨t965, A960, H⟩ := H
               (try dsimp only at H)
               have A96 := Aside0.mk A960
               clear A960
               have H' := Aside0.mk H
               clear H
               obtain ⟨Ao97, co97, eo97⟩ := Kd.R_slice HO959.out
               subst eo97
               obtain ⟨Ao98, co98, eo98⟩ := Kd.R_slice HO963.out
               subst eo98
               go_wp2_with (first | (go_at_call 17; (with_reducible refine (laws_hSame.calls kj55 _ _ t957 _ _ t961 t965 _ ?side1 ?side2 ?side3 ?side4 A96.out).mono ?_); (case side1 => exact cr HO959); (case side2 => exact (Kd.R_reads' HO959.out).2.1); (case side3 => exact cr HO963); (case side4 => exact (Kd.R_reads' HO963.out).2.1); rintro e w' ⟨rfl, ⟨nd, rfl⟩⟩))
               (refine Met.intro ?_; go_step; refine Cut_mk (by kernel_rfl) ?rel23)
               case rel23 => exact ⟨_, (!t965), (by first | rfl | (simp; done) | (simp [*]; done)), H', ⟨by first | exact Nat.le_refl _ | exact Nat.le_of_succ_le HJ55.out | exact Nat.le_of_succ_le (Nat.le_trans HJ55.out (Nat.le_of_succ_le HJ53.out)) | exact Nat.le_of_succ_le (Nat.le_trans (Nat.le_trans HJ55.out (Nat.le_of_succ_le HJ53.out)) (Nat.le_of_succ_le HJ33.out)) | exact Nat.le_of_succ_le (Nat.le_trans (Nat.le_trans (Nat.le_trans HJ55.out (Nat.le_of_succ_le HJ53.out)) (Nat.le_of_succ_le HJ33.out)) (Nat.le_of_succ_le HJ9.out)) | exact Nat.le_of_succ_le HJ53.out | exact Nat.le_of_succ_le (Nat.le_trans HJ53.out (Nat.le_of_succ_le HJ33.out)) | exact Nat.le_of_succ_le (Nat.le_trans (Nat.le_trans HJ53.out (Nat.le_of_succ_le HJ33.out)) (Nat.le_of_succ_le HJ9.out)) | (have := HJ9.out; have := HJ33.out; have := HJ53.out; have := HJ55.out; omega)⟩, ⟨rk HO956⟩, ⟨by exact Kd.R_mono HO959.out (fun _ hk => trivial)⟩, ⟨bw HB⟩⟩
             case rest22 =>
               intro u_ wc hcut l_ hl_; (simp only [rl, List.reduceReplicate, List.cons_append, List.nil_append, List.append_nil, Bool.not_true, Bool.not_false, fu, Nat.reduceAdd] at hl_); subst hl_; generalize u_ 226 = v226 at hcut ⊢
               clear HC90
               (try clear c1); (try clear c4); (try clear c33)
               obtain ⟨kq, x226_89, rfl, HA, HJ89, HO_22, HO_24, HB⟩ := hcut
               cases kq with
               | zero => exact absurd HA.out (by simp [laws_FnBasinsRest.j6])
               | succ kj89 =>
                have H := HA.out
                clear HA
                simp only [laws_FnBasinsRest.j6] at H
                by_cases c99 : x226_89 = true
                ·subst c99
                 have H1 : (some false) = some r := by rw [if_pos rfl] at H; exact H
                 clear H
                 have H := H1
                 clear H1
                 exact absurd ((Option.some.inj H).trans hrt.out) (by decide)
                replace c99 := Bool.eq_false_iff.mpr c99
                subst c99
                have H1 : (if t960 = true then (laws_FnBasinsRest.l1 kj89 l1 t954 t957 ([] : List (S30)) t953 (t953.length : Int) 0) else (laws_FnBasinsRest.j8 kj89 l1)) = some r := by rw [if_neg (show ¬ (false = true) by decide)] at H; exact H
                clear H
                have H := H1
                clear H1
                have HC100 := Aside0.mk H
                clear H
                go_upto_if 227 with (fail)
                refine cutF (rl [4, 1, 23, 8, 24, 64, 3, 256, 3, 51] false) (fun u_ wc => ∃ (kq : Nat), Aside0 (laws_FnBasinsRest.j8 kq l1 = some r) ∧ Aside0 (kq ≤ kj89) ∧ Aside0 (Below w.heap.size w wc)) ?first24 ?rest24
                case first24 =>
                 as_aux_lemma =>
                  intro J_ K_ hJ_ hK_
                  have H := HC100.out
                  clear HC100
                  by_cases c101 : t960 = true
                  rotate_left
                  ·replace c101 := Bool.eq_false_iff.mpr c101
                   subst c101
                   have H1 : (laws_FnBasinsRest.j8 kj89 l1) = some r := by rw [if_neg (show ¬ (false = true) by decide)] at H; exact H
                   clear H
                   have H := H1
                   clear H1
                   have H' := Aside0.mk H
                   clear H
                   go_wp2
                   (refine Met.intro ?_; go_step; refine Cut_mk (by kernel_rfl) ?rel25)
                   case rel25 => exact ⟨_, H', ⟨by first | exact Nat.le_refl _ | exact Nat.le_of_succ_le HJ89.out | exact Nat.le_of_succ_le (Nat.le_trans HJ89.out (Nat.le_of_succ_le HJ55.out)) | exact Nat.le_of_succ_le (Nat.le_trans (Nat.le_trans HJ89.out (Nat.le_of_succ_le HJ55.out)) (Nat.le_of_succ_le HJ53.out)) | exact Nat.le_of_succ_le (Nat.le_trans (Nat.le_trans (Nat.le_trans HJ89.out (Nat.le_of_succ_le HJ55.out)) (Nat.le_of_succ_le HJ53.out)) (Nat.le_of_succ_le HJ33.out)) | exact Nat.le_of_succ_le (Nat.le_trans (Nat.le_trans (Nat.le_trans (Nat.le_trans HJ89.out (Nat.le_of_succ_le HJ55.out)) (Nat.le_of_succ_le HJ53.out)) (Nat.le_of_succ_le HJ33.out)) (Nat.le_of_succ_le HJ9.out)) | exact Nat.le_of_succ_le HJ55.out | exact Nat.le_of_succ_le (Nat.le_trans HJ55.out (Nat.le_of_succ_le HJ53.out)) | (have := HJ9.out; have := HJ33.out; have := HJ53.out; have := HJ55.out; have := HJ89.out; omega)⟩, ⟨bw HB⟩⟩
                  subst c101
                  have H1 : (laws_FnBasinsRest.l1 kj89 l1 t954 t957 ([] : List (S30)) t953 (t953.length : Int) 0) = some r := by rw [if_pos rfl] at H; exact H
                  clear H
                  have H := H1
                  clear H1
                  have H' := Aside0.mk H
                  clear H
                  go_wp2
                  try simp only [Act.put, List.setIfInBounds_toArray, List.set_cons_zero, List.set_cons_succ]
                  refine loopF (rl [28, 3, 199, 18, 189] false) kj89 (fun kq u_ w' => ∃ (x28_6 : List (S30)) (x230_6 : Int), (u_ 230) = .int .i64 x230_6 ∧ Aside0 (laws_FnBasinsRest.l1 kq l1 t954 t957 x28_6 t953 (t953.length : Int) x230_6 = some r) ∧ Aside0 (kq ≤ kj89) ∧ Aside0 (Kd.R (Kd.int .i64) 3 w' w.heap.size (fun _ => True) v958 t957) ∧ Aside0 (Kd.R k30 30 w' w.heap.size (fun k_ => some k_ ≠ ((.slice Ao92 t953.length co92) : Value).ownBlock) (u_ 28) x28_6) ∧ Aside0 (Kd.R k30 30 w' w.heap.size (fun k_ => some k_ ≠ ((u_ 28) : Value).ownBlock) (.slice Ao92 t953.length co92) t953) ∧ Aside0 (Below w.heap.size w w')) ?atStart26 ?round26
                  case atStart26 => exact ⟨(([] : List (S30))), (0), (by first | rfl | (simp; done) | (simp [*]; done)), H', ⟨Nat.le_refl _⟩, ⟨rk HO_24⟩, ⟨by first | exact Kd.R_nil _ _ _ _ _ | exact Kd.N_nil _ _ _ _ _ | exact Kd.V_nil _ _ _ _ _ | exact Kd.Q_nil _ _ _ _ _ | exact Kd.S_nil _ _ _ _ _⟩, ⟨by exact Kd.R_mono HO_22.out (fun _ hk => (by simp [Value.ownBlock]))⟩, ⟨bw HB⟩⟩
                  case round26 =>
                   intro gk u_ wr hrel l_ hl_; (simp only [rl, List.reduceReplicate, List.cons_append, List.nil_append, List.append_nil, Bool.not_true, Bool.not_false, fu, Nat.reduceAdd] at hl_); subst hl_; generalize u_ 28 = v28 at hrel ⊢; generalize u_ 230 = v230 at hrel ⊢
                   intro J_ K_ hJ_ hK_
                   clear H'
                   (try clear c1); (try clear c4); (try clear c33); (try clear c99); (try clear c101)
                   obtain ⟨x28_6, x230_6, rfl, HA, HK6, HO_24, HO_28, HO_228, HB⟩ := hrel
                   cases gk with
                   | zero => exact absurd HA.out (by simp [laws_FnBasinsRest.l1])
                   | succ k6 =>
                    have H := HA.out
                    clear HA
                    simp only [laws_FnBasinsRest.l1] at H
                    by_cases c102 : x230_6 < (t953.length : Int)
                    rotate_left
                    ·rw [if_neg c102] at H
                     have c102b0 : decide (x230_6 < (t953.length : Int)) = false := decide_eq_false c102
                     clear c102
                     (first | rw [c102b0] | (simp only [i64_w, i32_w]; rw [c102b0]) | skip)
                     replace H := Option.bind_eq_some_iff.mp H
                     obtain ⟨⟨t972, t973, t974⟩, A1130, H⟩ := H
                     (try dsimp only at H)
                     have A113 := Aside0.mk A1130
                     clear A1130
                     replace H := Option.bind_eq_some_iff.mp H
                     obtain ⟨⟨t977, t980⟩, A1140, H⟩ := H
                     (try dsimp only at H)
                     have A114 := Aside0.mk A1140
                     clear A1140
                     by_cases c115 : t974 = true
                     rotate_left
                     ·replace c115 := Bool.eq_false_iff.mpr c115
                      subst c115
                      have H1 : (some false) = some r := by rw [if_neg (show ¬ (false = true) by decide)] at H; exact H
                      clear H
                      have H := H1
                      clear H1
                      exact absurd ((Option.some.inj H).trans hrt.out) (by decide)
                     subst c115
                     have H1 : ((laws_hBasins.f k6 t972 x28_6).bind fun t981 => (if t981 = true then (if t973 = t954 then (if t980 = true then ((laws_hSame.f k6 t977 t957).bind fun t982 => (if t982 = true then (laws_FnBasinsRest.j8 k6 l1) else (some false))) else (some false)) else (some false)) else (some false))) = some r := by rw [if_pos rfl] at H; exact H
                     clear H
                     have H := H1
                     clear H1
                     replace H := Option.bind_eq_some_iff.mp H
                     obtain ⟨t981, A1160, H⟩ := H
                     (try dsimp only at H)
                     have A116 := Aside0.mk A1160
                     clear A1160
                     by_cases c117 : t981 = true
                     rotate_left
                     ·replace c117 := Bool.eq_false_iff.mpr c117
                      subst c117
                      have H1 : (some false) = some r := by rw [if_neg (show ¬ (false = true) by decide)] at H; exact H
                      clear H
                      have H := H1
                      clear H1
                      exact absurd ((Option.some.inj H).trans hrt.out) (by decide)
                     subst c117
                     have H1 : (if t973 = t954 then (if t980 = true then ((laws_hSame.f k6 t977 t957).bind fun t982 => (if t982 = true then (laws_FnBasinsRest.j8 k6 l1) else (some false))) else (some false)) else (some false)) = some r := by rw [if_pos rfl] at H; exact H
                     clear H
                     have H := H1
                     clear H1
                     by_cases c118 : t973 = t954
                     rotate_left
                     ·rw [if_neg c118] at H
                      have c118b0 : (t973 == t954) = false := beq_eq_false_iff_ne.mpr c118
                      have c118b1 : (t973 != t954) = true := bne_iff_ne.mpr c118
                      exact absurd ((Option.some.inj H).trans hrt.out) (by decide)
                     rw [if_pos c118] at H
                     have c118b0 : (t973 == t954) = true := beq_iff_eq.mpr c118
                     have c118b1 : (t973 != t954) = false := bne_eq_false_iff_eq.mpr c118
                     clear c118
                     by_cases c119 : t980 = true
                     rotate_left
                     ·replace c119 := Bool.eq_false_iff.mpr c119
                      subst c119
                      have H1 : (some false) = some r := by rw [if_neg (show ¬ (false = true) by decide)] at H; exact H
                      clear H
                      have H := H1
                      clear H1
                      exact absurd ((Option.some.inj H).trans hrt.out) (by decide)
                     subst c119
                     have H1 : ((laws_hSame.f k6 t977 t957).bind fun t982 => (if t982 = true then (laws_FnBasinsRest.j8 k6 l1) else (some false))) = some r := by rw [if_pos rfl] at H; exact H
                     clear H
                     have H := H1
                     clear H1
                     replace H := Option.bind_eq_some_iff.mp H
                     obtain ⟨t982, A1200, H⟩ := H
                     (try dsimp only at H)
                     have A120 := Aside0.mk A1200
                     clear A1200
                     by_cases c121 : t982 = true
                     rotate_left
                     ·replace c121 := Bool.eq_false_iff.mpr c121
                      subst c121
                      have H1 : (some false) = some r := by rw [if_neg (show ¬ (false = true) by decide)] at H; exact H
                      clear H
                      have H := H1
                      clear H1
                      exact absurd ((Option.some.inj H).trans hrt.out) (by decide)
                     subst c121
                     have H1 : (laws_FnBasinsRest.j8 k6 l1) = some r := by rw [if_pos rfl] at H; exact H
                     clear H
                     have H := H1
                     clear H1
                     have H' := Aside0.mk H
                     clear H
                     obtain ⟨Ao122, co122, eo122⟩ := Kd.R_slice HO_28.out
                     subst eo122
                     go_wp2_with (first | ((with_reducible refine gate_callee (f := 18) rfl ?_); refine gl 251 Try.func18 #[.slice Ao122 x28_6.length co122, .int .i64 t954] ?_; (with_reducible refine (impl_TickRow.calls k6 _ _ x28_6 t954 t972 t973 true _ ?side1 ?side2 A113.out).mono ?_); (case side1 => exact cr HO_28); (case side2 => exact (Kd.R_reads' HO_28.out).2.1); rintro e w123 ⟨v975, rfl, ho0, hb⟩; refine ⟨_, rfl, ?_⟩; replace HO_24 := rb HO_24 hb; have HO976 := Aside0.mk (Kd.R_lower (Kd.R_new' (Kd.R_new' ho0 (Kd.R_lt (rk HO_28))) (Kd.R_lt (rk HO_228))) (below_size (bw HB))); replace HO_28 := Aside0.mk (Kd.R_elder' (rk HO_28) (Kd.R_base ho0) hb); replace HO_228 := Aside0.mk (Kd.R_elder' (rk HO_228) (Kd.R_base ho0) hb); replace HB := bs HB hb; (try clear hb); (try clear ho0)) | ((with_reducible refine gate_callee (f := 15) rfl ?_); refine gl 258 Try.func15 #[.slice Ao122 x28_6.length co122, .int .i64 t954] ?_; (with_reducible refine (impl_SteadyHeld.calls k6 (fun k_ => some k_ = (.slice Ao122 x28_6.length co122 : Value).ownBlock) _ _ x28_6 t954 t977 true _ ?side1 A114.out).mono ?_); (case side1 => exact Kd.R_V (Kd.R_tight rfl (Kd.R_apart' (HO_28.out) (Kd.R_typed HO_24.out) (by decide)))); rintro e w124 ⟨v978, rfl, ho0, hb⟩; refine ⟨_, rfl, ?_⟩; replace HO_28 := rb HO_28 hb; replace HO_228 := rb HO_228 hb; replace HO976 := rb HO976 hb; have HO979 := Aside0.mk (Kd.R_lower (Kd.R_new' (Kd.R_mono (ok' := fun k_ => True) ho0 (fun _ hk_ => trivial)) (Kd.R_lt (rk HO_24))) (below_size (bw HB))); replace HO_24 := Aside0.mk (Kd.R_elder' (rk HO_24) (Kd.R_base ho0) hb); replace HB := bs HB hb; (try clear hb); (try clear ho0); obtain ⟨Ao125, co125, eo125⟩ := Kd.R_slice HO976.out; subst eo125) | (go_at_call 19; (with_reducible refine (laws_hBasins.calls k6 _ _ t972 _ _ x28_6 true _ ?side1 ?side2 ?side3 ?side4 A116.out).mono ?_); (case side1 => exact cr HO976); (case side2 => exact (Kd.R_reads' HO976.out).2.1); (case side3 => exact cr HO_28); (case side4 => exact (Kd.R_reads' HO_28.out).2.1); rintro e w' ⟨rfl, ⟨nd, rfl⟩⟩; obtain ⟨Ao126, co126, eo126⟩ := Kd.R_slice HO979.out; subst eo126; obtain ⟨Ao127, co127, eo127⟩ := Kd.R_slice HO_24.out; subst eo127) | (go_at_call 17; (with_reducible refine (laws_hSame.calls k6 _ _ t977 _ _ t957 true _ ?side1 ?side2 ?side3 ?side4 A120.out).mono ?_); (case side1 => exact cr HO979); (case side2 => exact (Kd.R_reads' HO979.out).2.1); (case side3 => exact cr HO_24); (case side4 => exact (Kd.R_reads' HO_24.out).2.1); rintro e w' ⟨rfl, ⟨nd, rfl⟩⟩))
                     (refine Met.intro ?_; go_step; refine Cut_mk (by kernel_rfl) ?rel27)
                     case rel27 => exact ⟨_, H', ⟨by first | exact Nat.le_refl _ | exact Nat.le_of_succ_le HK6.out | exact Nat.le_of_succ_le (Nat.le_trans HK6.out (Nat.le_of_succ_le HJ89.out)) | exact Nat.le_of_succ_le (Nat.le_trans (Nat.le_trans HK6.out (Nat.le_of_succ_le HJ89.out)) (Nat.le_of_succ_le HJ55.out)) | exact Nat.le_of_succ_le (Nat.le_trans (Nat.le_trans (Nat.le_trans HK6.out (Nat.le_of_succ_le HJ89.out)) (Nat.le_of_succ_le HJ55.out)) (Nat.le_of_succ_le HJ53.out)) | exact Nat.le_of_succ_le (Nat.le_trans (Nat.le_trans (Nat.le_trans (Nat.le_trans HK6.out (Nat.le_of_succ_le HJ89.out)) (Nat.le_of_succ_le HJ55.out)) (Nat.le_of_succ_le HJ53.out)) (Nat.le_of_succ_le HJ33.out)) | exact Nat.le_of_succ_le (Nat.le_trans (Nat.le_trans (Nat.le_trans (Nat.le_trans (Nat.le_trans HK6.out (Nat.le_of_succ_le HJ89.out)) (Nat.le_of_succ_le HJ55.out)) (Nat.le_of_succ_le HJ53.out)) (Nat.le_of_succ_le HJ33.out)) (Nat.le_of_succ_le HJ9.out)) | exact Nat.le_of_succ_le HJ89.out | (have := HJ9.out; have := HJ33.out; have := HJ53.out; have := HJ55.out; have := HJ89.out; have := HK6.out; omega)⟩, ⟨bw HB⟩⟩
                    rw [if_pos c102] at H
                    have c102b0 : decide (x230_6 < (t953.length : Int)) = true := decide_eq_true c102
                    clear c102
                    (first | rw [c102b0] | (simp only [i64_w, i32_w]; rw [c102b0]) | skip)
                    by_cases c103 : 0 ≤ x230_6
                    rotate_left
                    ·rw [if_neg c103] at H
                     exact absurd H (by simp)
                    rw [if_pos c103] at H
                    have c103b0 : decide (0 ≤ x230_6) = true := decide_eq_true c103
                    clear c103
                    by_cases c104 : x230_6 < (t953.length : Int)
                    rotate_left
                    ·rw [if_neg c104] at H
                     exact absurd H (by simp)
                    rw [if_pos c104] at H
                    have c104b0 : decide (x230_6 < (t953.length : Int)) = true := decide_eq_true c104
                    clear c104
                    by_cases c105 : x230_6 < (t957.length : Int)
                    rotate_left
                    ·rw [if_neg c105] at H
                     exact absurd H (by simp)
                    rw [if_pos c105] at H
                    have c105b0 : decide (x230_6 < (t957.length : Int)) = true := decide_eq_true c105
                    clear c105
                    by_cases c106 : x28_6.length < 5864062014805
                    rotate_left
                    ·rw [if_neg c106] at H
                     exact absurd H (by simp)
                    rw [if_pos c106] at H
                    have LMc106 := Aside0.mk c106
                    clear c106
                    obtain ⟨y969, hy969⟩ : ∃ y_ : List (S30), y_ = (x28_6 ++ [(⟨(rd_T30 t953 x230_6).f0, (rd_T30 t953 x230_6).f1, rd t957 x230_6⟩ : S30)]) := ⟨_, rfl⟩
                    replace H : (laws_FnBasinsRest.l1 k6 l1 t954 t957 y969 t953 (t953.length : Int) (wrap64 (x230_6 + 1))) = some r := by first | (rw [hy969]; with_reducible exact H) | (have H2_ := (Option.bind_some _ _).symm.trans H; rw [hy969]; with_reducible exact H2_) | (have H2_ := (Option.bind_some _ _).symm.trans H; with_reducible exact H2_) | with_reducible exact H | (rw [hy969]; exact H) | exact H
                    have Ny969 := Aside0.mk hy969
                    clear hy969
                    have H' := Aside0.mk H
                    clear H
                    have p966 : 0 ≤ (x230_6 : Int) := of_decide_eq_true ‹_›
                    have q966 : x230_6 < (t953.length : Int) := of_decide_eq_true ‹_›
                    obtain ⟨ad966, e966, hx966_0, hx966_1, hx966_2⟩ := at_T30 (Kd.R_reads' HO_228.out).2.2 x230_6 p966 q966
                    cases e966
                    replace p966 := eq_true p966
                    replace q966 := eq_true q966
                    try go_wp2_with (first | ((with_reducible refine gate_dst (N := 30) rfl ?_); refine bx 30 #[.int .i64 0, .int .i64 0, .int .i64 0] 30 ?_; intro gb967 hg w107 hbox hb; replace HO_24 := rb HO_24 hb; replace HO_28 := Aside0.mk (Kd.R_below (Kd.R_elderB (rk HO_28) gb967 (Nat.le_of_eq hg.symm)) hb); replace HO_228 := Aside0.mk (Kd.R_below (Kd.R_elderB (rk HO_228) gb967 (Nat.le_of_eq hg.symm)) hb); have BK967 := Aside0.mk (hbox); have GW967 := ge HB hg; have GE967 := ge HB hg; replace HB := bs HB hb; clear hb hbox hg; have hcz108_0 := bc0 BK967; have hcz108_1 := bc1 BK967; have hcz108_2 := bc2 BK967; have hfz108_0 := blk_frozen BK967.out 0; have hfz108_1 := blk_frozen BK967.out 1; have hfz108_2 := blk_frozen BK967.out 2))
                    have n0_ : Aside0 (Kd.R (Kd.int .i64) 3 (((w107.setCell ⟨gb967, 0, none⟩ (.int .i64 ((rd_T30 t953 x230_6).f0))).setCell ⟨gb967, 1, none⟩ (.int .i64 ((rd_T30 t953 x230_6).f1))).setCell ⟨gb967, 2, none⟩ (.int .i64 ((rd_T30 t953 x230_6).f2))) w.heap.size (fun _ => True) v958 t957) := ⟨by exact Kd.R_mono (Kd.R_far (p := ⟨gb967, 2, none⟩) (Kd.R_far (p := ⟨gb967, 1, none⟩) (Kd.R_far (p := ⟨gb967, 0, none⟩) (Kd.R_types HO_24.out BK967.out (by decide)) (fun _ hk => hk.2) (.int .i64 ((rd_T30 t953 x230_6).f0))) (fun _ hk => hk.2) (.int .i64 ((rd_T30 t953 x230_6).f1))) (fun _ hk => hk.2) (.int .i64 ((rd_T30 t953 x230_6).f2))) (fun _ hk => trivial)⟩
                    have n1_ : Aside0 (Kd.R k30 30 (((w107.setCell ⟨gb967, 0, none⟩ (.int .i64 ((rd_T30 t953 x230_6).f0))).setCell ⟨gb967, 1, none⟩ (.int .i64 ((rd_T30 t953 x230_6).f1))).setCell ⟨gb967, 2, none⟩ (.int .i64 ((rd_T30 t953 x230_6).f2))) w.heap.size (fun k_ => some k_ ≠ (.slice (some ad966) t953.length co92 : Value).ownBlock ∧ k_ ≠ gb967) v28 x28_6) := ⟨by exact Kd.R_mono (Kd.R_far (p := ⟨gb967, 2, none⟩) (Kd.R_far (p := ⟨gb967, 1, none⟩) (Kd.R_far (p := ⟨gb967, 0, none⟩) (Kd.R_mono HO_28.out (fun k_ hk => (⟨hk, hk.2⟩ : _ ∧ k_ ≠ gb967))) (fun _ hk => hk.2) (.int .i64 ((rd_T30 t953 x230_6).f0))) (fun _ hk => hk.2) (.int .i64 ((rd_T30 t953 x230_6).f1))) (fun _ hk => hk.2) (.int .i64 ((rd_T30 t953 x230_6).f2))) (fun _ hk => ⟨hk.1.1, hk.1.2⟩)⟩
                    have n2_ : Aside0 (Kd.R k30 30 (((w107.setCell ⟨gb967, 0, none⟩ (.int .i64 ((rd_T30 t953 x230_6).f0))).setCell ⟨gb967, 1, none⟩ (.int .i64 ((rd_T30 t953 x230_6).f1))).setCell ⟨gb967, 2, none⟩ (.int .i64 ((rd_T30 t953 x230_6).f2))) w.heap.size (fun k_ => some k_ ≠ (v28 : Value).ownBlock ∧ k_ ≠ gb967) (.slice (some ad966) t953.length co92) t953) := ⟨by exact Kd.R_mono (Kd.R_far (p := ⟨gb967, 2, none⟩) (Kd.R_far (p := ⟨gb967, 1, none⟩) (Kd.R_far (p := ⟨gb967, 0, none⟩) (Kd.R_mono HO_228.out (fun k_ hk => (⟨hk, hk.2⟩ : _ ∧ k_ ≠ gb967))) (fun _ hk => hk.2) (.int .i64 ((rd_T30 t953 x230_6).f0))) (fun _ hk => hk.2) (.int .i64 ((rd_T30 t953 x230_6).f1))) (fun _ hk => hk.2) (.int .i64 ((rd_T30 t953 x230_6).f2))) (fun _ hk => ⟨hk.1.1, hk.1.2⟩)⟩
                    have n3_ : Aside0 ((((w107.setCell ⟨gb967, 0, none⟩ (.int .i64 ((rd_T30 t953 x230_6).f0))).setCell ⟨gb967, 1, none⟩ (.int .i64 ((rd_T30 t953 x230_6).f1))).setCell ⟨gb967, 2, none⟩ (.int .i64 ((rd_T30 t953 x230_6).f2))).heap[gb967]? = some (.cells #[.int .i64 ((rd_T30 t953 x230_6).f0), .int .i64 ((rd_T30 t953 x230_6).f1), .int .i64 ((rd_T30 t953 x230_6).f2)] 30 (0, 0))) := ⟨by refine blk_put (cs := #[.int .i64 ((rd_T30 t953 x230_6).f0), .int .i64 ((rd_T30 t953 x230_6).f1), .int .i64 0]) ?_ 2 _ rfl; refine blk_put (cs := #[.int .i64 ((rd_T30 t953 x230_6).f0), .int .i64 0, .int .i64 0]) ?_ 1 _ rfl; refine blk_put (cs := #[.int .i64 0, .int .i64 0, .int .i64 0]) ?_ 0 _ rfl; exact bk BK967⟩
                    have n4_ : Aside0 (Below w.heap.size w (((w107.setCell ⟨gb967, 0, none⟩ (.int .i64 ((rd_T30 t953 x230_6).f0))).setCell ⟨gb967, 1, none⟩ (.int .i64 ((rd_T30 t953 x230_6).f1))).setCell ⟨gb967, 2, none⟩ (.int .i64 ((rd_T30 t953 x230_6).f2)))) := ⟨bw HB⟩
                    (try clear HO_24); (try clear HO_28); (try clear HO_228); (try clear BK967); (try clear HB)
                    generalize (((w107.setCell ⟨gb967, 0, none⟩ (.int .i64 ((rd_T30 t953 x230_6).f0))).setCell ⟨gb967, 1, none⟩ (.int .i64 ((rd_T30 t953 x230_6).f1))).setCell ⟨gb967, 2, none⟩ (.int .i64 ((rd_T30 t953 x230_6).f2))) = w109 at n0_ n1_ n2_ n3_ n4_ ⊢
                    have HO_24 := n0_
                    have HO_28 := n1_
                    have HO_228 := n2_
                    have BK967 := n3_
                    have HB := n4_
                    clear n0_ n1_ n2_ n3_ n4_
                    replace HO_24 := Aside0.mk (Kd.R_drew HO_24.out)
                    replace HO_28 := Aside0.mk (Kd.R_drew HO_28.out)
                    replace HO_228 := Aside0.mk (Kd.R_drew HO_228.out)
                    replace BK967 := Aside0.mk (blk_drew BK967.out)
                    replace HB := Aside0.mk (below_drew1 HB.out)
                    obtain ⟨Ao111, co111, eo111⟩ := Kd.R_slice HO_24.out
                    (first | subst eo111 | (injection eo111 with f1_ f2_ f3_; have f4_ := f1_.symm; have f5_ := f3_.symm; clear f1_ f2_ f3_; subst f4_; subst f5_))
                    have p968 : 0 ≤ (x230_6 : Int) := of_decide_eq_true ‹_›
                    have q968 : x230_6 < (t957.length : Int) := of_decide_eq_true ‹_›
                    obtain ⟨ad968, e968, hx968_0⟩ := Kd.at_int (Kd.R_reads' HO_24.out).2.2 x230_6 p968 q968
                    cases e968
                    replace p968 := eq_true p968
                    replace q968 := eq_true q968
                    refine start_ (n := 13) (S := fun w' => w'.cell? ⟨gb967, 0, none⟩ = some (.int .i64 ((rd_T30 t953 x230_6).f0)) ∧ w'.cell? ⟨gb967, 1, none⟩ = some (.int .i64 ((rd_T30 t953 x230_6).f1)) ∧ w'.cell? ⟨gb967, 2, none⟩ = some (.int .i64 ((rd_T30 t953 x230_6).f2)) ∧ w'.cell? (ad968.add (x230_6).toNat) = some (.int .i64 (rd t957 x230_6))) (ds := [10, 11]) (bl 13 0) (by kernel_rfl) rfl rfl ⟨bc0 BK967, bc1 BK967, bc2 BK967, hx968_0⟩ (fun hHeld => ?_); refine with_tabW laws_FnBasinsRest.tab41 laws_FnBasinsRest.bits41 (fun HT_ HW_ => ?_)
                    generalize w109.drew = w110 at HO_24 HO_28 HO_228 BK967 HB hx968_0 hHeld ⊢
                    refine pu 0 235 (bl 13 1) HT_.out (v := ?_) (a' := ?_) ?_ ?_ ?_
                    rotate_left; (intro w'; go_simp; with_reducible rfl); rotate_left; (simp only [sqa, sqb, sqc, sqd, i64_w, i32_w]; rfl)
                    refine pu 1 236 (bl 13 3) HT_.out (v := ?_) (a' := ?_) ?_ ?_ ?_
                    rotate_left; (intro w'; go_simp; with_reducible rfl); rotate_left; (simp only [sqa, sqb, sqc, sqd, i64_w, i32_w]; rfl)
                    refine pu 3 238 (bl 13 11) HT_.out (v := ?_) (a' := ?_) ?_ ?_ ?_
                    rotate_left; (intro w'; go_simp; with_reducible rfl); rotate_left; (simp only [sqa, sqb, sqc, sqd, i64_w, i32_w]; rfl)
                    refine pu 5 240 (bl 13 43) HT_.out (v := ?_) (a' := ?_) ?_ ?_ ?_
                    rotate_left; (intro w'; go_simp; with_reducible rfl); rotate_left; (simp only [sqa, sqb, sqc, sqd, i64_w, i32_w]; rfl)
                    refine pu 6 241 (bl 13 107) HT_.out (v := ?_) (a' := ?_) ?_ ?_ ?_
                    rotate_left; (intro w'; go_simp; with_reducible rfl); rotate_left; (simp only [sqa, sqb, sqc, sqd, i64_w, i32_w]; rfl)
                    refine pu 7 242 (bl 13 235) HT_.out (v := ?_) (a' := ?_) ?_ ?_ ?_
                    rotate_left; (intro w'; go_simp; with_reducible rfl); rotate_left; (simp only [sqa, sqb, sqc, sqd, i64_w, i32_w]; rfl)
                    refine tk 2 237 (bl 13 239) HT_.out HW_.out hHeld (v := ?_) (a' := ?_) ?_ ?_ ?_
                    rotate_left; (rintro w' ⟨s0, s1, s2, s3⟩; go_simp; with_reducible rfl); rotate_left; (simp only [sqa, sqb, sqc, sqd, i64_w, i32_w]; rfl)
                    refine tk 4 239 (bl 13 255) HT_.out HW_.out hHeld (v := ?_) (a' := ?_) ?_ ?_ ?_
                    rotate_left; (rintro w' ⟨s0, s1, s2, s3⟩; go_simp; with_reducible rfl); rotate_left; (simp only [sqa, sqb, sqc, sqd, i64_w, i32_w]; rfl)
                    refine tk 8 243 (bl 13 511) HT_.out HW_.out hHeld (v := ?_) (a' := ?_) ?_ ?_ ?_
                    rotate_left; (rintro w' ⟨s0, s1, s2, s3⟩; go_simp; with_reducible rfl); rotate_left; (simp only [sqa, sqb, sqc, sqd, i64_w, i32_w]; rfl)
                    refine pu 9 244 (bl 13 1023) HT_.out (v := ?_) (a' := ?_) ?_ ?_ ?_
                    rotate_left; (intro w'; go_simp; with_reducible rfl); rotate_left; (simp only [sqa, sqb, sqc, sqd, i64_w, i32_w]; rfl)
                    refine last_ (i := 10) (N := some 245) (bl 13 2047) rfl rfl (one_of HT_.out (by kernel_rfl)) (by decide) (fun K hK => ?_)
                    refine value_ (w1 := ?_) (v := ?_) (by rfl) rfl ?_ ?_
                    rotate_left 2
                    ·go_simp
                     constructor
                     ·rfl
                     ·rfl
                    refine hK.out _ _ ?_
                    clear hK K
                    refine norm_ (a' := ?_) ?_ ?_; rotate_left; (show Act.put _ (some 245) _ = _; simp only [sqa, sqb, sqc, sqd, i64_w, i32_w]; rfl)
                    refine last_ (i := 11) (N := some 246) (bl 13 4095) rfl rfl (one_of HT_.out (by kernel_rfl)) (by decide) (fun K hK => ?_)
                    refine Kd.R_append_step k30 (w0 := w) w.heap.size (by rfl) (.tmp 235) (.tmp 245) 24 30 (.agg #[(.int .i64 0), (.int .i64 0), (.int .i64 0)]) 24 rfl Try.underlying24 info30 rfl (by decide) (by omega) v28 x28_6 (⟨(rd_T30 t953 x230_6).f0, (rd_T30 t953 x230_6).f1, rd t957 x230_6⟩ : S30) [.int .i64 ((rd_T30 t953 x230_6).f0), .int .i64 ((rd_T30 t953 x230_6).f1), .int .i64 (rd t957 x230_6)] (fun k_ => some k_ ≠ (.slice (some ad966) t953.length co92 : Value).ownBlock ∧ k_ ≠ gb967) (fun _ => False) rfl rfl ?aP (fun _ hk => hk.elim) ?aF ?aO ?aB ?aS ?aL ?_
                    (case aP => exact k30_mkM _ _ _ (⟨(rd_T30 t953 x230_6).f0, (rd_T30 t953 x230_6).f1, rd t957 x230_6⟩ : S30))
                    (case aB => exact (bw HB))
                    (case aF => exact (fun k_ hk => ⟨Kd.fresh' (Kd.R_lt (rk HO_228)) k_ hk, Kd.freshB (g := gb967) (o := .cells #[.int .i64 ((rd_T30 t953 x230_6).f0), .int .i64 ((rd_T30 t953 x230_6).f1), .int .i64 ((rd_T30 t953 x230_6).f2)] 30 (0, 0)) (bk BK967) k_ hk⟩))
                    (case aO => exact (rk HO_28))
                    (case aS => exact (below_size (bw HB)))
                    (case aL => have := LMc106.out; omega)
                    intro v970 w112 ho hb hg hat
                    rw [← Ny969.out] at ho
                    have n0_ := Aside0.mk (Kd.R_over' (rk HO_24) (Kd.R_typed (rk HO_28)) (by decide) hg)
                    have n1_ := Aside0.mk (Kd.R_after (ok := (fun k_ => k_ ≠ gb967)) (by exact Kd.R_mono HO_228.out (fun _ hk => ⟨hk.2, hk.1⟩)) hg hat)
                    have n2_ := Aside0.mk (blk_grown (g := gb967) (o := .cells #[.int .i64 ((rd_T30 t953 x230_6).f0), .int .i64 ((rd_T30 t953 x230_6).f1), .int .i64 ((rd_T30 t953 x230_6).f2)] 30 (0, 0)) (bk BK967) hg (Kd.R_away HO_28.out (fun _ hk => hk.2)))
                    have n3_ := Aside0.mk (hb)
                    have n4_ := Aside0.mk (ho)
                    clear HO_24
                    clear HO_228
                    clear BK967
                    clear HB
                    clear HO_28
                    have HO_24 := n0_
                    have HO_228 := n1_
                    have BK967 := n2_
                    have HB := n3_
                    have HO971 := n4_
                    clear n0_ n1_ n2_ n3_ n4_
                    clear ho hb hg hat
                    refine hK.out _ _ ?_
                    clear hK K
                    refine norm_ (a' := ?_) ?_ ?_; rotate_left; (show Act.put _ (some 246) _ = _; simp only [sqa, sqb, sqc, sqd, i64_w, i32_w]; rfl)
                    refine pu 12 28 (bl 13 8191) HT_.out (v := ?_) (a' := ?_) ?_ ?_ ?_
                    rotate_left; (intro w'; go_simp; with_reducible rfl); rotate_left; (simp only [sqa, sqb, sqc, sqd, i64_w, i32_w]; rfl)
                    refine done_ (done_of HT_.out (by kernel_rfl)) ?_
                    try go_wp2
                    (refine Handed.intro k6 ?measure28 ?_; rotate_left; go_step; refine LoopI_mk (by kernel_rfl) ?rel28)
                    case measure28 => have := HJ9.out; have := HJ33.out; have := HJ53.out; have := HJ55.out; have := HJ89.out; have := HK6.out; omega
                    case rel28 => exact ⟨(y969), (wrap64 (x230_6 + 1)), (by first | rfl | (simp; done) | (simp [*]; done)), H', ⟨by have := HJ9.out; have := HJ33.out; have := HJ53.out; have := HJ55.out; have := HJ89.out; have := HK6.out; omega⟩, ⟨rk HO_24⟩, ⟨by exact Kd.R_mono HO971.out (fun _ hk => hk.1)⟩, ⟨by exact Kd.R_mono HO_228.out (fun _ hk => hk.2)⟩, ⟨bw HB⟩⟩
                case rest24 =>
                  intro u_ wc hcut l_ hl_; (simp only [rl, List.reduceReplicate, List.cons_append, List.nil_append, List.append_nil, Bool.not_true, Bool.not_false, fu, Nat.reduceAdd] at hl_); subst hl_
                  clear HC100
                  (try clear c1); (try clear c4); (try clear c33); (try clear c99)
                  obtain ⟨kq, HA, HJ99, HB⟩ := hcut
                  cases kq with
                  | zero => exact absurd HA.out (by simp [laws_FnBasinsRest.j8])
                  | succ kj99 =>
                   have H := HA.out
                   clear HA
                   simp only [laws_FnBasinsRest.j8] at H
                   replace H := Option.bind_eq_some_iff.mp H
                   obtain ⟨⟨t983, t984, t985⟩, A1280, H⟩ := H
                   (try dsimp only at H)
                   have A128 := Aside0.mk A1280
                   clear A1280
                   replace H := Option.bind_eq_some_iff.mp H
                   obtain ⟨⟨t990, t991⟩, A1290, H⟩ := H
                   (try dsimp only at H)
                   have A129 := Aside0.mk A1290
                   clear A1290
                   replace H := Option.bind_eq_some_iff.mp H
                   obtain ⟨⟨t992, t993⟩, A1300, H⟩ := H
                   (try dsimp only at H)
                   have A130 := Aside0.mk A1300
                   clear A1300
                   replace H := Option.bind_eq_some_iff.mp H
                   obtain ⟨⟨t994, t995⟩, A1310, H⟩ := H
                   (try dsimp only at H)
                   have A131 := Aside0.mk A1310
                   clear A1310
                   replace H := Option.bind_eq_some_iff.mp H
                   obtain ⟨⟨t998, t999⟩, A1320, H⟩ := H
                   (try dsimp only at H)
                   have A132 := Aside0.mk A1320
                   clear A1320
                   replace H := Option.bind_eq_some_iff.mp H
                   obtain ⟨⟨t1002, t1003⟩, A1330, H⟩ := H
                   (try dsimp only at H)
                   have A133 := Aside0.mk A1330
                   clear A1330
                   replace H := Option.bind_eq_some_iff.mp H
                   obtain ⟨⟨t1006, t1007, t1008⟩, A1340, H⟩ := H
                   (try dsimp only at H)
                   have A134 := Aside0.mk A1340
                   clear A1340
                   replace H := Option.bind_eq_some_iff.mp H
                   obtain ⟨⟨t1011, t1012, t1013⟩, A1350, H⟩ := H
                   (try dsimp only at H)
                   have A135 := Aside0.mk A1350
                   clear A1350
                   have HC136 := Aside0.mk H
                   clear H
                   go_upto_region 55 with (first | ((with_reducible refine gate_callee (f := 20) rfl ?_); refine gl 286 Try.func20 #[.slice A1 l1.length c1] ?_; (with_reducible refine (spec_DrawLeastSize.calls kj99 _ _ l1 t983 t984 t985 _ ?side1 ?side2 A128.out).mono ?_); (case side1 => exact ck HR1 HB); (case side2 => exact HC1.out); rintro e w137 ⟨v986, v988, rfl, ho0, ho1, hb⟩; refine ⟨_, rfl, ?_⟩; have HO987 := lo ho0 HB; have HO989 := lo ho1 HB; replace HB := bs HB hb; (try clear hb); (try clear ho0); (try clear ho1); obtain ⟨Ao138, co138, eo138⟩ := Kd.R_slice HO987.out; subst eo138; obtain ⟨Ao139, co139, eo139⟩ := Kd.R_slice HO989.out; subst eo139) | ((with_reducible refine gate_callee (f := 21) rfl ?_); refine gl 294 Try.func21 #[.slice Ao138 t983.length co138, .int .i64 t984, .slice Ao139 t985.length co139] ?_; (with_reducible refine (impl_LeastSize.calls kj99 _ _ t983 t984 _ _ t985 t990 t991 _ ?side1 ?side2 ?side3 ?side4 A129.out).mono ?_); (case side1 => exact cr HO987); (case side2 => exact (Kd.R_reads' HO987.out).2.1); (case side3 => exact cr HO989); (case side4 => exact (Kd.R_reads' HO989.out).2.1); rintro e w140 ⟨rfl, hb⟩; refine ⟨_, rfl, ?_⟩; replace HO987 := rb HO987 hb; replace HO989 := rb HO989 hb; replace HB := bs HB hb; (try clear hb)) | ((with_reducible refine gate_callee (f := 22) rfl ?_); refine gl 301 Try.func22 #[.slice Ao138 t983.length co138, .int .i64 t984, .slice Ao139 t985.length co139] ?_; (with_reducible refine (spec_LeastSize.calls kj99 _ _ t983 t984 _ _ t985 t992 t993 _ ?side1 ?side2 ?side3 ?side4 A130.out).mono ?_); (case side1 => exact cr HO987); (case side2 => exact (Kd.R_reads' HO987.out).2.1); (case side3 => exact cr HO989); (case side4 => exact (Kd.R_reads' HO989.out).2.1); rintro e w141 ⟨rfl, hb⟩; refine ⟨_, rfl, ?_⟩; replace HO987 := rb HO987 hb; replace HO989 := rb HO989 hb; replace HB := bs HB hb; (try clear hb)) | ((with_reducible refine gate_callee (f := 23) rfl ?_); refine gl 308 Try.func23 #[.slice Ao138 t983.length co138, .int .i64 t984, .slice Ao139 t985.length co139] ?_; (with_reducible refine (impl_HeldAlong.calls kj99 _ _ t983 t984 _ _ t985 t994 t995 _ ?side1 ?side2 ?side3 ?side4 A131.out).mono ?_); (case side1 => exact cr HO987); (case side2 => exact (Kd.R_reads' HO987.out).2.1); (case side3 => exact cr HO989); (case side4 => exact (Kd.R_reads' HO989.out).2.1); rintro e w142 ⟨v996, rfl, ho0, hb⟩; refine ⟨_, rfl, ?_⟩; replace HO987 := rb HO987 hb; have HO997 := Aside0.mk (Kd.R_lower (Kd.R_new' ho0 (Kd.R_lt (rk HO989))) (below_size (bw HB))); replace HO989 := Aside0.mk (Kd.R_elder' (rk HO989) (Kd.R_base ho0) hb); replace HB := bs HB hb; (try clear hb); (try clear ho0)) | ((with_reducible refine gate_callee (f := 24) rfl ?_); refine gl 315 Try.func24 #[.slice Ao138 t983.length co138, .int .i64 t984, .slice Ao139 t985.length co139] ?_; (with_reducible refine (spec_HeldAlong.calls kj99 _ _ t983 t984 _ _ t985 t998 t999 _ ?side1 ?side2 ?side3 ?side4 A132.out).mono ?_); (case side1 => exact cr HO987); (case side2 => exact (Kd.R_reads' HO987.out).2.1); (case side3 => exact cr HO989); (case side4 => exact (Kd.R_reads' HO989.out).2.1); rintro e w143 ⟨v1000, rfl, ho0, hb⟩; refine ⟨_, rfl, ?_⟩; replace HO987 := rb HO987 hb; have HO1001 := Aside0.mk (Kd.R_lower (Kd.R_new' (Kd.R_new' ho0 (Kd.R_lt (rk HO989))) (Kd.R_lt (rk HO997))) (below_size (bw HB))); replace HO989 := Aside0.mk (Kd.R_elder' (rk HO989) (Kd.R_base ho0) hb); replace HO997 := Aside0.mk (Kd.R_elder' (rk HO997) (Kd.R_base ho0) hb); replace HB := bs HB hb; (try clear hb); (try clear ho0)) | ((with_reducible refine gate_callee (f := 25) rfl ?_); refine gl 320 Try.func25 #[.slice A1 l1.length c1] ?_; (with_reducible refine (spec_DrawTickRow.calls kj99 _ _ l1 t1002 t1003 _ ?side1 ?side2 A133.out).mono ?_); (case side1 => exact ck HR1 HB); (case side2 => exact HC1.out); rintro e w144 ⟨v1004, rfl, ho0, hb⟩; refine ⟨_, rfl, ?_⟩; replace HO989 := rb HO989 hb; replace HO997 := rb HO997 hb; replace HO1001 := rb HO1001 hb; have HO1005 := Aside0.mk (Kd.R_lower (Kd.R_new' ho0 (Kd.R_lt (rk HO987))) (below_size (bw HB))); replace HO987 := Aside0.mk (Kd.R_elder' (rk HO987) (Kd.R_base ho0) hb); replace HB := bs HB hb; (try clear hb); (try clear ho0); obtain ⟨Ao145, co145, eo145⟩ := Kd.R_slice HO1005.out; subst eo145) | ((with_reducible refine gate_callee (f := 18) rfl ?_); refine gl 326 Try.func18 #[.slice Ao145 t1002.length co145, .int .i64 t1003] ?_; (with_reducible refine (impl_TickRow.calls kj99 _ _ t1002 t1003 t1006 t1007 t1008 _ ?side1 ?side2 A134.out).mono ?_); (case side1 => exact cr HO1005); (case side2 => exact (Kd.R_reads' HO1005.out).2.1); rintro e w146 ⟨v1009, rfl, ho0, hb⟩; refine ⟨_, rfl, ?_⟩; replace HO989 := rb HO989 hb; replace HO997 := rb HO997 hb; replace HO1001 := rb HO1001 hb; have HO1010 := Aside0.mk (Kd.R_lower (Kd.R_new' (Kd.R_new' ho0 (Kd.R_lt (rk HO987))) (Kd.R_lt (rk HO1005))) (below_size (bw HB))); replace HO987 := Aside0.mk (Kd.R_elder' (rk HO987) (Kd.R_base ho0) hb); replace HO1005 := Aside0.mk (Kd.R_elder' (rk HO1005) (Kd.R_base ho0) hb); replace HB := bs HB hb; (try clear hb); (try clear ho0)) | ((with_reducible refine gate_callee (f := 26) rfl ?_); refine gl 333 Try.func26 #[.slice Ao145 t1002.length co145, .int .i64 t1003] ?_; (with_reducible refine (spec_TickRow.calls kj99 _ _ t1002 t1003 t1011 t1012 t1013 _ ?side1 ?side2 A135.out).mono ?_); (case side1 => exact cr HO1005); (case side2 => exact (Kd.R_reads' HO1005.out).2.1); rintro e w147 ⟨v1014, rfl, ho0, hb⟩; refine ⟨_, rfl, ?_⟩; replace HO989 := rb HO989 hb; replace HO997 := rb HO997 hb; replace HO1001 := rb HO1001 hb; have HO1015 := Aside0.mk (Kd.R_lower (Kd.R_new' (Kd.R_new' (Kd.R_new' ho0 (Kd.R_lt (rk HO987))) (Kd.R_lt (rk HO1005))) (Kd.R_lt (rk HO1010))) (below_size (bw HB))); replace HO987 := Aside0.mk (Kd.R_elder' (rk HO987) (Kd.R_base ho0) hb); replace HO1005 := Aside0.mk (Kd.R_elder' (rk HO1005) (Kd.R_base ho0) hb); replace HO1010 := Aside0.mk (Kd.R_elder' (rk HO1010) (Kd.R_base ho0) hb); replace HB := bs HB hb; (try clear hb); (try clear ho0)))
                   (try simp only [Act.put, List.setIfInBounds_toArray, List.set_cons_zero, List.set_cons_succ])
                   refine cutF (rl [60, 64, 3, 101, 3, 152, 3, 51] false) (fun u_ wc => ∃ (kq : Nat) (x378_135 : Bool), (u_ 378) = .bool x378_135 ∧ Aside0 (laws_FnBasinsRest.j9 kq t983 t984 t985 t990 t991 x378_135 = some r) ∧ Aside0 (kq ≤ kj99) ∧ Aside0 (Kd.R k30 30 wc w.heap.size (fun _ => True) (.slice Ao138 t983.length co138) t983) ∧ Aside0 (Kd.R (Kd.int .i64) 3 wc w.heap.size (fun _ => True) (.slice Ao139 t985.length co139) t985) ∧ Aside0 (Below w.heap.size w wc)) ?first29 ?rest29
                   case first29 =>
                    as_aux_lemma =>
                     intro J_ K_ hJ_ hK_
                     have H := HC136.out
                     clear HC136
                     by_cases c148 : (t991 != t993) = true
                     ·rw [if_pos c148] at H
                      have c148b0 : (t991 != t993) = true := c148
                      (try (have c148b1 : decide (t991 = t993) = false := by simpa using c148))
                      (try (have c148b2 : (t991 == t993) = false := by simpa using c148))
                      (try (have c148b3 : ¬ (t991 = t993) := by simpa using c148))
                      clear c148
                      (first | rw [c148b0] | (simp only [i64_w, i32_w]; rw [c148b0]) | skip)
                      exact absurd H (by rw [hrt.out]; cases kj99 <;> simp [laws_FnBasinsRest.j9])
                     rw [if_neg c148] at H
                     have c148b0 : (t991 != t993) = false := by simpa using c148
                     (try (have c148b1 : decide (t991 = t993) = true := by simpa using c148))
                     (try (have c148b2 : (t991 == t993) = true := by simpa using c148))
                     clear c148
                     (first | rw [c148b0] | (simp only [i64_w, i32_w]; rw [c148b0]) | skip)
                     by_cases c149 : t990 = t992
                     rotate_left
                     ·rw [if_neg c149] at H
                      have c149b0 : (t990 == t992) = false := beq_eq_false_iff_ne.mpr c149
                      have c149b1 : (t990 != t992) = true := bne_iff_ne.mpr c149
                      exact absurd H (by rw [hrt.out]; cases kj99 <;> simp [laws_FnBasinsRest.j9])
                     rw [if_pos c149] at H
                     have c149b0 : (t990 == t992) = true := beq_iff_eq.mpr c149
                     have c149b1 : (t990 != t992) = false := bne_eq_false_iff_eq.mpr c149
                     clear c149
                     by_cases c150 : (t995 != t999) = true
                     ·rw [if_pos c150] at H
                      have c150b0 : (t995 != t999) = true := c150
                      (try (have c150b1 : decide (t995 = t999) = false := by simpa using c150))
                      (try (have c150b2 : (t995 == t999) = false := by simpa using c150))
                      (try (have c150b3 : ¬ (t995 = t999) := by simpa using c150))
                      clear c150
                      exact absurd H (by rw [hrt.out]; cases kj99 <;> simp [laws_FnBasinsRest.j9])
                     rw [if_neg c150] at H
                     have c150b0 : (t995 != t999) = false := by simpa using c150
                     (try (have c150b1 : decide (t995 = t999) = true := by simpa using c150))
                     (try (have c150b2 : (t995 == t999) = true := by simpa using c150))
                     clear c150
                     replace H := Option.bind_eq_some_iff.mp H
                     obtain ⟨t1016, A1510, H⟩ := H
                     (try dsimp only at H)
                     have A151 := Aside0.mk A1510
                     clear A1510
                     by_cases c152 : t1016 = true
                     rotate_left
                     ·replace c152 := Bool.eq_false_iff.mpr c152
                      subst c152
                      have H1 : (laws_FnBasinsRest.j9 kj99 t983 t984 t985 t990 t991 true) = some r := by rw [if_neg (show ¬ (false = true) by decide)] at H; exact H
                      clear H
                      have H := H1
                      clear H1
                      exact absurd H (by rw [hrt.out]; cases kj99 <;> simp [laws_FnBasinsRest.j9])
                     subst c152
                     have H1 : (if (t1008 != t1013) = true then (laws_FnBasinsRest.j9 kj99 t983 t984 t985 t990 t991 true) else ((laws_hBasins.f kj99 t1006 t1011).bind fun t1017 => (if t1017 = true then (if t1007 = t1012 then (if t991 = true then (laws_FnBasinsRest.j9 kj99 t983 t984 t985 t990 t991 (!t995)) else (laws_FnBasinsRest.j9 kj99 t983 t984 t985 t990 t991 false)) else (laws_FnBasinsRest.j9 kj99 t983 t984 t985 t990 t991 true)) else (laws_FnBasinsRest.j9 kj99 t983 t984 t985 t990 t991 true)))) = some r := by rw [if_pos rfl] at H; exact H
                     clear H
                     have H := H1
                     clear H1
                     by_cases c153 : (t1008 != t1013) = true
                     ·rw [if_pos c153] at H
                      have c153b0 : (t1008 != t1013) = true := c153
                      (try (have c153b1 : decide (t1008 = t1013) = false := by simpa using c153))
                      (try (have c153b2 : (t1008 == t1013) = false := by simpa using c153))
                      (try (have c153b3 : ¬ (t1008 = t1013) := by simpa using c153))
                      clear c153
                      exact absurd H (by rw [hrt.out]; cases kj99 <;> simp [laws_FnBasinsRest.j9])
                     rw [if_neg c153] at H
                     have c153b0 : (t1008 != t1013) = false := by simpa using c153
                     (try (have c153b1 : decide (t1008 = t1013) = true := by simpa using c153))
                     (try (have c153b2 : (t1008 == t1013) = true := by simpa using c153))
                     clear c153
                     replace H := Option.bind_eq_some_iff.mp H
                     obtain ⟨t1017, A1540, H⟩ := H
                     (try dsimp only at H)
                     have A154 := Aside0.mk A1540
                     clear A1540
                     by_cases c155 : t1017 = true
                     rotate_left
                     ·replace c155 := Bool.eq_false_iff.mpr c155
                      subst c155
                      have H1 : (laws_FnBasinsRest.j9 kj99 t983 t984 t985 t990 t991 true) = some r := by rw [if_neg (show ¬ (false = true) by decide)] at H; exact H
                      clear H
                      have H := H1
                      clear H1
                      exact absurd H (by rw [hrt.out]; cases kj99 <;> simp [laws_FnBasinsRest.j9])
                     subst c155
                     have H1 : (if t1007 = t1012 then (if t991 = true then (laws_FnBasinsRest.j9 kj99 t983 t984 t985 t990 t991 (!t995)) else (laws_FnBasinsRest.j9 kj99 t983 t984 t985 t990 t991 false)) else (laws_FnBasinsRest.j9 kj99 t983 t984 t985 t990 t991 true)) = some r := by rw [if_pos rfl] at H; exact H
                     clear H
                     have H := H1
                     clear H1
                     by_cases c156 : t1007 = t1012
                     rotate_left
                     ·rw [if_neg c156] at H
                      have c156b0 : (t1007 == t1012) = false := beq_eq_false_iff_ne.mpr c156
                      have c156b1 : (t1007 != t1012) = true := bne_iff_ne.mpr c156
                      exact absurd H (by rw [hrt.out]; cases kj99 <;> simp [laws_FnBasinsRest.j9])
                     rw [if_pos c156] at H
                     have c156b0 : (t1007 == t1012) = true := beq_iff_eq.mpr c156
                     have c156b1 : (t1007 != t1012) = false := bne_eq_false_iff_eq.mpr c156
                     clear c156
                     by_cases c157 : t991 = true
                     ·subst c157
                      have H1 : (laws_FnBasinsRest.j9 kj99 t983 t984 t985 t990 true (!t995)) = some r := by rw [if_pos rfl] at H; exact H
                      clear H
                      have H := H1
                      clear H1
                      have H' := Aside0.mk H
                      clear H
                      obtain ⟨Ao158, co158, eo158⟩ := Kd.R_slice HO997.out
                      subst eo158
                      obtain ⟨Ao159, co159, eo159⟩ := Kd.R_slice HO1001.out
                      subst eo159
                      go_wp2_with (first | (go_at_call 17; (with_reducible refine (laws_hSame.calls kj99 _ _ t994 _ _ t998 true _ ?side1 ?side2 ?side3 ?side4 A151.out).mono ?_); (case side1 => exact cr HO997); (case side2 => exact (Kd.R_reads' HO997.out).2.1); (case side3 => exact cr HO1001); (case side4 => exact (Kd.R_reads' HO1001.out).2.1); rintro e w' ⟨rfl, ⟨nd, rfl⟩⟩; obtain ⟨Ao160, co160, eo160⟩ := Kd.R_slice HO1010.out; subst eo160; obtain ⟨Ao161, co161, eo161⟩ := Kd.R_slice HO1015.out; subst eo161) | (go_at_call 19; (with_reducible refine (laws_hBasins.calls kj99 _ _ t1006 _ _ t1011 true _ ?side1 ?side2 ?side3 ?side4 A154.out).mono ?_); (case side1 => exact cr HO1010); (case side2 => exact (Kd.R_reads' HO1010.out).2.1); (case side3 => exact cr HO1015); (case side4 => exact (Kd.R_reads' HO1015.out).2.1); rintro e w' ⟨rfl, ⟨nd, rfl⟩⟩))
                      (refine Met.intro ?_; go_step; refine Cut_mk (by kernel_rfl) ?rel30)
                      case rel30 => exact ⟨_, (!t995), (by first | rfl | (simp; done) | (simp [*]; done)), H', ⟨by first | exact Nat.le_refl _ | exact Nat.le_of_succ_le HJ99.out | exact Nat.le_of_succ_le (Nat.le_trans HJ99.out (Nat.le_of_succ_le HJ89.out)) | exact Nat.le_of_succ_le (Nat.le_trans (Nat.le_trans HJ99.out (Nat.le_of_succ_le HJ89.out)) (Nat.le_of_succ_le HJ55.out)) | exact Nat.le_of_succ_le (Nat.le_trans (Nat.le_trans (Nat.le_trans HJ99.out (Nat.le_of_succ_le HJ89.out)) (Nat.le_of_succ_le HJ55.out)) (Nat.le_of_succ_le HJ53.out)) | exact Nat.le_of_succ_le (Nat.le_trans (Nat.le_trans (Nat.le_trans (Nat.le_trans HJ99.out (Nat.le_of_succ_le HJ89.out)) (Nat.le_of_succ_le HJ55.out)) (Nat.le_of_succ_le HJ53.out)) (Nat.le_of_succ_le HJ33.out)) | exact Nat.le_of_succ_le (Nat.le_trans (Nat.le_trans (Nat.le_trans (Nat.le_trans (Nat.le_trans HJ99.out (Nat.le_of_succ_le HJ89.out)) (Nat.le_of_succ_le HJ55.out)) (Nat.le_of_succ_le HJ53.out)) (Nat.le_of_succ_le HJ33.out)) (Nat.le_of_succ_le HJ9.out)) | exact Nat.le_of_succ_le HJ89.out | (have := HJ9.out; have := HJ33.out; have := HJ53.out; have := HJ55.out; have := HJ89.out; have := HJ99.out; omega)⟩, ⟨by exact Kd.R_mono HO987.out (fun _ hk => trivial)⟩, ⟨by exact Kd.R_mono HO989.out (fun _ hk => trivial)⟩, ⟨bw HB⟩⟩
                     replace c157 := Bool.eq_false_iff.mpr c157
                     subst c157
                     have H1 : (laws_FnBasinsRest.j9 kj99 t983 t984 t985 t990 false false) = some r := by rw [if_neg (show ¬ (false = true) by decide)] at H; exact H
                     clear H
                     have H := H1
                     clear H1
                     have H' := Aside0.mk H
                     clear H
                     obtain ⟨Ao162, co162, eo162⟩ := Kd.R_slice HO997.out
                     subst eo162
                     obtain ⟨Ao163, co163, eo163⟩ := Kd.R_slice HO1001.out
                     subst eo163
                     go_wp2_with (first | (go_at_call 17; (with_reducible refine (laws_hSame.calls kj99 _ _ t994 _ _ t998 true _ ?side1 ?side2 ?side3 ?side4 A151.out).mono ?_); (case side1 => exact cr HO997); (case side2 => exact (Kd.R_reads' HO997.out).2.1); (case side3 => exact cr HO1001); (case side4 => exact (Kd.R_reads' HO1001.out).2.1); rintro e w' ⟨rfl, ⟨nd, rfl⟩⟩; obtain ⟨Ao164, co164, eo164⟩ := Kd.R_slice HO1010.out; subst eo164; obtain ⟨Ao165, co165, eo165⟩ := Kd.R_slice HO1015.out; subst eo165) | (go_at_call 19; (with_reducible refine (laws_hBasins.calls kj99 _ _ t1006 _ _ t1011 true _ ?side1 ?side2 ?side3 ?side4 A154.out).mono ?_); (case side1 => exact cr HO1010); (case side2 => exact (Kd.R_reads' HO1010.out).2.1); (case side3 => exact cr HO1015); (case side4 => exact (Kd.R_reads' HO1015.out).2.1); rintro e w' ⟨rfl, ⟨nd, rfl⟩⟩))
                     (refine Met.intro ?_; go_step; refine Cut_mk (by kernel_rfl) ?rel31)
                     case rel31 => exact ⟨_, (false), (by first | rfl | (simp; done) | (simp [*]; done)), H', ⟨by first | exact Nat.le_refl _ | exact Nat.le_of_succ_le HJ99.out | exact Nat.le_of_succ_le (Nat.le_trans HJ99.out (Nat.le_of_succ_le HJ89.out)) | exact Nat.le_of_succ_le (Nat.le_trans (Nat.le_trans HJ99.out (Nat.le_of_succ_le HJ89.out)) (Nat.le_of_succ_le HJ55.out)) | exact Nat.le_of_succ_le (Nat.le_trans (Nat.le_trans (Nat.le_trans HJ99.out (Nat.le_of_succ_le HJ89.out)) (Nat.le_of_succ_le HJ55.out)) (Nat.le_of_succ_le HJ53.out)) | exact Nat.le_of_succ_le (Nat.le_trans (Nat.le_trans (Nat.le_trans (Nat.le_trans HJ99.out (Nat.le_of_succ_le HJ89.out)) (Nat.le_of_succ_le HJ55.out)) (Nat.le_of_succ_le HJ53.out)) (Nat.le_of_succ_le HJ33.out)) | exact Nat.le_of_succ_le (Nat.le_trans (Nat.le_trans (Nat.le_trans (Nat.le_trans (Nat.le_trans HJ99.out (Nat.le_of_succ_le HJ89.out)) (Nat.le_of_succ_le HJ55.out)) (Nat.le_of_succ_le HJ53.out)) (Nat.le_of_succ_le HJ33.out)) (Nat.le_of_succ_le HJ9.out)) | exact Nat.le_of_succ_le HJ89.out | (have := HJ9.out; have := HJ33.out; have := HJ53.out; have := HJ55.out; have := HJ89.out; have := HJ99.out; omega)⟩, ⟨by exact Kd.R_mono HO987.out (fun _ hk => trivial)⟩, ⟨by exact Kd.R_mono HO989.out (fun _ hk => trivial)⟩, ⟨bw HB⟩⟩
                   case rest29 =>
                     intro u_ wc hcut l_ hl_; (simp only [rl, List.reduceReplicate, List.cons_append, List.nil_append, List.append_nil, Bool.not_true, Bool.not_false, fu, Nat.reduceAdd] at hl_); subst hl_; generalize u_ 378 = v378 at hcut ⊢
                     clear HC136
                     (try clear c1); (try clear c4); (try clear c33); (try clear c99)
                     obtain ⟨kq, x378_135, rfl, HA, HJ135, HO_36, HO_38, HB⟩ := hcut
                     cases kq with
                     | zero => exact absurd HA.out (by simp [laws_FnBasinsRest.j9])
                     | succ kj135 =>
                      have H := HA.out
                      clear HA
                      simp only [laws_FnBasinsRest.j9] at H
                      by_cases c166 : x378_135 = true
                      ·subst c166
                       have H1 : (some false) = some r := by rw [if_pos rfl] at H; exact H
                       clear H
                       have H := H1
                       clear H1
                       exact absurd ((Option.some.inj H).trans hrt.out) (by decide)
                      replace c166 := Bool.eq_false_iff.mpr c166
                      subst c166
                      have H1 : (if t991 = true then ((some (([t990, wrap64 (t990 - 1)] : List Int) : List Int)).bind fun y1018 => (laws_FnBasinsRest.l2 kj135 t983 t984 t985 t990 y1018 (y1018.length : Int) 0)) else (some true)) = some r := by rw [if_neg (show ¬ (false = true) by decide)] at H; exact H
                      clear H
                      have H := H1
                      clear H1
                      by_cases c167 : t991 = true
                      rotate_left
                      ·replace c167 := Bool.eq_false_iff.mpr c167
                       subst c167
                       have H1 : (some true) = some r := by rw [if_neg (show ¬ (false = true) by decide)] at H; exact H
                       clear H
                       have H := H1
                       clear H1
                       obtain rfl := Option.some.inj H
                       go_wp2
                       go_ret
                       exact ⟨by first | rfl | (simp [errW_none, errW_some] <;> rfl) | (simp [*, errW_none, errW_some] <;> rfl), bw HB⟩
                      subst c167
                      have H1 : ((some (([t990, wrap64 (t990 - 1)] : List Int) : List Int)).bind fun y1018 => (laws_FnBasinsRest.l2 kj135 t983 t984 t985 t990 y1018 (y1018.length : Int) 0)) = some r := by rw [if_pos rfl] at H; exact H
                      clear H
                      have H := H1
                      clear H1
                      obtain ⟨y1018, hy1018⟩ : ∃ y_ : List Int, y_ = (([t990, wrap64 (t990 - 1)] : List Int)) := ⟨_, rfl⟩
                      replace H : (laws_FnBasinsRest.l2 kj135 t983 t984 t985 t990 y1018 (y1018.length : Int) 0) = some r := by first | (rw [hy1018]; with_reducible exact H) | (have H2_ := (Option.bind_some _ _).symm.trans H; rw [hy1018]; with_reducible exact H2_) | (have H2_ := (Option.bind_some _ _).symm.trans H; with_reducible exact H2_) | with_reducible exact H | (rw [hy1018]; exact H) | exact H
                      have Ny1018 := Aside0.mk hy1018
                      clear hy1018
                      have H' := Aside0.mk H
                      clear H
                      go_wp2_with (first | ((with_reducible refine gate_dst (N := 383) rfl ?_); refine Kd.R_lit (Kd.int .i64) _ 3 ?hg (N := 383) ?hd (xs := ([t990, wrap64 (t990 - 1)] : List Int)) (inner := [.int .i64 t990, .int .i64 (wrap64 (t990 - 1))]) (ok := fun _ => True) (okp := fun _ => True) ?hr ?hp (fun _ hk => hk) trivial (Below.refl _ _) (Nat.le_refl _) (by simp) ?_; (case hd => rfl); (case hg => rfl); (case hr => first | (go_simp; done) | (go_simp; rfl)); (case hp => exact (Reps.one (show Kd.M (Kd.int .i64) _ _ _ t990 [.int .i64 t990] from rfl) (Reps.one (show Kd.M (Kd.int .i64) _ _ _ (wrap64 (t990 - 1)) [.int .i64 (wrap64 (t990 - 1))] from rfl) (Reps.none _ _)))); intro v1019 w168 ho169 hb hg_ hnew_; clear hg_ hnew_; (first | rw [← Ny1018.out] at ho169 | (simp only [Int.reduceToNat] at ho169; rw [← Ny1018.out] at ho169)); replace HO_36 := rb HO_36 hb; have HO1020 := Aside0.mk (Kd.R_lower (Kd.R_new' ho169 (Kd.R_lt (rk HO_38))) (below_size (bw HB))); replace HO_38 := Aside0.mk (Kd.R_elder' (rk HO_38) (Kd.R_base ho169) hb); replace HB := bs HB hb; clear hb ho169; obtain ⟨Ao170, co170, eo170⟩ := Kd.R_slice HO1020.out; subst eo170))
                      try simp only [Act.put, List.setIfInBounds_toArray, List.set_cons_zero, List.set_cons_succ]
                      refine loopF (rl [4, 1, 51, 4, 325, 52] false) kj135 (fun kq u_ w' => ∃ (x36_8 : List (S30)) (x385_8 : Int), (u_ 385) = .int .i64 x385_8 ∧ Aside0 (laws_FnBasinsRest.l2 kq x36_8 t984 t985 t990 y1018 (y1018.length : Int) x385_8 = some r) ∧ Aside0 (kq ≤ kj135) ∧ Aside0 (Kd.R k30 30 w' w.heap.size (fun _ => True) (.slice Ao138 t983.length co138) x36_8) ∧ Aside0 (Kd.R (Kd.int .i64) 3 w' w.heap.size (fun k_ => some k_ ≠ ((.slice Ao170 y1018.length co170) : Value).ownBlock) (.slice Ao139 t985.length co139) t985) ∧ Aside0 (Kd.R (Kd.int .i64) 3 w' w.heap.size (fun k_ => some k_ ≠ ((.slice Ao139 t985.length co139) : Value).ownBlock) (.slice Ao170 y1018.length co170) y1018) ∧ Aside0 (Below w.heap.size w w')) ?atStart32 ?round32
                      case atStart32 => exact ⟨(t983), (0), (by first | rfl | (simp; done) | (simp [*]; done)), H', ⟨Nat.le_refl _⟩, ⟨rk HO_36⟩, ⟨by exact Kd.R_mono HO_38.out (fun _ hk => hk.2)⟩, ⟨by exact Kd.R_mono HO1020.out (fun _ hk => hk.2)⟩, ⟨bw HB⟩⟩
                      case round32 =>
                       intro gk u_ wr hrel l_ hl_; (simp only [rl, List.reduceReplicate, List.cons_append, List.nil_append, List.append_nil, Bool.not_true, Bool.not_false, fu, Nat.reduceAdd] at hl_); subst hl_; generalize u_ 385 = v385 at hrel ⊢
                       intro J_ K_ hJ_ hK_
                       clear H'
                       (try clear c1); (try clear c4); (try clear c33); (try clear c99); (try clear c166); (try clear c167)
                       obtain ⟨x36_8, x385_8, rfl, HA, HK8, HO_36, HO_38, HO_383, HB⟩ := hrel
                       have hl36_8 := (Kd.R_reads' HO_36.out).1
                       rw [hl36_8] at HO_36
                       (try simp only [hl36_8])
                       (try simp only [hl36_8] at HO_38)
                       (try simp only [hl36_8] at HO_383)
                       cases gk with
                       | zero => exact absurd HA.out (by simp [laws_FnBasinsRest.l2])
                       | succ k8 =>
                        have H := HA.out
                        clear HA
                        simp only [laws_FnBasinsRest.l2] at H
                        by_cases c171 : x385_8 < (y1018.length : Int)
                        rotate_left
                        ·rw [if_neg c171] at H
                         have c171b0 : decide (x385_8 < (y1018.length : Int)) = false := decide_eq_false c171
                         (try rw [hl36_8] at c171b0)
                         clear c171
                         obtain rfl := Option.some.inj H
                         go_wp2
                         go_ret
                         exact ⟨by first | rfl | (simp [errW_none, errW_some] <;> rfl) | (simp [*, errW_none, errW_some] <;> rfl), bw HB⟩
                        rw [if_pos c171] at H
                        have c171b0 : decide (x385_8 < (y1018.length : Int)) = true := decide_eq_true c171
                        (try rw [hl36_8] at c171b0)
                        clear c171
                        by_cases c172 : 0 ≤ x385_8
                        rotate_left
                        ·rw [if_neg c172] at H
                         exact absurd H (by simp)
                        rw [if_pos c172] at H
                        have c172b0 : decide (0 ≤ x385_8) = true := decide_eq_true c172
                        clear c172
                        by_cases c173 : x385_8 < (y1018.length : Int)
                        rotate_left
                        ·rw [if_neg c173] at H
                         exact absurd H (by simp)
                        rw [if_pos c173] at H
                        have c173b0 : decide (x385_8 < (y1018.length : Int)) = true := decide_eq_true c173
                        (try rw [hl36_8] at c173b0)
                        clear c173
                        have HC174 := Aside0.mk H
                        clear H
                        have p1021 : 0 ≤ (x385_8 : Int) := of_decide_eq_true ‹_›
                        have q1021 : x385_8 < (y1018.length : Int) := of_decide_eq_true ‹_›
                        obtain ⟨ad1021, e1021, hx1021_0⟩ := Kd.at_int (Kd.R_reads' HO_383.out).2.2 x385_8 p1021 q1021
                        cases e1021
                        replace p1021 := eq_true p1021
                        replace q1021 := eq_true q1021
                        go_upto_region 61 with (fail)
                        refine cutF (rl [386, 51] false) (fun u_ wc => ∃ (kq : Nat) (x399_173 : Bool), (u_ 399) = .bool x399_173 ∧ Aside0 (laws_FnBasinsRest.j11 kq x36_8 t984 t985 t990 (rd y1018 x385_8) y1018 (y1018.length : Int) x385_8 x399_173 = some r) ∧ Aside0 (kq ≤ k8) ∧ Aside0 (Kd.R k30 30 wc w.heap.size (fun _ => True) (.slice Ao138 x36_8.length co138) x36_8) ∧ Aside0 (Kd.R (Kd.int .i64) 3 wc w.heap.size (fun k_ => some k_ ≠ ((.slice (some ad1021) y1018.length co170) : Value).ownBlock) (.slice Ao139 t985.length co139) t985) ∧ Aside0 (Kd.R (Kd.int .i64) 3 wc w.heap.size (fun k_ => some k_ ≠ ((.slice Ao139 t985.length co139) : Value).ownBlock) (.slice (some ad1021) y1018.length co170) y1018) ∧ Aside0 (Below w.heap.size w wc)) ?first33 ?rest33
                        case first33 =>
                         as_aux_lemma =>
                          intro J_ K_ hJ_ hK_
                          have H := HC174.out
                          clear HC174
                          by_cases c175 : (rd y1018 x385_8) < 1
                          ·rw [if_pos c175] at H
                           have c175b0 : decide ((rd y1018 x385_8) < 1) = true := decide_eq_true c175
                           clear c175
                           (first | rw [c175b0] | (simp only [i64_w, i32_w]; rw [c175b0]) | skip)
                           have H' := Aside0.mk H
                           clear H
                           go_wp2
                           (refine Met.intro ?_; go_step; refine Cut_mk (by kernel_rfl) ?rel34)
                           case rel34 => exact ⟨_, (true), (by first | rfl | (simp; done) | (simp [*]; done)), H', ⟨by first | exact Nat.le_refl _ | exact Nat.le_of_succ_le HK8.out | exact Nat.le_of_succ_le (Nat.le_trans HK8.out (Nat.le_of_succ_le HJ135.out)) | exact Nat.le_of_succ_le (Nat.le_trans (Nat.le_trans HK8.out (Nat.le_of_succ_le HJ135.out)) (Nat.le_of_succ_le HJ99.out)) | exact Nat.le_of_succ_le (Nat.le_trans (Nat.le_trans (Nat.le_trans HK8.out (Nat.le_of_succ_le HJ135.out)) (Nat.le_of_succ_le HJ99.out)) (Nat.le_of_succ_le HJ89.out)) | exact Nat.le_of_succ_le (Nat.le_trans (Nat.le_trans (Nat.le_trans (Nat.le_trans HK8.out (Nat.le_of_succ_le HJ135.out)) (Nat.le_of_succ_le HJ99.out)) (Nat.le_of_succ_le HJ89.out)) (Nat.le_of_succ_le HJ55.out)) | exact Nat.le_of_succ_le (Nat.le_trans (Nat.le_trans (Nat.le_trans (Nat.le_trans (Nat.le_trans HK8.out (Nat.le_of_succ_le HJ135.out)) (Nat.le_of_succ_le HJ99.out)) (Nat.le_of_succ_le HJ89.out)) (Nat.le_of_succ_le HJ55.out)) (Nat.le_of_succ_le HJ53.out)) | exact Nat.le_of_succ_le (Nat.le_trans (Nat.le_trans (Nat.le_trans (Nat.le_trans (Nat.le_trans (Nat.le_trans HK8.out (Nat.le_of_succ_le HJ135.out)) (Nat.le_of_succ_le HJ99.out)) (Nat.le_of_succ_le HJ89.out)) (Nat.le_of_succ_le HJ55.out)) (Nat.le_of_succ_le HJ53.out)) (Nat.le_of_succ_le HJ33.out)) | (have := HJ9.out; have := HJ33.out; have := HJ53.out; have := HJ55.out; have := HJ89.out; have := HJ99.out; have := HJ135.out; have := HK8.out; omega)⟩, ⟨by (try simp only [hl36_8]); exact HO_36.out⟩, ⟨by (try simp only [hl36_8]); exact HO_38.out⟩, ⟨by (try simp only [hl36_8]); exact HO_383.out⟩, ⟨bw HB⟩⟩
                          rw [if_neg c175] at H
                          have c175b0 : decide ((rd y1018 x385_8) < 1) = false := decide_eq_false c175
                          clear c175
                          (first | rw [c175b0] | (simp only [i64_w, i32_w]; rw [c175b0]) | skip)
                          by_cases c176 : 0 ≤ t984
                          rotate_left
                          ·rw [if_neg c176] at H
                           exact absurd H (by simp)
                          rw [if_pos c176] at H
                          have c176b0 : decide (0 ≤ t984) = true := decide_eq_true c176
                          clear c176
                          by_cases c177 : t984 < (x36_8.length : Int)
                          rotate_left
                          ·rw [if_neg c177] at H
                           exact absurd H (by simp)
                          rw [if_pos c177] at H
                          have c177b0 : decide (t984 < (x36_8.length : Int)) = true := decide_eq_true c177
                          (try rw [hl36_8] at c177b0)
                          clear c177
                          have H' := Aside0.mk H
                          clear H
                          have p1022 : 0 ≤ (t984 : Int) := of_decide_eq_true ‹_›
                          have q1022 : t984 < (x36_8.length : Int) := of_decide_eq_true ‹_›
                          obtain ⟨ad1022, e1022, hx1022_0, hx1022_1, hx1022_2⟩ := at_T30 (Kd.R_reads' HO_36.out).2.2 t984 p1022 q1022
                          cases e1022
                          replace p1022 := eq_true p1022
                          replace q1022 := eq_true q1022
                          go_wp2
                          (refine Met.intro ?_; go_step; refine Cut_mk (by kernel_rfl) ?rel35)
                          case rel35 => exact ⟨_, (decide ((rd y1018 x385_8) < ((rd_T30 x36_8 t984).f2))), (by first | rfl | (simp; done) | (simp [*]; done)), H', ⟨by first | exact Nat.le_refl _ | exact Nat.le_of_succ_le HK8.out | exact Nat.le_of_succ_le (Nat.le_trans HK8.out (Nat.le_of_succ_le HJ135.out)) | exact Nat.le_of_succ_le (Nat.le_trans (Nat.le_trans HK8.out (Nat.le_of_succ_le HJ135.out)) (Nat.le_of_succ_le HJ99.out)) | exact Nat.le_of_succ_le (Nat.le_trans (Nat.le_trans (Nat.le_trans HK8.out (Nat.le_of_succ_le HJ135.out)) (Nat.le_of_succ_le HJ99.out)) (Nat.le_of_succ_le HJ89.out)) | exact Nat.le_of_succ_le (Nat.le_trans (Nat.le_trans (Nat.le_trans (Nat.le_trans HK8.out (Nat.le_of_succ_le HJ135.out)) (Nat.le_of_succ_le HJ99.out)) (Nat.le_of_succ_le HJ89.out)) (Nat.le_of_succ_le HJ55.out)) | exact Nat.le_of_succ_le (Nat.le_trans (Nat.le_trans (Nat.le_trans (Nat.le_trans (Nat.le_trans HK8.out (Nat.le_of_succ_le HJ135.out)) (Nat.le_of_succ_le HJ99.out)) (Nat.le_of_succ_le HJ89.out)) (Nat.le_of_succ_le HJ55.out)) (Nat.le_of_succ_le HJ53.out)) | exact Nat.le_of_succ_le (Nat.le_trans (Nat.le_trans (Nat.le_trans (Nat.le_trans (Nat.le_trans (Nat.le_trans HK8.out (Nat.le_of_succ_le HJ135.out)) (Nat.le_of_succ_le HJ99.out)) (Nat.le_of_succ_le HJ89.out)) (Nat.le_of_succ_le HJ55.out)) (Nat.le_of_succ_le HJ53.out)) (Nat.le_of_succ_le HJ33.out)) | (have := HJ9.out; have := HJ33.out; have := HJ53.out; have := HJ55.out; have := HJ89.out; have := HJ99.out; have := HJ135.out; have := HK8.out; omega)⟩, ⟨by (try simp only [hl36_8]); exact HO_36.out⟩, ⟨by (try simp only [hl36_8]); exact HO_38.out⟩, ⟨by (try simp only [hl36_8]); exact HO_383.out⟩, ⟨bw HB⟩⟩
                        case rest33 =>
                          intro u_ wc hcut l_ hl_; (simp only [rl, List.reduceReplicate, List.cons_append, List.nil_append, List.append_nil, Bool.not_true, Bool.not_false, fu, Nat.reduceAdd] at hl_); subst hl_; generalize u_ 399 = v399 at hcut ⊢
                          clear HC174
                          (try clear c1); (try clear c4); (try clear c33); (try clear c99); (try clear c166); (try clear c167); (try clear c171); (try clear c171b0); (try clear c172); (try clear c172b0); (try clear c173); (try clear c173b0); (try clear hx1021_0); (try clear p1021); (try clear q1021)
                          obtain ⟨kq, x399_173, rfl, HA, HJ173, HO_36, HO_38, HO_383, HB⟩ := hcut
                          cases kq with
                          | zero => exact absurd HA.out (by simp [laws_FnBasinsRest.j11])
                          | succ kj173 =>
                           have H := HA.out
                           clear HA
                           simp only [laws_FnBasinsRest.j11] at H
                           by_cases c178 : x399_173 = true
                           ·subst c178
                            have H1 : (laws_FnBasinsRest.l2 kj173 x36_8 t984 t985 t990 y1018 (y1018.length : Int) (wrap64 (x385_8 + 1))) = some r := by rw [if_pos rfl] at H; exact H
                            clear H
                            have H := H1
                            clear H1
                            have H' := Aside0.mk H
                            clear H
                            go_wp2
                            (try simp only [← hl36_8])
                            (refine Handed.intro kj173 ?measure36 ?_; rotate_left; go_step; refine LoopI_mk (by kernel_rfl) ?rel36)
                            case measure36 => have := HJ9.out; have := HJ33.out; have := HJ53.out; have := HJ55.out; have := HJ89.out; have := HJ99.out; have := HJ135.out; have := HK8.out; have := HJ173.out; omega
                            case rel36 => exact ⟨(x36_8), (wrap64 (x385_8 + 1)), (by first | rfl | (simp; done) | (simp [*]; done)), H', ⟨by have := HJ9.out; have := HJ33.out; have := HJ53.out; have := HJ55.out; have := HJ89.out; have := HJ99.out; have := HJ135.out; have := HK8.out; have := HJ173.out; omega⟩, ⟨by (try simp only [hl36_8]); exact HO_36.out⟩, ⟨by (try simp only [hl36_8]); exact HO_38.out⟩, ⟨by (try simp only [hl36_8]); exact HO_383.out⟩, ⟨bw HB⟩⟩
                           replace c178 := Bool.eq_false_iff.mpr c178
                           subst c178
                           have H1 : (if ([] : List (S30)).length + x36_8.length < 5864062014805 then ((some (([] : List (S30)) ++ x36_8 : List (S30))).bind fun y1023 => (if 0 ≤ t984 then (if t984 < (x36_8.length : Int) then (if t984 < (y1023.length : Int) then ((impl_SpillsOf.f kj173 (y1023.set (t984 : Int).toNat (⟨(rd y1018 x385_8), (rd_T30 x36_8 t984).f1, (rd_T30 x36_8 t984).f2⟩ : S30)) t985).bind fun bt1029 => (if bt1029.2 = true then (if t984 < (bt1029.1.length : Int) then (if ((decide ((rd bt1029.1 t984) > 0)) != (decide ((rd y1018 x385_8) < t990))) = true then (some false) else (laws_FnBasinsRest.l2 kj173 x36_8 t984 t985 t990 y1018 (y1018.length : Int) (wrap64 (x385_8 + 1)))) else (none)) else (some false))) else (none)) else (none)) else (none))) else (none)) = some r := by rw [if_neg (show ¬ (false = true) by decide)] at H; exact H
                           clear H
                           have H := H1
                           clear H1
                           by_cases c179 : ([] : List (S30)).length + x36_8.length < 5864062014805
                           rotate_left
                           ·rw [if_neg c179] at H
                            exact absurd H (by simp)
                           rw [if_pos c179] at H
                           have LMc179 := Aside0.mk c179
                           clear c179
                           obtain ⟨y1023, hy1023⟩ : ∃ y_ : List (S30), y_ = (([] : List (S30)) ++ x36_8) := ⟨_, rfl⟩
                           replace H : (if 0 ≤ t984 then (if t984 < (x36_8.length : Int) then (if t984 < (y1023.length : Int) then ((impl_SpillsOf.f kj173 (y1023.set (t984 : Int).toNat (⟨(rd y1018 x385_8), (rd_T30 x36_8 t984).f1, (rd_T30 x36_8 t984).f2⟩ : S30)) t985).bind fun bt1029 => (if bt1029.2 = true then (if t984 < (bt1029.1.length : Int) then (if ((decide ((rd bt1029.1 t984) > 0)) != (decide ((rd y1018 x385_8) < t990))) = true then (some false) else (laws_FnBasinsRest.l2 kj173 x36_8 t984 t985 t990 y1018 (y1018.length : Int) (wrap64 (x385_8 + 1)))) else (none)) else (some false))) else (none)) else (none)) else (none)) = some r := by first | (rw [hy1023]; with_reducible exact H) | (have H2_ := (Option.bind_some _ _).symm.trans H; rw [hy1023]; with_reducible exact H2_) | (have H2_ := (Option.bind_some _ _).symm.trans H; with_reducible exact H2_) | with_reducible exact H | (rw [hy1023]; exact H) | exact H
                           have Ny1023 := Aside0.mk hy1023
                           clear hy1023
                           by_cases c180 : 0 ≤ t984
                           rotate_left
                           ·rw [if_neg c180] at H
                            exact absurd H (by simp)
                           rw [if_pos c180] at H
                           have c180b0 : decide (0 ≤ t984) = true := decide_eq_true c180
                           clear c180
                           by_cases c181 : t984 < (x36_8.length : Int)
                           rotate_left
                           ·rw [if_neg c181] at H
                            exact absurd H (by simp)
                           rw [if_pos c181] at H
                           have c181b0 : decide (t984 < (x36_8.length : Int)) = true := decide_eq_true c181
                           (try rw [hl36_8] at c181b0)
                           clear c181
                           by_cases c182 : t984 < (y1023.length : Int)
                           rotate_left
                           ·rw [if_neg c182] at H
                            exact absurd H (by simp)
                           rw [if_pos c182] at H
                           have c182b0 : decide (t984 < (y1023.length : Int)) = true := decide_eq_true c182
                           (try rw [hl36_8] at c182b0)
                           clear c182
                           obtain ⟨y1028, hy1028⟩ : ∃ y_ : List (S30), y_ = (y1023.set (t984 : Int).toNat (⟨(rd y1018 x385_8), (rd_T30 x36_8 t984).f1, (rd_T30 x36_8 t984).f2⟩ : S30)) := ⟨_, rfl⟩
                           replace H : ((impl_SpillsOf.f kj173 y1028 t985).bind fun bt1029 => (if bt1029.2 = true then (if t984 < (bt1029.1.length : Int) then (if ((decide ((rd bt1029.1 t984) > 0)) != (decide ((rd y1018 x385_8) < t990))) = true then (some false) else (laws_FnBasinsRest.l2 kj173 x36_8 t984 t985 t990 y1018 (y1018.length : Int) (wrap64 (x385_8 + 1)))) else (none)) else (some false))) = some r := by first | (rw [hy1028]; with_reducible exact H) | (have H2_ := (Option.bind_some _ _).symm.trans H; rw [hy1028]; with_reducible exact H2_) | (have H2_ := (Option.bind_some _ _).symm.trans H; with_reducible exact H2_) | with_reducible exact H | (rw [hy1028]; exact H) | exact H
                           have Ny1028 := Aside0.mk hy1028
                           clear hy1028
                           replace H := Option.bind_eq_some_iff.mp H
                           obtain ⟨⟨t1029, t1030⟩, A1840, H⟩ := H
                           (try dsimp only at H)
                           have A184 := Aside0.mk A1840
                           clear A1840
                           by_cases c185 : t1030 = true
                           rotate_left
                           ·replace c185 := Bool.eq_false_iff.mpr c185
                            subst c185
                            have H1 : (some false) = some r := by rw [if_neg (show ¬ (false = true) by decide)] at H; exact H
                            clear H
                            have H := H1
                            clear H1
                            exact absurd ((Option.some.inj H).trans hrt.out) (by decide)
                           subst c185
                           have H1 : (if t984 < (t1029.length : Int) then (if ((decide ((rd t1029 t984) > 0)) != (decide ((rd y1018 x385_8) < t990))) = true then (some false) else (laws_FnBasinsRest.l2 kj173 x36_8 t984 t985 t990 y1018 (y1018.length : Int) (wrap64 (x385_8 + 1)))) else (none)) = some r := by rw [if_pos rfl] at H; exact H
                           clear H
                           have H := H1
                           clear H1
                           by_cases c186 : t984 < (t1029.length : Int)
                           rotate_left
                           ·rw [if_neg c186] at H
                            exact absurd H (by simp)
                           rw [if_pos c186] at H
                           have c186b0 : decide (t984 < (t1029.length : Int)) = true := decide_eq_true c186
                           (try rw [hl36_8] at c186b0)
                           clear c186
                           by_cases c187 : ((decide ((rd t1029 t984) > 0)) != (decide ((rd y1018 x385_8) < t990))) = true
                           ·rw [if_pos c187] at H
                            have c187b0 : ((decide ((rd t1029 t984) > 0)) != (decide ((rd y1018 x385_8) < t990))) = true := c187
                            (try (have c187b1 : decide ((decide ((rd t1029 t984) > 0)) = (decide ((rd y1018 x385_8) < t990))) = false := by simpa using c187))
                            (try (have c187b2 : ((decide ((rd t1029 t984) > 0)) == (decide ((rd y1018 x385_8) < t990))) = false := by simpa using c187))
                            (try (have c187b3 : ¬ ((decide ((rd t1029 t984) > 0)) = (decide ((rd y1018 x385_8) < t990))) := by simpa using c187))
                            clear c187
                            exact absurd ((Option.some.inj H).trans hrt.out) (by decide)
                           rw [if_neg c187] at H
                           have c187b0 : ((decide ((rd t1029 t984) > 0)) != (decide ((rd y1018 x385_8) < t990))) = false := by simpa using c187
                           (try (have c187b1 : decide ((decide ((rd t1029 t984) > 0)) = (decide ((rd y1018 x385_8) < t990))) = true := by simpa using c187))
                           (try (have c187b2 : ((decide ((rd t1029 t984) > 0)) == (decide ((rd y1018 x385_8) < t990))) = true := by simpa using c187))
                           clear c187
                           have H' := Aside0.mk H
                           clear H
                           go_wp2_with (first | ((with_reducible refine gate_builtin (b := .append) (xs := #[.const (.slice none 0 0), .tmp 400]) rfl ?_); at_builtin; refine Kd.R_append_rows k30 (w0 := w) w.heap.size rfl (.const (.slice none 0 0)) (.tmp 400) 24 30 (.agg #[(.int .i64 0), (.int .i64 0), (.int .i64 0)]) 24 rfl Try.underlying24 info30 rfl (by decide) (by omega) (.slice none 0 0) ([] : List (S30)) x36_8 _ _ _ (fun k_ => some k_ ≠ (.slice Ao138 x36_8.length co138 : Value).ownBlock) (fun _ => False) rfl rfl ?aO ?aR (fun _ _ h => h) (fun _ h => h.elim) ?aF ?aB ?aS ?aL ?_; (case aR => exact cr HO_36); (case aB => exact (bw HB)); (case aF => exact (fun k_ hk => Kd.fresh' (Kd.R_lt (rk HO_36)) k_ hk)); (case aO => exact ((Kd.R_nil _ _ _ _ (fun k_ => some k_ ≠ (.slice Ao138 x36_8.length co138 : Value).ownBlock)))); (case aS => exact (below_size (bw HB))); (case aL => have := LMc179.out; omega); intro v1024 w188 ho hb hg hat; rw [← Ny1023.out] at ho; replace HO_36 := Aside0.mk (Kd.R_after (Kd.R_apart_nil (rk HO_36)) hg hat); replace HO_38 := Aside0.mk (Kd.R_grown (rk HO_38) hg (fun _ _ => by simp [Value.ownBlock])); replace HO_383 := Aside0.mk (Kd.R_grown (rk HO_383) hg (fun _ _ => by simp [Value.ownBlock])); replace HB := Aside0.mk (hb); have HO1025 := Aside0.mk (ho); clear ho hb hg hat))
                           replace HO_36 := Aside0.mk (Kd.R_drew HO_36.out)
                           replace HO_38 := Aside0.mk (Kd.R_drew HO_38.out)
                           replace HO_383 := Aside0.mk (Kd.R_drew HO_383.out)
                           replace HO1025 := Aside0.mk (Kd.R_drew HO1025.out)
                           replace HB := Aside0.mk (below_drew1 HB.out)
                           have p1026 : 0 ≤ (t984 : Int) := of_decide_eq_true ‹_›
                           have q1026 : t984 < (x36_8.length : Int) := of_decide_eq_true ‹_›
                           obtain ⟨ad1026, e1026, hx1026_0, hx1026_1, hx1026_2⟩ := at_T30 (Kd.R_reads' HO_36.out).2.2 t984 p1026 q1026
                           cases e1026
                           replace p1026 := eq_true p1026
                           replace q1026 := eq_true q1026
                           have p1027 : 0 ≤ (t984 : Int) := of_decide_eq_true ‹_›
                           have q1027 : t984 < (x36_8.length : Int) := of_decide_eq_true ‹_›
                           obtain ⟨ad1027, e1027, hx1027_0, hx1027_1, hx1027_2⟩ := at_T30 (Kd.R_reads' HO_36.out).2.2 t984 p1027 q1027
                           obtain rfl : ad1026 = ad1027 := (by injection e1027)
                           replace p1027 := eq_true p1027
                           replace q1027 := eq_true q1027
                           have p183 : 0 ≤ (t984 : Int) := of_decide_eq_true ‹_›
                           have q183 : (t984 : Int) < ((y1023.length : Int) : Int) := of_decide_eq_true ‹_›
                           obtain ⟨go183, co183, eo183, gb183, gl183, cl183, HG183⟩ := Kd.R_form HO1025.out (by omega)
                           (first | cases eo183 | (injection eo183 with ea_ en_ ec_; (first | subst ea_ | (injection ea_ with ea_; subst ea_)); subst ec_; clear en_))
                           have GB183 := Aside0.mk gb183
                           have GG183 := Aside0.mk HG183
                           clear gb183 gl183 HG183
                           obtain ⟨ce183, hcl183, hM183, hcc183, hfr183⟩ := Kd.R_elem HO1025.out z30 (t984 : Int) p183 q183
                           obtain rfl := k30_openM hM183
                           have hx183_0 : World.cell? _ ⟨go183, (t984 : Int).toNat * 3, none⟩ = some (.int .i64 ((rd_T30 y1023 t984).f0)) := hcc183 0 _ rfl
                           have hx183_1 : World.cell? _ ⟨go183, (t984 : Int).toNat * 3 + 1, none⟩ = some (.int .i64 ((rd_T30 y1023 t984).f1)) := hcc183 1 _ rfl
                           have hx183_2 : World.cell? _ ⟨go183, (t984 : Int).toNat * 3 + 2, none⟩ = some (.int .i64 ((rd_T30 y1023 t984).f2)) := hcc183 2 _ rfl
                           have hf183_0 : World.frozen? _ ⟨go183, (t984 : Int).toNat * 3, none⟩ = false := hfr183 0
                           have hf183_1 : World.frozen? _ ⟨go183, (t984 : Int).toNat * 3 + 1, none⟩ = false := hfr183 1
                           have hf183_2 : World.frozen? _ ⟨go183, (t984 : Int).toNat * 3 + 2, none⟩ = false := hfr183 2
                           clear hcl183 hcc183 hfr183 hM183
                           replace p183 := eq_true p183
                           replace q183 := eq_true q183
                           obtain ⟨ce190, hcl190, hM190, hcc190, hfr190⟩ := Kd.R_elem HO1025.out z30 (t984 : Int) (of_decide_eq_true ‹_›) (by have h_ : (t984 : Int) < ((y1023.length : Int) : Int) := of_decide_eq_true ‹_›; first | exact h_ | (have e_ := (Kd.R_reads' HO1025.out).1; omega) | simpa using h_)
                           obtain rfl := k30_openM hM190
                           have HP190 := (Kd.R_seg HO1025.out (t984 : Int) (of_decide_eq_true ‹_›) (by have h_ : (t984 : Int) < ((y1023.length : Int) : Int) := of_decide_eq_true ‹_›; first | exact h_ | (have e_ := (Kd.R_reads' HO1025.out).1; omega) | simpa using h_) (seg := [.int .i64 (rd y1018 x385_8), .int .i64 ((rd_T30 x36_8 t984).f1), .int .i64 ((rd_T30 x36_8 t984).f2)]) (j := 0) hcl190 hcc190 (show 3 ≤ 3 from by decide) (x' := (⟨(rd y1018 x385_8), (rd_T30 x36_8 t984).f1, (rd_T30 x36_8 t984).f2⟩ : S30)) (k30_mkM _ _ _ (⟨(rd y1018 x385_8), (rd_T30 x36_8 t984).f1, (rd_T30 x36_8 t984).f2⟩ : S30) ) (fun _ hk => hk)).1
                           rw [← Ny1028.out] at HP190
                           have HQ190 := Aside0.mk HP190
                           clear hcl190 hcc190 hfr190 hM190 HP190
                           refine start_ (n := 16) (S := fun w' => w'.cell? (ad1026.add ((t984).toNat * 3)) = some (.int .i64 ((rd_T30 x36_8 t984).f0)) ∧ w'.cell? ⟨(ad1026.add ((t984).toNat * 3)).block, (ad1026.add ((t984).toNat * 3)).off + 1, none⟩ = some (.int .i64 ((rd_T30 x36_8 t984).f1)) ∧ w'.cell? ⟨(ad1026.add ((t984).toNat * 3)).block, (ad1026.add ((t984).toNat * 3)).off + 2, none⟩ = some (.int .i64 ((rd_T30 x36_8 t984).f2)) ∧ w'.cell? (ad1026.add ((t984).toNat * 3)) = some (.int .i64 ((rd_T30 x36_8 t984).f0)) ∧ w'.cell? ⟨(ad1026.add ((t984).toNat * 3)).block, (ad1026.add ((t984).toNat * 3)).off + 1, none⟩ = some (.int .i64 ((rd_T30 x36_8 t984).f1)) ∧ w'.cell? ⟨(ad1026.add ((t984).toNat * 3)).block, (ad1026.add ((t984).toNat * 3)).off + 2, none⟩ = some (.int .i64 ((rd_T30 x36_8 t984).f2))) (ds := [15]) (bl 16 0) (by kernel_rfl) rfl rfl ⟨hx1026_0, hx1026_1, hx1026_2, hx1027_0, hx1027_1, hx1027_2⟩ (fun hHeld => ?_); refine with_tabW laws_FnBasinsRest.tab63 laws_FnBasinsRest.bits63 (fun HT_ HW_ => ?_)
                           generalize w188.drew = w189 at HO_36 HO_38 HO_383 HO1025 HB GG183 HQ190 hf183_0 hf183_1 hf183_2 hx1026_0 hx1026_1 hx1026_2 hx1027_0 hx1027_1 hx1027_2 hx183_0 hx183_1 hx183_2 hHeld ⊢
                           refine pu 0 402 (bl 16 1) HT_.out (v := ?_) (a' := ?_) ?_ ?_ ?_
                           rotate_left; (intro w'; go_simp; with_reducible rfl); rotate_left; (simp only [sqa, sqb, sqc, sqd, i64_w, i32_w]; rfl)
                           refine pu 1 403 (bl 16 3) HT_.out (v := ?_) (a' := ?_) ?_ ?_ ?_
                           rotate_left; (intro w'; go_simp; with_reducible rfl); rotate_left; (simp only [sqa, sqb, sqc, sqd, i64_w, i32_w]; rfl)
                           refine pu 2 404 (bl 16 7) HT_.out (v := ?_) (a' := ?_) ?_ ?_ ?_
                           rotate_left; (intro w'; go_simp; with_reducible rfl); rotate_left; (simp only [sqa, sqb, sqc, sqd, i64_w, i32_w]; rfl)
                           refine pu 3 405 (bl 16 15) HT_.out (v := ?_) (a' := ?_) ?_ ?_ ?_
                           rotate_left; (intro w'; go_simp; with_reducible rfl); rotate_left; (simp only [sqa, sqb, sqc, sqd, i64_w, i32_w]; rfl)
                           refine pu 4 406 (bl 16 31) HT_.out (v := ?_) (a' := ?_) ?_ ?_ ?_
                           rotate_left; (intro w'; go_simp; with_reducible rfl); rotate_left; (simp only [sqa, sqb, sqc, sqd, i64_w, i32_w]; rfl)
                           refine pu 5 407 (bl 16 63) HT_.out (v := ?_) (a' := ?_) ?_ ?_ ?_
                           rotate_left; (intro w'; go_simp; with_reducible rfl); rotate_left; (simp only [sqa, sqb, sqc, sqd, i64_w, i32_w]; rfl)
                           refine pu 6 408 (bl 16 127) HT_.out (v := ?_) (a' := ?_) ?_ ?_ ?_
                           rotate_left; (intro w'; go_simp; with_reducible rfl); rotate_left; (simp only [sqa, sqb, sqc, sqd, i64_w, i32_w]; rfl)
                           refine pu 8 410 (bl 16 383) HT_.out (v := ?_) (a' := ?_) ?_ ?_ ?_
                           rotate_left; (intro w'; go_simp; with_reducible rfl); rotate_left; (simp only [sqa, sqb, sqc, sqd, i64_w, i32_w]; rfl)
                           refine pu 9 411 (bl 16 895) HT_.out (v := ?_) (a' := ?_) ?_ ?_ ?_
                           rotate_left; (intro w'; go_simp; with_reducible rfl); rotate_left; (simp only [sqa, sqb, sqc, sqd, i64_w, i32_w]; rfl)
                           refine pu 10 412 (bl 16 1919) HT_.out (v := ?_) (a' := ?_) ?_ ?_ ?_
                           rotate_left; (intro w'; go_simp; with_reducible rfl); rotate_left; (simp only [sqa, sqb, sqc, sqd, i64_w, i32_w]; rfl)
                           refine pu 11 413 (bl 16 3967) HT_.out (v := ?_) (a' := ?_) ?_ ?_ ?_
                           rotate_left; (intro w'; go_simp; with_reducible rfl); rotate_left; (simp only [sqa, sqb, sqc, sqd, i64_w, i32_w]; rfl)
                           refine tk 7 409 (bl 16 4095) HT_.out HW_.out hHeld (v := ?_) (a' := ?_) ?_ ?_ ?_
                           rotate_left; (rintro w' ⟨s0, s1, s2, s3, s4, s5⟩; go_simp; with_reducible rfl); rotate_left; (simp only [sqa, sqb, sqc, sqd, i64_w, i32_w]; rfl)
                           refine tk 12 414 (bl 16 8191) HT_.out HW_.out hHeld (v := ?_) (a' := ?_) ?_ ?_ ?_
                           rotate_left; (rintro w' ⟨s0, s1, s2, s3, s4, s5⟩; go_simp; with_reducible rfl); rotate_left; (simp only [sqa, sqb, sqc, sqd, i64_w, i32_w]; rfl)
                           refine pu 13 415 (bl 16 16383) HT_.out (v := ?_) (a' := ?_) ?_ ?_ ?_
                           rotate_left; (intro w'; go_simp; with_reducible rfl); rotate_left; (simp only [sqa, sqb, sqc, sqd, i64_w, i32_w]; rfl)
                           refine pu 14 416 (bl 16 32767) HT_.out (v := ?_) (a' := ?_) ?_ ?_ ?_
                           rotate_left; (intro w'; go_simp; with_reducible rfl); rotate_left; (simp only [sqa, sqb, sqc, sqd, i64_w, i32_w]; rfl)
                           refine last_ (i := 15) (N := none) (bl 16 65535) rfl rfl (one_of HT_.out (by kernel_rfl)) (by decide) (fun K hK => ?_)
                           refine skip_ (w1 := ?_) (by rfl) rfl ?_ ?_
                           rotate_left
                           ·go_simp
                            rfl
                           refine hK.out _ _ ?_
                           clear hK K
                           refine done_ (done_of HT_.out (by kernel_rfl)) ?_
                           try go_wp2_with (first | ((with_reducible refine gate_callee (f := 27) rfl ?_); refine goesL_ (some 420) rfl rfl Try.func27 (by kernel_rfl) rfl #[.slice (some ⟨go183, 0, none⟩) y1028.length co183, .slice Ao139 t985.length co139] rfl (by (try simp only [List.map_toArray, List.map_cons, List.map_nil]); first | done | (rw [show y1028.length = y1023.length from (Kd.R_reads' HQ190.out).1.symm] <;> rfl) | rfl | (simp only [List.length_drop, List.length_take]; rfl)) ?_; (with_reducible refine (impl_SpillsOf.calls kj173 _ _ y1028 _ _ t985 t1029 true _ ?side1 ?side2 ?side3 ?side4 A184.out).mono ?_); (case side1 => refine (Kd.R_reads' (e := 30) (base := w.heap.size) (ok := fun k_ => some k_ ≠ (.slice (some ad1026) x36_8.length co138 : Value).ownBlock) (n := y1023.length) (c := co183) ?_).2.2; exact HQ190.out); (case side2 => rw [show y1028.length = y1023.length from (Kd.R_reads' HQ190.out).1.symm]; exact (Kd.R_reads' HO1025.out).2.1); (case side3 => refine (Kd.R_reads' (e := 3) (base := w.heap.size) (ok := fun k_ => some k_ ≠ (.slice (some ad1021) y1018.length co170 : Value).ownBlock) (n := t985.length) (c := co139) ?_).2.2; exact (by exact (Kd.R_mono (Kd.R_far (p := ⟨go183, (t984 : Int).toNat * 3 + 2, none⟩) (Kd.R_far (p := ⟨go183, (t984 : Int).toNat * 3 + 1, none⟩) (Kd.R_far (p := ⟨go183, (t984 : Int).toNat * 3, none⟩) (Kd.R_types HO_38.out GG183.out (by decide)) (fun _ hk => hk.2) (.int .i64 (rd y1018 x385_8))) (fun _ hk => hk.2) (.int .i64 ((rd_T30 x36_8 t984).f1))) (fun _ hk => hk.2) (.int .i64 ((rd_T30 x36_8 t984).f2))) (fun _ h_ => h_.1)))); (case side4 => exact (Kd.R_reads' HO_38.out).2.1); rintro e w191 ⟨v1031, rfl, ho0, hb⟩; refine ⟨_, rfl, ?_⟩; replace HO_36 := Aside0.mk (Kd.R_below (by exact (Kd.R_mono (Kd.R_far (p := ⟨go183, (t984 : Int).toNat * 3 + 2, none⟩) (Kd.R_far (p := ⟨go183, (t984 : Int).toNat * 3 + 1, none⟩) (Kd.R_far (p := ⟨go183, (t984 : Int).toNat * 3, none⟩) (Kd.R_mono HO_36.out (fun k_ hk => (⟨hk, fun e_ => hk.2 (by rw [e_]; rfl)⟩ : _ ∧ k_ ≠ go183))) (fun _ hk => hk.2) (.int .i64 (rd y1018 x385_8))) (fun _ hk => hk.2) (.int .i64 ((rd_T30 x36_8 t984).f1))) (fun _ hk => hk.2) (.int .i64 ((rd_T30 x36_8 t984).f2))) (fun _ h_ => h_.1))) hb); replace HO1025 := Aside0.mk (Kd.R_below HQ190.out hb); have HO1032 := Aside0.mk (Kd.R_lower (Kd.R_new' (Kd.R_new' ho0 (Kd.R_lt (by exact (Kd.R_mono (Kd.R_far (p := ⟨go183, (t984 : Int).toNat * 3 + 2, none⟩) (Kd.R_far (p := ⟨go183, (t984 : Int).toNat * 3 + 1, none⟩) (Kd.R_far (p := ⟨go183, (t984 : Int).toNat * 3, none⟩) (Kd.R_types HO_38.out GG183.out (by decide)) (fun _ hk => hk.2) (.int .i64 (rd y1018 x385_8))) (fun _ hk => hk.2) (.int .i64 ((rd_T30 x36_8 t984).f1))) (fun _ hk => hk.2) (.int .i64 ((rd_T30 x36_8 t984).f2))) (fun _ h_ => h_.1))))) (Kd.R_lt (by exact (Kd.R_mono (Kd.R_far (p := ⟨go183, (t984 : Int).toNat * 3 + 2, none⟩) (Kd.R_far (p := ⟨go183, (t984 : Int).toNat * 3 + 1, none⟩) (Kd.R_far (p := ⟨go183, (t984 : Int).toNat * 3, none⟩) (Kd.R_types HO_383.out GG183.out (by decide)) (fun _ hk => hk.2) (.int .i64 (rd y1018 x385_8))) (fun _ hk => hk.2) (.int .i64 ((rd_T30 x36_8 t984).f1))) (fun _ hk => hk.2) (.int .i64 ((rd_T30 x36_8 t984).f2))) (fun _ h_ => h_.1))))) (below_size (by repeat (first | (with_reducible first | exact HB.out | apply below_alloc | apply pw_below_drewN | apply below_drew1 | refine below_set ?_ GB183.out | refine below_set ?_ GB183.out | refine below_set ?_ GB183.out) | exact HB.out)))); replace HO_38 := Aside0.mk (Kd.R_elder' (by exact (Kd.R_mono (Kd.R_far (p := ⟨go183, (t984 : Int).toNat * 3 + 2, none⟩) (Kd.R_far (p := ⟨go183, (t984 : Int).toNat * 3 + 1, none⟩) (Kd.R_far (p := ⟨go183, (t984 : Int).toNat * 3, none⟩) (Kd.R_types HO_38.out GG183.out (by decide)) (fun _ hk => hk.2) (.int .i64 (rd y1018 x385_8))) (fun _ hk => hk.2) (.int .i64 ((rd_T30 x36_8 t984).f1))) (fun _ hk => hk.2) (.int .i64 ((rd_T30 x36_8 t984).f2))) (fun _ h_ => h_.1))) (Kd.R_base ho0) hb); replace HO_383 := Aside0.mk (Kd.R_elder' (by exact (Kd.R_mono (Kd.R_far (p := ⟨go183, (t984 : Int).toNat * 3 + 2, none⟩) (Kd.R_far (p := ⟨go183, (t984 : Int).toNat * 3 + 1, none⟩) (Kd.R_far (p := ⟨go183, (t984 : Int).toNat * 3, none⟩) (Kd.R_types HO_383.out GG183.out (by decide)) (fun _ hk => hk.2) (.int .i64 (rd y1018 x385_8))) (fun _ hk => hk.2) (.int .i64 ((rd_T30 x36_8 t984).f1))) (fun _ hk => hk.2) (.int .i64 ((rd_T30 x36_8 t984).f2))) (fun _ h_ => h_.1))) (Kd.R_base ho0) hb); replace HB := Aside0.mk (below_step (by repeat (first | (with_reducible first | exact HB.out | apply below_alloc | apply pw_below_drewN | apply below_drew1 | refine below_set ?_ GB183.out | refine below_set ?_ GB183.out | refine below_set ?_ GB183.out) | exact HB.out)) hb); (try clear hb); (try clear ho0); obtain ⟨Ao192, co192, eo192⟩ := Kd.R_slice HO1032.out; subst eo192; have p1033 : 0 ≤ (t984 : Int) := of_decide_eq_true ‹_›; have q1033 : t984 < (t1029.length : Int) := of_decide_eq_true ‹_›; obtain ⟨ad1033, e1033, hx1033_0⟩ := Kd.at_int (Kd.R_reads' HO1032.out).2.2 t984 p1033 q1033; cases e1033; replace p1033 := eq_true p1033; replace q1033 := eq_true q1033))
                           (try simp only [← hl36_8])
                           (refine Handed.intro kj173 ?measure37 ?_; rotate_left; go_step; refine LoopI_mk (by kernel_rfl) ?rel37)
                           case measure37 => have := HJ9.out; have := HJ33.out; have := HJ53.out; have := HJ55.out; have := HJ89.out; have := HJ99.out; have := HJ135.out; have := HK8.out; have := HJ173.out; omega
                           case rel37 => exact ⟨(x36_8), (wrap64 (x385_8 + 1)), (by first | rfl | (simp; done) | (simp [*]; done)), H', ⟨by have := HJ9.out; have := HJ33.out; have := HJ53.out; have := HJ55.out; have := HJ89.out; have := HJ99.out; have := HJ135.out; have := HK8.out; have := HJ173.out; omega⟩, ⟨by (try simp only [hl36_8]); exact Kd.R_mono HO_36.out (fun _ hk => trivial)⟩, ⟨by (try simp only [hl36_8]); exact Kd.R_mono HO_38.out (fun _ hk => hk.1)⟩, ⟨by (try simp only [hl36_8]); exact Kd.R_mono HO_383.out (fun _ hk => hk.1)⟩, ⟨bw HB⟩⟩
        
        /-- THE ONE PURE STATEMENT of laws_FnBasinsRest: yours. -/
def laws_FnBasinsRest.Pure : Prop := ∀ (l0 : List Int) (l1 : List Int), l0.length ≤ maxLen → l0.length * 1 ≤ 140737488351232 → (∀ x ∈ l0, (Lit.int .u8 x).wf = true) → l1.length ≤ maxLen → l1.length * 1 ≤ 140737488351232 → (∀ x ∈ l1, (Lit.int .u8 x).wf = true) → ∃ k, laws_FnBasinsRest.f k l0 l1 = some true
theorem laws_FnBasinsRest.walk (P : laws_FnBasinsRest.Pure) (a0 : Option Addr) (len0 cap0 : Nat) (z0 : List Int) (a1 : Option Addr) (len1 cap1 : Nat) (z1 : List Int) (w : World) (w0 : (a0 = none ∧ len0 = 0 ∧ cap0 = 0 ∧ z0 = []) ∨ ∃ x, a0 = some x ∧ len0 ≤ cap0 ∧ cap0 ≤ maxLen ∧ z0.length = cap0 ∧ (∀ i, i < z0.length → w.cell? (x.add i) = some (.int .u8 (z0.getD i 0))) ∧ ∀ n ∈ z0, (Lit.int .u8 n).wf = true) (y0 : len0 * 1 ≤ 140737488351232) (w1 : (a1 = none ∧ len1 = 0 ∧ cap1 = 0 ∧ z1 = []) ∨ ∃ x, a1 = some x ∧ len1 ≤ cap1 ∧ cap1 ≤ maxLen ∧ z1.length = cap1 ∧ (∀ i, i < z1.length → w.cell? (x.add i) = some (.int .u8 (z1.getD i 0))) ∧ ∀ n ∈ z1, (Lit.int .u8 n).wf = true) (y1 : len1 * 1 ≤ 140737488351232) :
  Calls Try.prog 3 #[.slice a0 len0 cap0, .slice a1 len1 cap1] w fun e w' => e = .returned (.bool true) ∧ Below w.heap.size w w' := by
 obtain ⟨l0, rfl, hr0, hm0, hw0, hc0⟩ := ReadsInt.ofRowC w0
 obtain ⟨l1, rfl, hr1, hm1, hw1, hc1⟩ := ReadsInt.ofRowC w1
 obtain ⟨k, h⟩ := P l0 l1 hm0 y0 hw0 hm1 y1 hw1
 refine (laws_FnBasinsRest.calls k _ _ l0 _ _ l1 true w (Kd.C_of_reads (d := (0 : Int)) (h1 := fun _ => rfl) hr0) hc0 (Kd.C_of_reads (d := (0 : Int)) (h1 := fun _ => rfl) hr1) hc1 ⟨rfl⟩ h).mono ?_
 rintro e w' ⟨rfl, hd⟩
 exact ⟨rfl, hd⟩
end Go.Proofs.Ytflbcikfphfkdaa.R
