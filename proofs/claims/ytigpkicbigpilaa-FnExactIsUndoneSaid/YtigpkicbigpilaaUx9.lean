-- Functions of the program as plain functions, and that the calls come to them. Written by a program (ownprint.py); nothing here is trusted: Lean checks it.
import Derived.Test.YtigpkicbigpilaaUx0
import Derived.Test.YtigpkicbigpilaaUx5
import Derived.Test.YtigpkicbigpilaaUx6
import Derived.Test.YtigpkicbigpilaaUx7
import Derived.Test.YtigpkicbigpilaaUx8
namespace Go.Proofs.Ytigpkicbigpilaa.U
open Go.RowKit Go.Proofs.YtigpkicbigpilaaW.PrintWords Go.Proofs.YtigpkicbigpilaaW.PrintLast Go.Proofs.YtigpkicbigpilaaW.PrintMore Go.Proofs.Ytigpkicbigpilaa.Sq
attribute [local go_sem] max2_int min2_int max_two min_two max_three min_three max_four min_four   -- for this text's walks alone
set_option linter.unusedVariables false
set_option linter.unusedSimpArgs false

/-! ### impl_IsUndone: function 28 -/
def impl_IsUndone_1.f (k : Nat) (a0_0 : Int) (a0_1 : Int) (l1_0 : List Int) (l1_1 : List Int) (l2_0 : List Int) (l2_1 : List Int) : Option (Bool) := (impl_Vessels_behind.f l1_0 l1_1 a0_0 a0_1).bind fun bt315 => ((slices_Equal_int_int.f k bt315.2 l2_1).bind fun t321 => (some t321))
theorem impl_IsUndone_1.mono : ∀ a0 a1 a2 a3 a4 a5 k, LeO (impl_IsUndone_1.f k a0 a1 a2 a3 a4 a5) (impl_IsUndone_1.f (k + 1) a0 a1 a2 a3 a4 a5) := by
 intro a0 a1 a2 a3 a4 a5 k
 unfold impl_IsUndone_1.f
 repeat' first
   | (with_reducible exact slices_Equal_int_int.mono _ _ _)
   | (with_reducible exact LeO.refl _)
   | (with_reducible exact LeO.none _)
   | (with_reducible refine LeO.ite ?_ ?_)
   | (with_reducible refine LeO.bind ?_ (fun _ => ?_))
   | exact slices_Equal_int_int.mono _ _ _
   | exact LeO.none _
   | refine LeO.ite ?_ ?_
   | refine LeO.bind ?_ (fun _ => ?_)
def impl_IsUndone_1.T1 : Bool × List (List Nat × List Nat) := (true, [([], []), ([], []), ([0, 1], [0, 1]), ([2], [2]), ([], []), ([4], [4]), ([3, 5, 2], [3, 5]), ([6, 6, 0, 1, 2, 3, 4, 5, 6], [6])])
def impl_IsUndone_1.B1 : List Nat := [0, 0, 3, 7, 0, 16, 63, 127]
theorem impl_IsUndone_1.tab1 : rtab .any (opsOf Try.f61 1) = impl_IsUndone_1.T1 := by kernel_rfl
theorem impl_IsUndone_1.bits1 : waitsOk impl_IsUndone_1.T1.2 impl_IsUndone_1.B1 = true := by kernel_rfl
set_option maxHeartbeats 8000000 in
set_option maxRecDepth 100000 in
theorem impl_IsUndone_1.calls (k : Nat) (a0_0 : Int) (a0_1 : Int) (A1_0 : Option Addr) (c1_0 : Nat) (l1_0 : List Int) (A1_1 : Option Addr) (c1_1 : Nat) (l1_1 : List Int) (A2_0 : Option Addr) (c2_0 : Nat) (l2_0 : List Int) (A2_1 : Option Addr) (c2_1 : Nat) (l2_1 : List Int) (r : Bool) (w : World) (gb313 gb314 : Nat) (hbk313 : w.heap[gb313]? = some (.cells #[.slice A1_0 l1_0.length c1_0, .slice A1_1 l1_1.length c1_1] 29 (0, 0))) (hbk314 : w.heap[gb314]? = some (.cells #[.slice A2_0 l2_0.length c2_0, .slice A2_1 l2_1.length c2_1] 29 (0, 0))) (hr1_0 : Kd.C (Kd.int .i64) w A1_0 l1_0.length l1_0) (hc1_0 : l1_0.length ≤ c1_0) (hr1_1 : Kd.C (Kd.int .i64) w A1_1 l1_1.length l1_1) (hc1_1 : l1_1.length ≤ c1_1) (hr2_0 : Kd.C (Kd.int .i64) w A2_0 l2_0.length l2_0) (hc2_0 : l2_0.length ≤ c2_0) (hr2_1 : Kd.C (Kd.int .i64) w A2_1 l2_1.length l2_1) (hc2_1 : l2_1.length ≤ c2_1) (h : impl_IsUndone_1.f k a0_0 a0_1 l1_0 l1_1 l2_0 l2_1 = some r) :
  Calls Try.prog 61 #[.agg #[.int .i64 a0_0, .int .i64 a0_1], .pointer (some ⟨gb313, 0, none⟩), .pointer (some ⟨gb314, 0, none⟩)] w fun e w' => e = .returned (.bool r) ∧ Below w.heap.size w w' := by
 have hu49 := Try.underlying49
 have hu29 := Try.underlying29
 have hfd29_1 : ∀ (x0 x1 : Value) (W : World), (Instr.field 29 (.agg #[x0, x1]) 1).run Try.prog W = .ok (x1) W := fun x0 x1 W => by rfl
 have HR1_0 := Aside0.mk hr1_0
 have HC1_0 := Aside0.mk hc1_0
 clear hr1_0 hc1_0
 have HR1_1 := Aside0.mk hr1_1
 have HC1_1 := Aside0.mk hc1_1
 clear hr1_1 hc1_1
 have HR2_0 := Aside0.mk hr2_0
 have HC2_0 := Aside0.mk hc2_0
 clear hr2_0 hc2_0
 have HR2_1 := Aside0.mk hr2_1
 have HC2_1 := Aside0.mk hc2_1
 clear hr2_1 hc2_1
 have HB := Aside0.mk (Below.refl w.heap.size w)
 have BK313 := Aside0.mk hbk313
 have BK314 := Aside0.mk hbk314
 clear hbk313 hbk314
 have H : ((impl_Vessels_behind.f l1_0 l1_1 a0_0 a0_1).bind fun bt315 => ((slices_Equal_int_int.f k bt315.2 l2_1).bind fun t321 => (some t321))) = some r := h
 clear h
 replace H := Option.bind_eq_some_iff.mp H
 obtain ⟨⟨t315, t318⟩, A40, H⟩ := H
 replace H : ((slices_Equal_int_int.f k t318 l2_1).bind fun t321 => (some t321)) = some r := H
 have A4 := Aside0.mk A40
 clear A40
 replace H := Option.bind_eq_some_iff.mp H
 obtain ⟨t321, A50, H⟩ := H
 replace H : (some t321) = some r := H
 have A5 := Aside0.mk A50
 clear A50
 obtain rfl := Option.some.inj H
 go_enter Try.func61, Try.ntmps61
 try go_wp2_with (first | ((with_reducible refine gate_dst (N := 3) rfl ?_); refine bx 3 #[.int .i64 a0_0, .int .i64 a0_1] 49 ?_; intro gb312 hg w6 hbox hb; have BK312 := Aside0.mk (hbox); have GW312 := ge HB hg; have GE312 := ge HB hg; replace HB := bs HB hb; replace BK313 := bb BK313 hb; replace BK314 := bb BK314 hb; clear hb hbox hg))
 replace BK312 := Aside0.mk (blk_drew BK312.out)
 replace BK313 := Aside0.mk (blk_drew BK313.out)
 replace BK314 := Aside0.mk (blk_drew BK314.out)
 replace HB := Aside0.mk (below_drew1 HB.out)
 refine start_ (n := 8) (S := fun w' => w'.cell? ⟨gb313, 0, none⟩ = some (.slice A1_0 l1_0.length c1_0) ∧ w'.cell? ⟨gb313, 1, none⟩ = some (.slice A1_1 l1_1.length c1_1) ∧ w'.cell? ⟨gb312, 0, none⟩ = some (.int .i64 a0_0) ∧ w'.cell? ⟨gb312, 1, none⟩ = some (.int .i64 a0_1) ∧ w'.cell? ⟨gb314, 0, none⟩ = some (.slice A2_0 l2_0.length c2_0) ∧ w'.cell? ⟨gb314, 1, none⟩ = some (.slice A2_1 l2_1.length c2_1)) (ds := []) #[false, false, false, false, false, false, false, false] (by kernel_rfl) rfl rfl ⟨bc0 BK313, bc1 BK313, bc0 BK312, bc1 BK312, bc0 BK314, bc1 BK314⟩ (fun hHeld => ?_); refine with_tabW impl_IsUndone_1.tab1 impl_IsUndone_1.bits1 (fun HT_ HW_ => ?_)
 generalize w6.drew = w9 at BK312 BK313 BK314 HB hHeld ⊢
 refine pure_ (i := 4) (N := some 9) (v := ?_) (a' := ?_) #[false, false, false, false, true, false, false, false] rfl rfl (any_of HT_.out (by kernel_rfl)) (fun _ _ _ h => h) (Or.inl ⟨by rfl, ?_⟩) ?_ ?_
 rotate_left
 ·intro w'
  go_simp
  with_reducible rfl
 rotate_left
 ·simp only [Act.put, List.setIfInBounds_toArray, List.set_cons_zero, List.set_cons_succ, i64_w, i32_w]
  rfl
 refine take_ (i := 0) (N := some 5) (v := ?_) (a' := ?_) #[true, false, false, false, true, false, false, false] rfl rfl (take_ofW HT_.out HW_.out (by kernel_rfl)) (fun _ _ _ h => h) (Or.inl ⟨by rfl, ?_⟩) hHeld ?_ ?_
 rotate_left
 ·rintro w' ⟨s0, s1, s2, s3, s4, s5⟩
  go_simp
  with_reducible rfl
 rotate_left
 ·simp only [Act.put, List.setIfInBounds_toArray, List.set_cons_zero, List.set_cons_succ, i64_w, i32_w]
  rfl
 refine take_ (i := 1) (N := some 6) (v := ?_) (a' := ?_) #[true, true, false, false, true, false, false, false] rfl rfl (take_ofW HT_.out HW_.out (by kernel_rfl)) (fun _ _ _ h => h) (Or.inl ⟨by rfl, ?_⟩) hHeld ?_ ?_
 rotate_left
 ·rintro w' ⟨s0, s1, s2, s3, s4, s5⟩
  go_simp
  with_reducible rfl
 rotate_left
 ·simp only [Act.put, List.setIfInBounds_toArray, List.set_cons_zero, List.set_cons_succ, i64_w, i32_w]
  rfl
 refine take_ (i := 5) (N := some 10) (v := ?_) (a' := ?_) #[true, true, false, false, true, true, false, false] rfl rfl (take_ofW HT_.out HW_.out (by kernel_rfl)) (fun _ _ _ h => h) (Or.inl ⟨by rfl, ?_⟩) hHeld ?_ ?_
 rotate_left
 ·rintro w' ⟨s0, s1, s2, s3, s4, s5⟩
  go_simp
  with_reducible rfl
 rotate_left
 ·simp only [Act.put, List.setIfInBounds_toArray, List.set_cons_zero, List.set_cons_succ, i64_w, i32_w]
  rfl
 refine one_ (i := 2) (N := some 7) #[true, true, true, false, true, true, false, false] rfl rfl (one_of HT_.out (by kernel_rfl)) (by decide) (fun K hK => ?_)
 refine goes_ Try.func59 (by kernel_rfl) rfl #[.agg #[.slice A1_0 l1_0.length c1_0, .slice A1_1 l1_1.length c1_1], .agg #[.int .i64 a0_0, .int .i64 a0_1]] (by rfl) rfl rfl (by (try simp only [List.map_toArray, List.map_cons, List.map_nil]); first | done | rfl | (simp only [List.length_drop, List.length_take]; rfl)) ?_
 with_reducible refine (impl_Vessels_behind.calls _ _ l1_0 _ _ l1_1 a0_0 a0_1 t315 t318 _ ?side1 ?side2 ?side3 ?side4 A4.out).mono ?_
 (case side1 => exact ck HR1_0 HB)
 (case side2 => exact HC1_0.out)
 (case side3 => exact ck HR1_1 HB)
 (case side4 => exact HC1_1.out)
 rintro e w10 ⟨v316, v319, rfl, ho0, ho1, hb⟩
 refine ⟨_, rfl, ?_⟩
 have HO317 := lo ho0 HB
 have HO320 := lo ho1 HB
 replace BK312 := bb BK312 hb
 replace BK313 := bb BK313 hb
 replace BK314 := bb BK314 hb
 replace HB := bs HB hb
 (try clear hb)
 (try clear hb2)
 (try clear hk)
 (try clear hi)
 (try clear ho0)
 (try clear ho1)
 obtain ⟨Ao11, co11, eo11⟩ := Kd.R_slice HO320.out
 (first | subst eo11 | (injection eo11 with f1_ f2_ f3_; have f4_ := f1_.symm; have f5_ := f3_.symm; clear f1_ f2_ f3_; subst f4_; subst f5_))
 refine hK.out _ _ ⟨bc0 BK313, bc1 BK313, bc0 BK312, bc1 BK312, bc0 BK314, bc1 BK314⟩ (fun hHeld => ?_)
 clear hK K
 refine norm_ (a' := ?_) ?_ ?_
 rotate_left
 ·show Act.put _ (some 7) _ = _
  simp only [Act.put, List.setIfInBounds_toArray, List.set_cons_zero, List.set_cons_succ, i64_w, i32_w]
  rfl
 refine pure_ (i := 3) (N := some 8) (v := ?_) (a' := ?_) #[true, true, true, true, true, true, false, false] rfl rfl (any_of HT_.out (by kernel_rfl)) (fun _ _ _ h => h) (Or.inl ⟨by rfl, ?_⟩) ?_ ?_
 rotate_left
 ·intro w'
  go_simp
  with_reducible rfl
 rotate_left
 ·simp only [Act.put, List.setIfInBounds_toArray, List.set_cons_zero, List.set_cons_succ, i64_w, i32_w]
  rfl
 refine one_ (i := 6) (N := some 11) #[true, true, true, true, true, true, true, false] rfl rfl (one_of HT_.out (by kernel_rfl)) (by decide) (fun K hK => ?_)
 refine goes_ Try.func62 (by kernel_rfl) rfl #[.slice Ao11 t318.length co11, .slice A2_1 l2_1.length c2_1] (by rfl) rfl rfl (by (try simp only [List.map_toArray, List.map_cons, List.map_nil]); first | done | rfl | (simp only [List.length_drop, List.length_take]; rfl)) ?_
 with_reducible refine (slices_Equal_int_int.calls k _ _ t318 _ _ l2_1 t321 _ ?side1 ?side2 ?side3 ?side4 A5.out).mono ?_
 (case side1 => exact cr HO320)
 (case side2 => exact (Kd.R_reads' HO320.out).2.1)
 (case side3 => exact ck HR2_1 HB)
 (case side4 => exact HC2_1.out)
 rintro e w' ⟨rfl, ⟨nd, rfl⟩⟩
 refine ⟨_, rfl, ?_⟩
 refine hK.out _ _ ⟨bc0 BK313, bc1 BK313, bc0 BK312, bc1 BK312, bc0 BK314, bc1 BK314⟩ (fun hHeld => ?_)
 clear hK K
 refine norm_ (a' := ?_) ?_ ?_
 rotate_left
 ·show Act.put _ (some 11) _ = _
  simp only [Act.put, List.setIfInBounds_toArray, List.set_cons_zero, List.set_cons_succ, i64_w, i32_w]
  rfl
 refine pure_ (i := 7) (N := some 4) (v := ?_) (a' := ?_) #[true, true, true, true, true, true, true, true] rfl rfl (any_of HT_.out (by kernel_rfl)) (fun _ _ _ h => h) (Or.inl ⟨by rfl, ?_⟩) ?_ ?_
 rotate_left
 ·intro w'
  go_simp
  with_reducible rfl
 rotate_left
 ·simp only [Act.put, List.setIfInBounds_toArray, List.set_cons_zero, List.set_cons_succ, i64_w, i32_w]
  rfl
 refine done_ (done_of HT_.out (by kernel_rfl)) ?_
 try go_wp2
 go_ret
 exact ⟨by first | rfl | (simp [errW_none, errW_some] <;> rfl) | (simp [*, errW_none, errW_some] <;> rfl), bw HB⟩


/-- Whether some element of a list answers true, where each one answers. -/
def anyO {α : Type} (f : α → Option Bool) (l : List α) : Option Bool := if l.all (fun x => (f x).isSome) = true then some (l.any fun x => f x == some true) else none
theorem anyO_le {α : Type} {f g : α → Option Bool} (h : ∀ x, LeO (f x) (g x)) (l : List α) : LeO (anyO f l) (anyO g l) := by
 intro r hr
 unfold anyO at hr ⊢
 by_cases c : l.all (fun x => (f x).isSome) = true
 ·rw [if_pos c] at hr
  have e : ∀ x ∈ l, f x = g x := fun x hx => by
   have := List.all_eq_true.mp c x hx
   obtain ⟨b, hb⟩ := Option.isSome_iff_exists.mp this
   rw [hb, h x b hb]
  have c2 : l.all (fun x => (g x).isSome) = true := List.all_eq_true.mpr fun x hx => by rw [← e x hx]; exact List.all_eq_true.mp c x hx
  rw [if_pos c2, ← hr]
  congr 1
  refine Bool.eq_iff_iff.mpr ?_
  simp only [List.any_eq_true]
  constructor
  ·rintro ⟨x, hx, h1⟩; exact ⟨x, hx, by rw [e x hx]; exact h1⟩
  ·rintro ⟨x, hx, h1⟩; exact ⟨x, hx, by rw [← e x hx]; exact h1⟩
 ·rw [if_neg c] at hr; cases hr
def encM (m : S49) : Value := .agg #[.int .i64 m.f0, .int .i64 m.f1]
/-- What is asked of a predicate at a list's elements: in every later world it answers, and what lay there lies. -/
def PredOn (g : Nat) (lb : Array Value) (p : S49 → Bool) (l : List S49) (w : World) : Prop :=
 ∀ (W : World) (x : S49), x ∈ l → Below w.heap.size w W → Calls Try.prog g (#[encM x] ++ lb) W fun e w' => e = .returned (.bool (p x)) ∧ Below w.heap.size w w'
theorem rd_move (l : List S49) (k : Nat) (h : k < l.length) : rd_T49 l (k : Int) = l[k] := by unfold rd_T49; simp [h]
set_option maxHeartbeats 2000000 in
theorem IndexFunc_move (p : S49 → Bool) (g : Nat) (lb : Array Value) (eg : ∀ args w, (callFunc g args).run Try.prog w = .ok (.enter g args) w) (A0 : Option Addr) (c0 : Nat) (l : List S49) (w : World)
  (hr0 : Kd.C k49 w A0 l.length l) (hp : PredOn g lb p l w) :
  Calls Try.prog 81 #[.slice A0 l.length c0, .func (.func g) #[] lb] w fun e w' => e = .returned (.int .i64 (Gv.idxF p l)) ∧ Below w.heap.size w w' := by
 have hu49 := Try.underlying49
 have HR0 := Aside0.mk hr0
 have HP := Aside0.mk hp
 have hn : l.length ≤ 9223372036854775807 := hr0.2.1
 clear hr0 hp
 go_enter Try.func81, Try.ntmps81
 go_wp2
 go_loopg [5, 8] l.length (fun gg _ s8 wr => ∃ kk : Nat, kk ≤ l.length ∧ l.length - kk ≤ gg ∧ s8 = .int .i64 kk ∧ Aside0 (Below w.heap.size w wr) ∧ Aside0 (∀ j (hj : j < kk) (h : j < l.length), p l[j] = false))
 case atStart => exact ⟨0, Nat.zero_le _, by omega, rfl, ⟨Below.refl _ w⟩, ⟨fun j hj => absurd hj (Nat.not_lt_zero _)⟩⟩
 case round =>
  obtain ⟨kk, hkk, hg, rfl, BW, A⟩ := hrel
  by_cases hlt : kk < l.length
  ·have hltz : (kk : Int) < (l.length : Int) := by omega
   obtain ⟨ad, e0, hx0, hx1⟩ := at_T49 (Kd.C_below HR0.out BW.out) (kk : Int) (by omega) hltz
   cases e0
   rw [Int.toNat_natCast] at hx0 hx1
   have hcall := HP.out wr (rd_T49 l (kk : Int)) (by rw [rd_move l kk hlt]; exact List.getElem_mem hlt) BW.out
   have B : Aside0 (rd_T49 l (kk : Int) = l[kk]) := ⟨rd_move l kk hlt⟩
   generalize hy : rd_T49 l (kk : Int) = y at hx0 hx1 hcall B
   clear hy
   unfold encM at hcall
   cases hq : p y with
   | true =>
    rw [hq] at hcall
    have hq' := Lib.hid hq
    clear hq
    go_wp2_with (go_at_fn g; refine hcall.mono ?_; rintro e w' ⟨rfl, hb'⟩)
    go_ret
    refine ⟨?_, hb'⟩
    rw [Gv.idxF_hit p l kk hlt (by rw [← B.out]; exact hq'.out) (fun j hj => A.out j hj (by omega))]
    rfl
   | false =>
    rw [hq] at hcall
    have hq' := Lib.hid hq
    clear hq
    go_wp2_with (go_at_fn g; refine hcall.mono ?_; rintro e w' ⟨rfl, hb'⟩)
    go_roundg (l.length - (kk + 1))
    case measure => omega
    case rel =>
     refine ⟨kk + 1, by omega, by omega, by go_num, ⟨hb'⟩, ⟨fun j hj h => ?_⟩⟩
     by_cases e : j = kk
     ·subst e
      rw [← B.out]; exact hq'.out
     ·exact A.out j (by omega) h
  ·have hd : decide (kk < l.length) = false := by simp; omega
   go_wp2
   go_ret
   refine ⟨?_, BW.out⟩
   rw [Gv.idxF_miss p l (fun j hj => A.out j (by omega) hj)]
   rfl
set_option maxHeartbeats 2000000 in
theorem ContainsFunc_move (p : S49 → Bool) (g : Nat) (lb : Array Value) (eg : ∀ args w, (callFunc g args).run Try.prog w = .ok (.enter g args) w) (A0 : Option Addr) (c0 : Nat) (l : List S49) (w : World)
  (hr0 : Kd.C k49 w A0 l.length l) (hp : PredOn g lb p l w) :
  Calls Try.prog 60 #[.slice A0 l.length c0, .func (.func g) #[] lb] w fun e w' => e = .returned (.bool (l.any p)) ∧ Below w.heap.size w w' := by
 have H := Lib.hid (Gv.idxF_any p l)
 have HC := IndexFunc_move p g lb eg A0 c0 l w hr0 hp
 clear hr0 hp
 generalize Gv.idxF p l = r at H HC
 go_enter Try.func60, Try.ntmps60
 go_wp2_with (go_at_call 81; refine HC.mono ?_; rintro e w' ⟨rfl, hb'⟩)
 go_ret
 exact ⟨by rw [← H.out]; rfl, hb'⟩
theorem impl_IsUndone_any (k : Nat) (A1_0 : Option Addr) (c1_0 : Nat) (l1_0 : List Int) (A1_1 : Option Addr) (c1_1 : Nat) (l1_1 : List Int) (A2_0 : Option Addr) (c2_0 : Nat) (l2_0 : List Int) (A2_1 : Option Addr) (c2_1 : Nat) (l2_1 : List Int) (A0 : Option Addr) (c0 : Nat) (l : List S49) (r : Bool) (w : World) (gb313 gb314 : Nat) (hbk313 : w.heap[gb313]? = some (.cells #[.slice A1_0 l1_0.length c1_0, .slice A1_1 l1_1.length c1_1] 29 (0, 0))) (hbk314 : w.heap[gb314]? = some (.cells #[.slice A2_0 l2_0.length c2_0, .slice A2_1 l2_1.length c2_1] 29 (0, 0)))
  (hr1_0 : Kd.C (Kd.int .i64) w A1_0 l1_0.length l1_0) (hc1_0 : l1_0.length ≤ c1_0) (hr1_1 : Kd.C (Kd.int .i64) w A1_1 l1_1.length l1_1) (hc1_1 : l1_1.length ≤ c1_1) (hr2_0 : Kd.C (Kd.int .i64) w A2_0 l2_0.length l2_0) (hc2_0 : l2_0.length ≤ c2_0) (hr2_1 : Kd.C (Kd.int .i64) w A2_1 l2_1.length l2_1) (hc2_1 : l2_1.length ≤ c2_1) (hl : Kd.C k49 w A0 l.length l)
  (h : anyO (fun m => impl_IsUndone_1.f k m.f0 m.f1 l1_0 l1_1 l2_0 l2_1) l = some r) :
  Calls Try.prog 60 #[.slice A0 l.length c0, .func (.func 61) #[] #[.pointer (some ⟨gb313, 0, none⟩), .pointer (some ⟨gb314, 0, none⟩)]] w fun e w' => e = .returned (.bool r) ∧ Below w.heap.size w w' := by
 have eg : ∀ args w, (callFunc 61 args).run Try.prog w = .ok (.enter 61 args) w := enters_of Try.func61 (by kernel_rfl) rfl
 unfold anyO at h
 by_cases c : l.all (fun m => (impl_IsUndone_1.f k m.f0 m.f1 l1_0 l1_1 l2_0 l2_1).isSome) = true
 ·rw [if_pos c] at h
  obtain rfl := Option.some.inj h
  refine ContainsFunc_move (fun m => impl_IsUndone_1.f k m.f0 m.f1 l1_0 l1_1 l2_0 l2_1 == some true) 61 _ eg A0 c0 l w hl (fun W x hx hb => ?_)
  obtain ⟨b, e⟩ := Option.isSome_iff_exists.mp (List.all_eq_true.mp c x hx)
  have := impl_IsUndone_1.calls k x.f0 x.f1 A1_0 c1_0 l1_0 A1_1 c1_1 l1_1 A2_0 c2_0 l2_0 A2_1 c2_1 l2_1 b W gb313 gb314 (blk_below hbk313 hb) (blk_below hbk314 hb) (Kd.C_below hr1_0 hb) hc1_0 (Kd.C_below hr1_1 hb) hc1_1 (Kd.C_below hr2_0 hb) hc2_0 (Kd.C_below hr2_1 hb) hc2_1 e
  refine this.mono ?_
  rintro e' w' ⟨rfl, hb'⟩
  refine ⟨by simp only [e]; cases b <;> rfl, hb.trans (hb'.mono hb.size)⟩
 ·rw [if_neg c] at h; cases h
def impl_IsUndone.f (k : Nat) (l0_0 : List Int) (l0_1 : List Int) (a1_0 : Int) (a1_1 : Int) : Option (Bool × Bool) := (impl_IsMove.f k l0_0 l0_1 a1_0 a1_1).bind fun bt270 => (if bt270.1 = true then ((impl_Vessels_amount.f l0_0 l0_1 a1_0 a1_1).bind fun t272 => (if t272 = 0 then (some (true, true)) else ((impl_Vessels_behind.f l0_0 l0_1 a1_0 a1_1).bind fun bt273 => ((impl_Vessels_moves.f k bt273.1 bt273.2 false).bind fun t280 => ((anyO (fun m => impl_IsUndone_1.f k m.f0 m.f1 bt273.1 bt273.2 l0_0 l0_1) t280).bind fun t290 => some (t290, true)))))) else (some (false, false)))
theorem impl_IsUndone.mono : ∀ a0 a1 a2 a3 k, LeO (impl_IsUndone.f k a0 a1 a2 a3) (impl_IsUndone.f (k + 1) a0 a1 a2 a3) := by
 intro a0 a1 a2 a3 k
 unfold impl_IsUndone.f
 repeat' first
   | (with_reducible exact impl_IsMove.mono _ _ _ _ _)
   | (with_reducible exact impl_Vessels_moves.mono _ _ _ _)
   | (with_reducible refine anyO_le (fun _ => impl_IsUndone_1.mono _ _ _ _ _ _ _) _)
   | (with_reducible exact LeO.refl _)
   | (with_reducible exact LeO.none _)
   | (with_reducible refine LeO.ite ?_ ?_)
   | (with_reducible refine LeO.bind ?_ (fun _ => ?_))
   | exact impl_IsMove.mono _ _ _ _ _
   | exact impl_Vessels_moves.mono _ _ _ _
   | exact LeO.none _
   | refine LeO.ite ?_ ?_
   | refine LeO.bind ?_ (fun _ => ?_)
set_option maxHeartbeats 8000000 in
set_option maxRecDepth 100000 in
theorem impl_IsUndone.calls (k : Nat) (A0_0 : Option Addr) (c0_0 : Nat) (l0_0 : List Int) (A0_1 : Option Addr) (c0_1 : Nat) (l0_1 : List Int) (a1_0 : Int) (a1_1 : Int) (r1 : Bool) (r2 : Bool) (w : World) (hr0_0 : Kd.C (Kd.int .i64) w A0_0 l0_0.length l0_0) (hc0_0 : l0_0.length ≤ c0_0) (hr0_1 : Kd.C (Kd.int .i64) w A0_1 l0_1.length l0_1) (hc0_1 : l0_1.length ≤ c0_1) (h : impl_IsUndone.f k l0_0 l0_1 a1_0 a1_1 = some (r1, r2)) :
  Calls Try.prog 28 #[.agg #[.slice A0_0 l0_0.length c0_0, .slice A0_1 l0_1.length c0_1], .agg #[.int .i64 a1_0, .int .i64 a1_1]] w fun e w' => e = .returned (.tuple #[.bool r1, .bool r2]) ∧ Below w.heap.size w w' := by
 have hu29 := Try.underlying29
 have hu49 := Try.underlying49
 have HR0_0 := Aside0.mk hr0_0
 have HC0_0 := Aside0.mk hc0_0
 clear hr0_0 hc0_0
 have HR0_1 := Aside0.mk hr0_1
 have HC0_1 := Aside0.mk hc0_1
 clear hr0_1 hc0_1
 have HB := Aside0.mk (Below.refl w.heap.size w)
 have H : ((impl_IsMove.f k l0_0 l0_1 a1_0 a1_1).bind fun bt270 => (if bt270.1 = true then ((impl_Vessels_amount.f l0_0 l0_1 a1_0 a1_1).bind fun t272 => (if t272 = 0 then (some (true, true)) else ((impl_Vessels_behind.f l0_0 l0_1 a1_0 a1_1).bind fun bt273 => ((impl_Vessels_moves.f k bt273.1 bt273.2 false).bind fun t280 => ((anyO (fun m => impl_IsUndone_1.f k m.f0 m.f1 bt273.1 bt273.2 l0_0 l0_1) t280).bind fun t290 => some (t290, true)))))) else (some (false, false)))) = some (r1, r2) := h
 clear h
 replace H := Option.bind_eq_some_iff.mp H
 obtain ⟨⟨t270, t271⟩, A30, H⟩ := H
 replace H : (if t270 = true then ((impl_Vessels_amount.f l0_0 l0_1 a1_0 a1_1).bind fun t272 => (if t272 = 0 then (some (true, true)) else ((impl_Vessels_behind.f l0_0 l0_1 a1_0 a1_1).bind fun bt273 => ((impl_Vessels_moves.f k bt273.1 bt273.2 false).bind fun t280 => ((anyO (fun m => impl_IsUndone_1.f k m.f0 m.f1 bt273.1 bt273.2 l0_0 l0_1) t280).bind fun t290 => some (t290, true)))))) else (some (false, false))) = some (r1, r2) := H
 have A3 := Aside0.mk A30
 clear A30
 by_cases c4 : t270 = true
 ·subst c4
  have H1 : ((impl_Vessels_amount.f l0_0 l0_1 a1_0 a1_1).bind fun t272 => (if t272 = 0 then (some (true, true)) else ((impl_Vessels_behind.f l0_0 l0_1 a1_0 a1_1).bind fun bt273 => ((impl_Vessels_moves.f k bt273.1 bt273.2 false).bind fun t280 => ((anyO (fun m => impl_IsUndone_1.f k m.f0 m.f1 bt273.1 bt273.2 l0_0 l0_1) t280).bind fun t290 => some (t290, true)))))) = some (r1, r2) := by rw [if_pos rfl] at H; exact H
  clear H
  have H := H1
  clear H1
  replace H := Option.bind_eq_some_iff.mp H
  obtain ⟨t272, A50, H⟩ := H
  replace H : (if t272 = 0 then (some (true, true)) else ((impl_Vessels_behind.f l0_0 l0_1 a1_0 a1_1).bind fun bt273 => ((impl_Vessels_moves.f k bt273.1 bt273.2 false).bind fun t280 => ((anyO (fun m => impl_IsUndone_1.f k m.f0 m.f1 bt273.1 bt273.2 l0_0 l0_1) t280).bind fun t290 => some (t290, true))))) = some (r1, r2) := H
  have A5 := Aside0.mk A50
  clear A50
  by_cases c6 : t272 = 0
  ·rw [if_pos c6] at H
   have c6b0 : (t272 == 0) = true := beq_iff_eq.mpr c6
   have c6b1 : (t272 != 0) = false := bne_eq_false_iff_eq.mpr c6
   clear c6
   simp only [Option.some.injEq, Prod.mk.injEq] at H
   obtain ⟨rfl, rfl⟩ := H
   go_enter Try.func28, Try.ntmps28
   go_wp2_with (first | ((with_reducible refine gate_dst (N := 2) rfl ?_); refine bx 2 #[.slice A0_0 l0_0.length c0_0, .slice A0_1 l0_1.length c0_1] 29 ?_; intro gb268 hg w7 hbox hb; have BK268 := Aside0.mk (hbox); have GW268 := ge HB hg; have GE268 := ge HB hg; replace HB := bs HB hb; clear hb hbox hg) | ((with_reducible refine gate_dst (N := 3) rfl ?_); refine bx 3 #[.int .i64 a1_0, .int .i64 a1_1] 49 ?_; intro gb269 hg w8 hbox hb; have BK269 := Aside0.mk (hbox); have GW269 := ge HB hg; have GE269 := ge HB hg; replace HB := bs HB hb; have NB268_269 := nl BK268 hg; have NB269_268 := nr BK268 hg; replace BK268 := bb BK268 hb; clear hb hbox hg; have hnb9 := NB268_269.out; have hnc9 := NB269_268.out; have hcz10_0 := bc0 BK268; have hcz10_1 := bc1 BK268; have hfz10_0 := blk_frozen BK268.out 0; have hfz10_1 := blk_frozen BK268.out 1; have hcz11_0 := bc0 BK269; have hcz11_1 := bc1 BK269; have hfz11_0 := blk_frozen BK269.out 0; have hfz11_1 := blk_frozen BK269.out 1) | ((with_reducible refine gate_callee (f := 57) rfl ?_); refine gl 12 Try.func57 #[.agg #[.slice A0_0 l0_0.length c0_0, .slice A0_1 l0_1.length c0_1], .agg #[.int .i64 a1_0, .int .i64 a1_1]] ?_; (with_reducible refine (impl_IsMove.calls k _ _ l0_0 _ _ l0_1 a1_0 a1_1 true t271 _ ?side1 ?side2 ?side3 ?side4 A3.out).mono ?_); (case side1 => exact ck HR0_0 HB); (case side2 => exact HC0_0.out); (case side3 => exact ck HR0_1 HB); (case side4 => exact HC0_1.out); rintro e w12 ⟨rfl, hb⟩; refine ⟨_, rfl, ?_⟩; replace BK268 := bb BK268 hb; replace BK269 := bb BK269 hb; replace HB := bs HB hb; (try clear hb); have hcz13_0 := bc0 BK268; have hcz13_1 := bc1 BK268; have hfz13_0 := blk_frozen BK268.out 0; have hfz13_1 := blk_frozen BK268.out 1; have hcz14_0 := bc0 BK269; have hcz14_1 := bc1 BK269; have hfz14_0 := blk_frozen BK269.out 0; have hfz14_1 := blk_frozen BK269.out 1) | ((with_reducible refine gate_callee (f := 58) rfl ?_); refine gl 19 Try.func58 #[.agg #[.slice A0_0 l0_0.length c0_0, .slice A0_1 l0_1.length c0_1], .agg #[.int .i64 a1_0, .int .i64 a1_1]] ?_; (with_reducible refine (impl_Vessels_amount.calls _ _ l0_0 _ _ l0_1 a1_0 a1_1 t272 _ ?side1 ?side2 ?side3 ?side4 A5.out).mono ?_); (case side1 => exact ck HR0_0 HB); (case side2 => exact HC0_0.out); (case side3 => exact ck HR0_1 HB); (case side4 => exact HC0_1.out); rintro e w15 ⟨rfl, hb⟩; refine ⟨_, rfl, ?_⟩; replace BK268 := bb BK268 hb; replace BK269 := bb BK269 hb; replace HB := bs HB hb; (try clear hb)))
   go_ret2
   exact ⟨by first | rfl | (simp [errW_none, errW_some] <;> rfl) | (simp [*, errW_none, errW_some] <;> rfl), bw HB⟩
  ·rw [if_neg c6] at H
   have c6b0 : (t272 == 0) = false := beq_eq_false_iff_ne.mpr c6
   have c6b1 : (t272 != 0) = true := bne_iff_ne.mpr c6
   replace H := Option.bind_eq_some_iff.mp H
   obtain ⟨⟨t273, t276⟩, A160, H⟩ := H
   replace H : ((impl_Vessels_moves.f k t273 t276 false).bind fun t280 => ((anyO (fun m => impl_IsUndone_1.f k m.f0 m.f1 t273 t276 l0_0 l0_1) t280).bind fun t290 => some (t290, true))) = some (r1, r2) := H
   have A16 := Aside0.mk A160
   clear A160
   replace H := Option.bind_eq_some_iff.mp H
   obtain ⟨t280, A170, H⟩ := H
   replace H : ((anyO (fun m => impl_IsUndone_1.f k m.f0 m.f1 t273 t276 l0_0 l0_1) t280).bind fun t290 => some (t290, true)) = some (r1, r2) := H
   have A17 := Aside0.mk A170
   clear A170
   replace H := Option.bind_eq_some_iff.mp H
   obtain ⟨t290, A180, H⟩ := H
   have A18 := Aside0.mk A180
   clear A180
   simp only [Option.some.injEq, Prod.mk.injEq] at H
   obtain ⟨rfl, rfl⟩ := H
   go_enter Try.func28, Try.ntmps28
   go_wp2_with (first | ((with_reducible refine gate_dst (N := 2) rfl ?_); refine bx 2 #[.slice A0_0 l0_0.length c0_0, .slice A0_1 l0_1.length c0_1] 29 ?_; intro gb268 hg w18 hbox hb; have BK268 := Aside0.mk (hbox); have GW268 := ge HB hg; have GE268 := ge HB hg; replace HB := bs HB hb; clear hb hbox hg) | ((with_reducible refine gate_dst (N := 3) rfl ?_); refine bx 3 #[.int .i64 a1_0, .int .i64 a1_1] 49 ?_; intro gb269 hg w19 hbox hb; have BK269 := Aside0.mk (hbox); have GW269 := ge HB hg; have GE269 := ge HB hg; replace HB := bs HB hb; have NB268_269 := nl BK268 hg; have NB269_268 := nr BK268 hg; replace BK268 := bb BK268 hb; clear hb hbox hg; have hnb20 := NB268_269.out; have hnc20 := NB269_268.out; have hcz21_0 := bc0 BK268; have hcz21_1 := bc1 BK268; have hfz21_0 := blk_frozen BK268.out 0; have hfz21_1 := blk_frozen BK268.out 1; have hcz22_0 := bc0 BK269; have hcz22_1 := bc1 BK269; have hfz22_0 := blk_frozen BK269.out 0; have hfz22_1 := blk_frozen BK269.out 1) | ((with_reducible refine gate_callee (f := 57) rfl ?_); refine gl 12 Try.func57 #[.agg #[.slice A0_0 l0_0.length c0_0, .slice A0_1 l0_1.length c0_1], .agg #[.int .i64 a1_0, .int .i64 a1_1]] ?_; (with_reducible refine (impl_IsMove.calls k _ _ l0_0 _ _ l0_1 a1_0 a1_1 true t271 _ ?side1 ?side2 ?side3 ?side4 A3.out).mono ?_); (case side1 => exact ck HR0_0 HB); (case side2 => exact HC0_0.out); (case side3 => exact ck HR0_1 HB); (case side4 => exact HC0_1.out); rintro e w23 ⟨rfl, hb⟩; refine ⟨_, rfl, ?_⟩; replace BK268 := bb BK268 hb; replace BK269 := bb BK269 hb; replace HB := bs HB hb; (try clear hb); have hcz24_0 := bc0 BK268; have hcz24_1 := bc1 BK268; have hfz24_0 := blk_frozen BK268.out 0; have hfz24_1 := blk_frozen BK268.out 1; have hcz25_0 := bc0 BK269; have hcz25_1 := bc1 BK269; have hfz25_0 := blk_frozen BK269.out 0; have hfz25_1 := blk_frozen BK269.out 1) | ((with_reducible refine gate_callee (f := 58) rfl ?_); refine gl 19 Try.func58 #[.agg #[.slice A0_0 l0_0.length c0_0, .slice A0_1 l0_1.length c0_1], .agg #[.int .i64 a1_0, .int .i64 a1_1]] ?_; (with_reducible refine (impl_Vessels_amount.calls _ _ l0_0 _ _ l0_1 a1_0 a1_1 t272 _ ?side1 ?side2 ?side3 ?side4 A5.out).mono ?_); (case side1 => exact ck HR0_0 HB); (case side2 => exact HC0_0.out); (case side3 => exact ck HR0_1 HB); (case side4 => exact HC0_1.out); rintro e w26 ⟨rfl, hb⟩; refine ⟨_, rfl, ?_⟩; replace BK268 := bb BK268 hb; replace BK269 := bb BK269 hb; replace HB := bs HB hb; (try clear hb); have hcz27_0 := bc0 BK268; have hcz27_1 := bc1 BK268; have hfz27_0 := blk_frozen BK268.out 0; have hfz27_1 := blk_frozen BK268.out 1; have hcz28_0 := bc0 BK269; have hcz28_1 := bc1 BK269; have hfz28_0 := blk_frozen BK269.out 0; have hfz28_1 := blk_frozen BK269.out 1) | ((with_reducible refine gate_callee (f := 59) rfl ?_); refine gl 23 Try.func59 #[.agg #[.slice A0_0 l0_0.length c0_0, .slice A0_1 l0_1.length c0_1], .agg #[.int .i64 a1_0, .int .i64 a1_1]] ?_; (with_reducible refine (impl_Vessels_behind.calls _ _ l0_0 _ _ l0_1 a1_0 a1_1 t273 t276 _ ?side1 ?side2 ?side3 ?side4 A16.out).mono ?_); (case side1 => exact ck HR0_0 HB); (case side2 => exact HC0_0.out); (case side3 => exact ck HR0_1 HB); (case side4 => exact HC0_1.out); rintro e w29 ⟨v274, v277, rfl, ho0, ho1, hb⟩; refine ⟨_, rfl, ?_⟩; have HO275 := lo ho0 HB; have HO278 := lo ho1 HB; replace BK268 := bb BK268 hb; replace BK269 := bb BK269 hb; replace HB := bs HB hb; (try clear hb); (try clear ho0); (try clear ho1)) | ((with_reducible refine gate_dst (N := 8) rfl ?_); refine bx 8 #[.slice none 0 0, .slice none 0 0] 29 ?_; intro gb279 hg w30 hbox hb; replace HO275 := rb HO275 hb; replace HO278 := rb HO278 hb; have BK279 := Aside0.mk (hbox); have GW279 := ge HB hg; have GE279 := ge HB hg; replace HB := bs HB hb; have NB268_279 := nl BK268 hg; have NB279_268 := nr BK268 hg; replace BK268 := bb BK268 hb; have NB269_279 := nl BK269 hg; have NB279_269 := nr BK269 hg; replace BK269 := bb BK269 hb; clear hb hbox hg; obtain ⟨Ao31, co31, eo31⟩ := Kd.R_slice HO275.out; subst eo31; have hnb32 := NB279_268.out; have hnc32 := NB268_279.out; have hnb33 := NB279_269.out; have hnc33 := NB269_279.out; have hcz34_0 := bc0 BK279; have hcz34_1 := bc1 BK279; have hfz34_0 := blk_frozen BK279.out 0; have hfz34_1 := blk_frozen BK279.out 1; obtain ⟨Ao35, co35, eo35⟩ := Kd.R_slice HO278.out; subst eo35) | ((with_reducible refine gate_callee (f := 52) rfl ?_); refine gl 25 Try.func52 #[.agg #[.slice Ao31 t273.length co31, .slice Ao35 t276.length co35], .bool false] ?_; (with_reducible refine (impl_Vessels_moves.calls k _ _ t273 _ _ t276 false t280 _ ?side1 ?side2 ?side3 ?side4 A17.out).mono ?_); (case side1 => refine (Kd.R_reads' (e := 3) (base := w.heap.size) (ok := fun k_ => some k_ ≠ (.slice Ao35 t276.length co35 : Value).ownBlock) (n := t273.length) (c := co31) ?_).2.2; exact (by (with_reducible repeat (first | apply Kd.R_alloc | apply Kd.R_drewN | apply Kd.R_drew)); exact (Kd.R_mono (Kd.R_far (p := ⟨gb279, 1, none⟩) (Kd.R_far (p := ⟨gb279, 0, none⟩) (Kd.R_types HO275.out BK279.out (by decide)) (fun _ hk => hk.2) (.slice Ao31 t273.length co31)) (fun _ hk => hk.2) (.slice Ao35 t276.length co35)) (fun _ h_ => h_.1)))); (case side2 => exact (Kd.R_reads' HO275.out).2.1); (case side3 => refine (Kd.R_reads' (e := 3) (base := w.heap.size) (ok := fun k_ => some k_ ≠ (.slice Ao31 t273.length co31 : Value).ownBlock) (n := t276.length) (c := co35) ?_).2.2; exact (by (with_reducible repeat (first | apply Kd.R_alloc | apply Kd.R_drewN | apply Kd.R_drew)); exact (Kd.R_mono (Kd.R_far (p := ⟨gb279, 1, none⟩) (Kd.R_far (p := ⟨gb279, 0, none⟩) (Kd.R_types HO278.out BK279.out (by decide)) (fun _ hk => hk.2) (.slice Ao31 t273.length co31)) (fun _ hk => hk.2) (.slice Ao35 t276.length co35)) (fun _ h_ => h_.1)))); (case side4 => exact (Kd.R_reads' HO278.out).2.1); rintro e w36 ⟨v281, rfl, ho0, hb⟩; refine ⟨_, rfl, ?_⟩; replace HO275 := Aside0.mk (Kd.R_below (by (with_reducible repeat (first | apply Kd.R_alloc | apply Kd.R_drewN | apply Kd.R_drew)); exact (Kd.R_mono (Kd.R_far (p := ⟨gb279, 1, none⟩) (Kd.R_far (p := ⟨gb279, 0, none⟩) (Kd.R_types HO275.out BK279.out (by decide)) (fun _ hk => hk.2) (.slice Ao31 t273.length co31)) (fun _ hk => hk.2) (.slice Ao35 t276.length co35)) (fun _ h_ => h_.1))) hb); replace HO278 := Aside0.mk (Kd.R_below (by (with_reducible repeat (first | apply Kd.R_alloc | apply Kd.R_drewN | apply Kd.R_drew)); exact (Kd.R_mono (Kd.R_far (p := ⟨gb279, 1, none⟩) (Kd.R_far (p := ⟨gb279, 0, none⟩) (Kd.R_types HO278.out BK279.out (by decide)) (fun _ hk => hk.2) (.slice Ao31 t273.length co31)) (fun _ hk => hk.2) (.slice Ao35 t276.length co35)) (fun _ h_ => h_.1))) hb); have HO282 := Aside0.mk (Kd.R_lower (Kd.R_newB ho0 (g := gb269) (o := .cells #[.int .i64 a1_0, .int .i64 a1_1] 49 (0, 0)) (bk BK269)) (below_size (bw HB))); replace BK268 := bb BK268 hb; replace BK269 := bb BK269 hb; replace BK279 := Aside0.mk (blk_below (g := gb279) (o := .cells #[.slice Ao31 t273.length co31, .slice Ao35 t276.length co35] 29 (0, 0)) (by (with_reducible repeat (first | refine blk_drewN ?_ _ | refine blk_drew ?_ | refine blk_alloc ?_ _)); refine blk_put (cs := #[.slice Ao31 t273.length co31, .slice none 0 0]) ?_ 1 _ rfl; (with_reducible repeat (first | refine blk_drewN ?_ _ | refine blk_drew ?_ | refine blk_alloc ?_ _)); refine blk_put (cs := #[.slice none 0 0, .slice none 0 0]) ?_ 0 _ rfl; exact bk BK279) hb); replace HB := bs HB hb; (try clear hb); (try clear ho0); have hcz37_0 := bc0 BK268; have hcz37_1 := bc1 BK268; have hfz37_0 := blk_frozen BK268.out 0; have hfz37_1 := blk_frozen BK268.out 1) | ((with_reducible refine gate_callee (f := 60) rfl ?_); obtain ⟨Am, cm, em⟩ := Kd.R_slice HO282.out; subst em; refine gl 27 Try.func60 #[.slice Am t280.length cm, .func (.func 61) #[] #[.pointer (some ⟨gb279, 0, none⟩), .pointer (some ⟨gb268, 0, none⟩)]] ?_; (refine (impl_IsUndone_any k Ao31 co31 t273 Ao35 co35 t276 A0_0 c0_0 l0_0 A0_1 c0_1 l0_1 Am cm t280 t290 _ gb279 gb268 ?b1 ?b2 ?c1 (Kd.R_reads' HO275.out).2.1 ?c2 (Kd.R_reads' HO278.out).2.1 ?c3 HC0_0.out ?c4 HC0_1.out ?c5 A18.out).mono ?_); (case b1 => exact (bk BK279)); (case b2 => exact (bk BK268)); (case c1 => exact (Kd.R_reads' (rk HO275)).2.2); (case c2 => exact (Kd.R_reads' (rk HO278)).2.2); (case c3 => exact ck HR0_0 HB); (case c4 => exact ck HR0_1 HB); (case c5 => exact (Kd.R_reads' (rk HO282)).2.2); rintro e w40 ⟨rfl, hb⟩; refine ⟨_, rfl, ?_⟩; have n0_ := bs HB hb; clear HB; have HB := n0_; clear n0_ hb))
   go_ret2
   exact ⟨by first | rfl | (simp [errW_none, errW_some] <;> rfl) | (simp [*, errW_none, errW_some] <;> rfl), bw HB⟩
 ·replace c4 := Bool.eq_false_iff.mpr c4
  subst c4
  have H1 : (some (false, false)) = some (r1, r2) := by rw [if_neg (show ¬ (false = true) by decide)] at H; exact H
  clear H
  have H := H1
  clear H1
  simp only [Option.some.injEq, Prod.mk.injEq] at H
  obtain ⟨rfl, rfl⟩ := H
  go_enter Try.func28, Try.ntmps28
  go_wp2_with (first | ((with_reducible refine gate_dst (N := 2) rfl ?_); refine bx 2 #[.slice A0_0 l0_0.length c0_0, .slice A0_1 l0_1.length c0_1] 29 ?_; intro gb268 hg w38 hbox hb; have BK268 := Aside0.mk (hbox); have GW268 := ge HB hg; have GE268 := ge HB hg; replace HB := bs HB hb; clear hb hbox hg) | ((with_reducible refine gate_dst (N := 3) rfl ?_); refine bx 3 #[.int .i64 a1_0, .int .i64 a1_1] 49 ?_; intro gb269 hg w39 hbox hb; have BK269 := Aside0.mk (hbox); have GW269 := ge HB hg; have GE269 := ge HB hg; replace HB := bs HB hb; have NB268_269 := nl BK268 hg; have NB269_268 := nr BK268 hg; replace BK268 := bb BK268 hb; clear hb hbox hg; have hnb40 := NB268_269.out; have hnc40 := NB269_268.out; have hcz41_0 := bc0 BK268; have hcz41_1 := bc1 BK268; have hfz41_0 := blk_frozen BK268.out 0; have hfz41_1 := blk_frozen BK268.out 1; have hcz42_0 := bc0 BK269; have hcz42_1 := bc1 BK269; have hfz42_0 := blk_frozen BK269.out 0; have hfz42_1 := blk_frozen BK269.out 1) | ((with_reducible refine gate_callee (f := 57) rfl ?_); refine gl 12 Try.func57 #[.agg #[.slice A0_0 l0_0.length c0_0, .slice A0_1 l0_1.length c0_1], .agg #[.int .i64 a1_0, .int .i64 a1_1]] ?_; (with_reducible refine (impl_IsMove.calls k _ _ l0_0 _ _ l0_1 a1_0 a1_1 false t271 _ ?side1 ?side2 ?side3 ?side4 A3.out).mono ?_); (case side1 => exact ck HR0_0 HB); (case side2 => exact HC0_0.out); (case side3 => exact ck HR0_1 HB); (case side4 => exact HC0_1.out); rintro e w43 ⟨rfl, hb⟩; refine ⟨_, rfl, ?_⟩; replace BK268 := bb BK268 hb; replace BK269 := bb BK269 hb; replace HB := bs HB hb; (try clear hb)))
  go_ret2
  exact ⟨by first | rfl | (simp [errW_none, errW_some] <;> rfl) | (simp [*, errW_none, errW_some] <;> rfl), bw HB⟩


end Go.Proofs.Ytigpkicbigpilaa.U
