/- impl.find: as a plain function, and that the calls come to it. -/
import Derived.Test.YtigpkicbigpilaaTfVreQ
import Derived.Test.YtigpkicbigpilaaTfVx4
namespace Go.Proofs.Ytigpkicbigpilaa.V
open Go.RowKit Go.Proofs.YtigpkicbigpilaaW.PrintWords Go.Proofs.YtigpkicbigpilaaW.PrintLast Go.Proofs.YtigpkicbigpilaaW.PrintMore Go.Proofs.Ytigpkicbigpilaa.Sq Go.Proofs.Ytigpkicbigpilaa.Sep
attribute [local go_sem] max2_int min2_int max_two min_two max_three min_three max_four min_four
set_option linter.unusedVariables false
set_option linter.unusedSimpArgs false
theorem reR_own {F : Nat → Prop} {w : World} {b mb : Nat} {v0 v2 v3 v4 : Value} {x0 : List S29} {m : List (Gv.K5 × Int)} {x2 x3 : List Int} {x4 : List S49} {ok : Bool} (h : Sep F w (reR b mb v0 v2 v3 v4 x0 m x2 x3 x4 ok)) (hmb : b ≤ mb) : ∀ (i : Nat) (c : Comp), (reR b mb v0 v2 v3 v4 x0 m x2 x3 x4 ok)[i]? = some c → ∀ k, c.own = some k → b ≤ k := by
 intro i c hi k hk
 have hP := h i c hi
 rcases i with _ | _ | _ | _ | _ | i
 · obtain rfl := Option.some.inj hi; exact Kd.N_base (show Kd.N k29 29 w b _ v0 x0 from hP) k hk
 · obtain rfl := Option.some.inj hi
   cases ok with
   | false => cases hk
   | true => obtain rfl := Option.some.inj hk; exact hmb
 · obtain rfl := Option.some.inj hi; exact Kd.R_base (show Kd.R (Kd.int .i64) 3 w b _ v2 x2 from hP) k hk
 · obtain rfl := Option.some.inj hi; exact Kd.R_base (show Kd.R (Kd.int .i64) 3 w b _ v3 x3 from hP) k hk
 · obtain rfl := Option.some.inj hi; exact Kd.R_base (show Kd.R k49 49 w b _ v4 x4 from hP) k hk
 · simp [reR] at hi
/-- What a call of find gives, row by row. -/
def FiP (F0 : Nat → Prop) (w w' : World) (mb : Nat) (O : Obj) (v0 : Value) (mv : Option Nat) (v2 v3 v4 : Value) (r1 : List S29) (r2 : List (Gv.K5 × Int)) (r3 r4 : List Int) (r5 : List S49) (r7 : Bool) : Prop :=
  (r7 = true → ReM w.heap.size w' mv r2 mb O) ∧
  Kd.N k29 29 w' w.heap.size (fun k_ => (F0 k_ ∨ w.heap.size ≤ k_) ∧ some k_ ≠ (v2 : Value).ownBlock ∧ some k_ ≠ (v3 : Value).ownBlock ∧ some k_ ≠ (v4 : Value).ownBlock ∧ (r7 = true → k_ ≠ mb)) v0 r1 ∧
  Kd.R (Kd.int .i64) 3 w' w.heap.size (fun k_ => (F0 k_ ∨ w.heap.size ≤ k_) ∧ some k_ ≠ (v3 : Value).ownBlock) v2 r3 ∧
  Kd.R (Kd.int .i64) 3 w' w.heap.size (fun k_ => (F0 k_ ∨ w.heap.size ≤ k_) ∧ some k_ ≠ (v2 : Value).ownBlock) v3 r4 ∧
  Kd.R k49 49 w' w.heap.size (fun k_ => (F0 k_ ∨ w.heap.size ≤ k_)) v4 r5 ∧ Below w.heap.size w w'
theorem FiP.no (F0 : Nat → Prop) {w w' : World} (hb : Below w.heap.size w w') : FiP F0 w w' 0 (.cells #[] 0 (0, 0)) (.slice none 0 0) none (.slice none 0 0) (.slice none 0 0) (.slice none 0 0) [] [] [] [] [] false :=
  ⟨(fun e => by cases e), Kd.N_nil _ _ _ _ _, Kd.R_nil _ _ _ _ _, Kd.R_nil _ _ _ _ _, Kd.R_nil _ _ _ _ _, hb⟩
theorem FiP.of {F0 : Nat → Prop} {w w' : World} {b mb : Nat} {v0 v2 v3 v4 : Value} {r1 : List S29} {r2 : List (Gv.K5 × Int)} {r3 r4 : List Int} {r5 : List S49} (hle : w.heap.size ≤ b) (hmb : b ≤ mb) (hS : Sep (fun k => F0 k ∨ w.heap.size ≤ k) w' (reR b mb v0 v2 v3 v4 r1 r2 r3 r4 r5 true)) (hb : Below w.heap.size w w') : ∃ O, FiP F0 w w' mb O v0 (some mb) v2 v3 v4 r1 r2 r3 r4 r5 true := by
 have hn : ∀ i j : Nat, ∀ c, j ≠ i → (reR b mb v0 v2 v3 v4 r1 r2 r3 r4 r5 true)[j]? = some c → ∀ k, okOf (reR b mb v0 v2 v3 v4 r1 r2 r3 r4 r5 true) i k → some k ≠ c.own := fun i j c hj hc k hk => hk j c hj hc
 obtain ⟨O, e1, e2⟩ := mapO_of (hS.get 1 rfl : Gv.MapIs Gv.ev5 92 3 w' mb r2 ∧ _).1
 refine ⟨O, fun _ => ⟨rfl, Nat.le_trans hle hmb, e1, e2⟩, Kd.N_lower (Kd.N_mono (hS.get 0 rfl : Kd.N k29 29 w' b _ v0 r1) (fun k hk => ⟨hk.1, hn 0 2 _ (by decide) rfl k hk.2, hn 0 3 _ (by decide) rfl k hk.2, hn 0 4 _ (by decide) rfl k hk.2, fun _ e => hn 0 1 _ (by decide) rfl k hk.2 (by rw [e]; rfl)⟩)) hle, ?_, ?_, ?_, hb⟩
 · exact Kd.R_lower (Kd.R_mono (hS.get 2 rfl : Kd.R (Kd.int .i64) 3 w' b _ v2 r3) (fun k hk => ⟨hk.1, hn 2 3 _ (by decide) rfl k hk.2⟩)) hle
 · exact Kd.R_lower (Kd.R_mono (hS.get 3 rfl : Kd.R (Kd.int .i64) 3 w' b _ v3 r4) (fun k hk => ⟨hk.1, hn 3 2 _ (by decide) rfl k hk.2⟩)) hle
 · exact Kd.R_lower (Kd.R_mono (hS.get 4 rfl : Kd.R k49 49 w' b _ v4 r5) (fun k hk => hk.1)) hle
def impl_find.f (k : Nat) (l0_0 l0_1 l1_0 l1_1 : List Int) (a2 : Bool) : Option (List S29 × List (Gv.K5 × Int) × List Int × List Int × List S49 × Int × Bool) := (impl_reachOf.f k l0_0 l0_1 a2 3000).bind fun t => if t.2.2.2.2.2 = true then ((impl_AreVessels.f k l1_0 l1_1).bind fun u => if u = true then ((slices_Equal_int_int.f k l0_0 l1_0).bind fun q => if q = true then (if Gv.wf5 (Gv.key5 l1_1) = true then (if (Gv.lk t.2.1 (Gv.key5 l1_1)).isSome = true then some (t.1, t.2.1, t.2.2.1, t.2.2.2.1, t.2.2.2.2.1, (Gv.lk t.2.1 (Gv.key5 l1_1)).getD 0, true) else some (t.1, t.2.1, t.2.2.1, t.2.2.2.1, t.2.2.2.2.1, -1, true)) else none) else some ([], [], [], [], [], -1, false)) else some ([], [], [], [], [], -1, false)) else some ([], [], [], [], [], -1, false)
def impl_find.T4 : Bool × List (List Nat × List Nat) := (true, [([], []), ([0], [0]), ([], []), ([2], [2]), ([1, 3], [1, 3]), ([4], [4]), ([5], [5]), ([5], [5]), ([6, 3, 0, 1, 2, 3, 4, 5, 6], [6]), ([7, 8, 0, 1, 2, 3, 4, 5, 6, 7, 8], [7])])
def impl_find.B4 : List Nat := [0, 1, 0, 4, 15, 31, 63, 63, 127, 511]
theorem impl_find.tab4 : rtab .any (opsOf Try.f68 4) = impl_find.T4 := by kernel_rfl
theorem impl_find.bits4 : waitsOk impl_find.T4.2 impl_find.B4 = true := by kernel_rfl
set_option maxHeartbeats 16000000 in
set_option maxRecDepth 100000 in
theorem impl_find.calls (k : Nat) (F0 : Nat → Prop) (A0_0 : Option Addr) (c0_0 : Nat) (l0_0 : List Int) (A0_1 : Option Addr) (c0_1 : Nat) (l0_1 : List Int) (A1_0 : Option Addr) (c1_0 : Nat) (l1_0 : List Int) (A1_1 : Option Addr) (c1_1 : Nat) (l1_1 : List Int) (a2 : Bool) (r1 : List S29) (r2 : List (Gv.K5 × Int)) (r3 r4 : List Int) (r5 : List S49) (r6 : Int) (r7 : Bool) (w : World) (hr : Foot (fun w => (Kd.C (Kd.int .i64) w A0_0 l0_0.length l0_0 ∧ Kd.C (Kd.int .i64) w A0_1 l0_1.length l0_1) ∧ (Kd.C (Kd.int .i64) w A1_0 l1_0.length l1_0 ∧ Kd.C (Kd.int .i64) w A1_1 l1_1.length l1_1)) w F0) (hc0_0 : l0_0.length ≤ c0_0) (hc0_1 : l0_1.length ≤ c0_1) (hc1_0 : l1_0.length ≤ c1_0) (hc1_1 : l1_1.length ≤ c1_1) (h : impl_find.f k l0_0 l0_1 l1_0 l1_1 a2 = some (r1, r2, r3, r4, r5, r6, r7)) :
  Calls Try.prog 68 #[.agg #[.slice A0_0 l0_0.length c0_0, .slice A0_1 l0_1.length c0_1], .agg #[.slice A1_0 l1_0.length c1_0, .slice A1_1 l1_1.length c1_1], .bool a2] w fun e w' => ∃ (mb : Nat) (O : Obj) (v0 : Value) (mv : Option Nat) (v2 v3 v4 : Value), e = .returned (.tuple #[.agg #[v0, .map mv, v2, v3, v4], .int .i64 r6, .bool r7]) ∧ FiP F0 w w' mb O v0 mv v2 v3 v4 r1 r2 r3 r4 r5 r7 := by
 have hu29 := Try.underlying29
 have hu83 := Try.underlying83
 have HS := SB.start w (fun k => F0 k ∨ w.heap.size ≤ k) _ F0 hr (fun _ hk => .inl hk) (fun _ hk => .inr hk)
 have HF := Aside0.mk hr
 clear hr
 unfold impl_find.f at h
 replace h := Option.bind_eq_some_iff.mp h
 obtain ⟨⟨x0, m, x2, x3, x4, ok⟩, AR, H⟩ := h
 have AR' := Aside0.mk AR
 clear AR
 dsimp only at H
 by_cases c1 : ok = true
 rotate_left
 · replace c1 := Bool.eq_false_iff.mpr c1
   subst c1
   rw [if_neg (by decide)] at H
   simp only [Option.some.injEq, Prod.mk.injEq] at H
   obtain ⟨rfl, rfl, rfl, rfl, rfl, rfl, rfl⟩ := H
   go_enter Try.func68, Try.ntmps68
   go_wp2_with (first | ((with_reducible refine gate_dst (N := 3) rfl ?_); refine SB.bx HS 3 #[.slice A0_0 l0_0.length c0_0, .slice A0_1 l0_1.length c0_1] 29 ?_; clear HS; intro g3 w1 HS G3) | ((with_reducible refine gate_dst (N := 4) rfl ?_); refine SB.bx HS 4 #[.slice A1_0 l1_0.length c1_0, .slice A1_1 l1_1.length c1_1] 29 ?_; clear HS; intro g4 w2 HS G4) | ((with_reducible refine gate_dst (N := 6) rfl ?_); refine SB.bx HS 6 #[.slice none 0 0, .map none, .slice none 0 0, .slice none 0 0, .slice none 0 0] 83 ?_; clear HS; intro g6 w3 HS G6; have hka := SB.cells (g := g3) (cells := #[.slice A0_0 l0_0.length c0_0, .slice A0_1 l0_1.length c0_1]) (t := 29) HS 1; have hcza_0 := bc0 hka; have hcza_1 := bc1 hka; have hfza_0 := blk_frozen hka.out 0; have hfza_1 := blk_frozen hka.out 1) | ((with_reducible refine gate_callee (f := 64) rfl ?_); refine gl 16 Try.func64 #[.agg #[.slice A0_0 l0_0.length c0_0, .slice A0_1 l0_1.length c0_1], .bool a2, .int .i64 3000] ?_; (with_reducible refine (impl_reachOf.calls k (fun k_ => F0 k_ ∧ k_ < w.heap.size) _ _ l0_0 _ _ l0_1 a2 3000 x0 m x2 x3 x4 false _ ?side1 ?side2 ?side3 AR'.out).mono ?_); (case side1 => exact (HF.out.bound.step (fun k hk _ => HS.b.block k hk.2)).imp (fun _ h => h.1)); (case side2 => exact hc0_0); (case side3 => exact hc0_1); rintro e w4 ⟨mb, v0, v2, v3, v4, rfl, hmb, hS, hb⟩; refine ⟨_, rfl, ?_⟩; have HW := HS.le; (try clear hka hcza_0 hcza_1 hfza_0 hfza_1); replace HS := SB.merge HS hb hS (fun k hk hlt => hk.elim (fun hh => ⟨.inl hh.1, fun j c hj he => by (rcases j with _ | _ | _ | _ | j); (obtain rfl := Option.some.inj hj; cases he); (obtain rfl := Option.some.inj hj; injection he with he; have h1_ := G3.out; have h2_ := hh.2; omega); (obtain rfl := Option.some.inj hj; injection he with he; have h1_ := G4.out; have h2_ := hh.2; omega); (obtain rfl := Option.some.inj hj; injection he with he; have h1_ := G6.out; have h2_ := hh.2; omega); simp at hj⟩) (fun hh => absurd hh (Nat.not_le.2 hlt))) (reR_own hS hmb); clear hS hb; simp only [cond_true, cond_false]) | ((with_reducible refine gate_dst (N := 9) rfl ?_); refine SB.bx HS 9 #[.slice none 0 0, .map none, .slice none 0 0, .slice none 0 0, .slice none 0 0] 83 ?_; clear HS; intro g9 w5 HS G9; obtain ⟨B0, d0, rfl⟩ := Kd.N_slice (SB.nrows HS 4 (d := k29) (v := v0) (xs := x0)); obtain ⟨B2, d2, rfl⟩ := Kd.R_slice (SB.rows HS 6 (d := Kd.int .i64) (v := v2) (xs := x2)); obtain ⟨B3, d3, rfl⟩ := Kd.R_slice (SB.rows HS 7 (d := Kd.int .i64) (v := v3) (xs := x3)); obtain ⟨B4, d4, rfl⟩ := Kd.R_slice (SB.rows HS 8 (d := k49) (v := v4) (xs := x4)); have hkn := SB.cells (g := g9) (cells := #[.slice none 0 0, .map none, .slice none 0 0, .slice none 0 0, .slice none 0 0]) (t := 83) HS 9; have hczn_0 := bc0 hkn; have hczn_1 := bc1 hkn; have hczn_2 := bc2 hkn; have hczn_3 := bc3 hkn; have hczn_4 := bc4 hkn; have hfzn_0 := blk_frozen hkn.out 0; have hfzn_1 := blk_frozen hkn.out 1; have hfzn_2 := blk_frozen hkn.out 2; have hfzn_3 := blk_frozen hkn.out 3; have hfzn_4 := blk_frozen hkn.out 4; have hkb := SB.cells (g := g4) (cells := #[.slice A1_0 l1_0.length c1_0, .slice A1_1 l1_1.length c1_1]) (t := 29) HS 2; have hczb_0 := bc0 hkb; have hczb_1 := bc1 hkb; have hfzb_0 := blk_frozen hkb.out 0; have hfzb_1 := blk_frozen hkb.out 1; have hkz := SB.cells (g := g6) (cells := #[.slice none 0 0, .map none, .slice none 0 0, .slice none 0 0, .slice none 0 0]) (t := 83) HS 3; have hczz_0 := bc0 hkz; have hczz_1 := bc1 hkz; have hczz_2 := bc2 hkz; have hczz_3 := bc3 hkz; have hczz_4 := bc4 hkz; have hfzz_0 := blk_frozen hkz.out 0; have hfzz_1 := blk_frozen hkz.out 1; have hfzz_2 := blk_frozen hkz.out 2; have hfzz_3 := blk_frozen hkz.out 3; have hfzz_4 := blk_frozen hkz.out 4; have ne94 : g9 ≠ g4 := fun e => SB.ne HS 9 2 (g := g9) (c := blk g9 #[.slice none 0 0, .map none, .slice none 0 0, .slice none 0 0, .slice none 0 0] 83) (d := blk g4 #[.slice A1_0 l1_0.length c1_0, .slice A1_1 l1_1.length c1_1] 29) (by decide) (fun ok h => h.2) (by rw [e]; rfl); have ne94' := ne94.symm; have ne96 : g9 ≠ g6 := fun e => SB.ne HS 9 3 (g := g9) (c := blk g9 #[.slice none 0 0, .map none, .slice none 0 0, .slice none 0 0, .slice none 0 0] 83) (d := blk g6 #[.slice none 0 0, .map none, .slice none 0 0, .slice none 0 0, .slice none 0 0] 83) (by decide) (fun ok h => h.2) (by rw [e]; rfl); have ne96' := ne96.symm))
   replace HS := (SB.set (SB.set (SB.set (SB.set (SB.set HS 9 0 (.slice B0 x0.length d0) #[.slice B0 x0.length d0, .map none, .slice none 0 0, .slice none 0 0, .slice none 0 0] G9.out) 9 1 (.map none) #[.slice B0 x0.length d0, .map none, .slice none 0 0, .slice none 0 0, .slice none 0 0] G9.out) 9 2 (.slice B2 x2.length d2) #[.slice B0 x0.length d0, .map none, .slice B2 x2.length d2, .slice none 0 0, .slice none 0 0] G9.out) 9 3 (.slice B3 x3.length d3) #[.slice B0 x0.length d0, .map none, .slice B2 x2.length d2, .slice B3 x3.length d3, .slice none 0 0] G9.out) 9 4 (.slice B4 x4.length d4) #[.slice B0 x0.length d0, .map none, .slice B2 x2.length d2, .slice B3 x3.length d3, .slice B4 x4.length d4] G9.out)
   (try clear hkz hczz_0 hczz_1 hczz_2 hczz_3 hczz_4 hfzz_0 hfzz_1 hfzz_2 hfzz_3 hfzz_4)
   replace HS := (SB.set (SB.set (SB.set (SB.set (SB.set HS 3 0 (.slice none 0 0) #[.slice none 0 0, .map none, .slice none 0 0, .slice none 0 0, .slice none 0 0] G6.out) 3 1 (.map none) #[.slice none 0 0, .map none, .slice none 0 0, .slice none 0 0, .slice none 0 0] G6.out) 3 2 (.slice none 0 0) #[.slice none 0 0, .map none, .slice none 0 0, .slice none 0 0, .slice none 0 0] G6.out) 3 3 (.slice none 0 0) #[.slice none 0 0, .map none, .slice none 0 0, .slice none 0 0, .slice none 0 0] G6.out) 3 4 (.slice none 0 0) #[.slice none 0 0, .map none, .slice none 0 0, .slice none 0 0, .slice none 0 0] G6.out)
   have hk9 := SB.cells (g := g6) (cells := #[.slice none 0 0, .map none, .slice none 0 0, .slice none 0 0, .slice none 0 0]) (t := 83) HS 3
   (try simp only [Exit.inBlock, Exit.then])
   refine bodyPost_ret (Sep.results_ctt rfl _ _ g6 83 #[.slice none 0 0, .map none, .slice none 0 0, .slice none 0 0, .slice none 0 0] (0, 0) _ rfl hk9.out Try.underlying83 rfl (by kernel_rfl)) rfl ?_
   exact ⟨_, _, _, _, _, _, _, rfl, FiP.no F0 HS.b⟩
 subst c1
 rw [if_pos rfl] at H
 replace H := Option.bind_eq_some_iff.mp H
 obtain ⟨u, AV, H⟩ := H
 have AV' := Aside0.mk AV
 clear AV
 (try dsimp only at H)
 by_cases c2 : u = true
 rotate_left
 · replace c2 := Bool.eq_false_iff.mpr c2
   subst c2
   rw [if_neg (by decide)] at H
   simp only [Option.some.injEq, Prod.mk.injEq] at H
   obtain ⟨rfl, rfl, rfl, rfl, rfl, rfl, rfl⟩ := H
   go_enter Try.func68, Try.ntmps68
   go_wp2_with (first | ((with_reducible refine gate_dst (N := 3) rfl ?_); refine SB.bx HS 3 #[.slice A0_0 l0_0.length c0_0, .slice A0_1 l0_1.length c0_1] 29 ?_; clear HS; intro g3 w1 HS G3) | ((with_reducible refine gate_dst (N := 4) rfl ?_); refine SB.bx HS 4 #[.slice A1_0 l1_0.length c1_0, .slice A1_1 l1_1.length c1_1] 29 ?_; clear HS; intro g4 w2 HS G4) | ((with_reducible refine gate_dst (N := 6) rfl ?_); refine SB.bx HS 6 #[.slice none 0 0, .map none, .slice none 0 0, .slice none 0 0, .slice none 0 0] 83 ?_; clear HS; intro g6 w3 HS G6; have hka := SB.cells (g := g3) (cells := #[.slice A0_0 l0_0.length c0_0, .slice A0_1 l0_1.length c0_1]) (t := 29) HS 1; have hcza_0 := bc0 hka; have hcza_1 := bc1 hka; have hfza_0 := blk_frozen hka.out 0; have hfza_1 := blk_frozen hka.out 1) | ((with_reducible refine gate_callee (f := 64) rfl ?_); refine gl 16 Try.func64 #[.agg #[.slice A0_0 l0_0.length c0_0, .slice A0_1 l0_1.length c0_1], .bool a2, .int .i64 3000] ?_; (with_reducible refine (impl_reachOf.calls k (fun k_ => F0 k_ ∧ k_ < w.heap.size) _ _ l0_0 _ _ l0_1 a2 3000 x0 m x2 x3 x4 true _ ?side1 ?side2 ?side3 AR'.out).mono ?_); (case side1 => exact (HF.out.bound.step (fun k hk _ => HS.b.block k hk.2)).imp (fun _ h => h.1)); (case side2 => exact hc0_0); (case side3 => exact hc0_1); rintro e w4 ⟨mb, v0, v2, v3, v4, rfl, hmb, hS, hb⟩; refine ⟨_, rfl, ?_⟩; have HW := HS.le; (try clear hka hcza_0 hcza_1 hfza_0 hfza_1); replace HS := SB.merge HS hb hS (fun k hk hlt => hk.elim (fun hh => ⟨.inl hh.1, fun j c hj he => by (rcases j with _ | _ | _ | _ | j); (obtain rfl := Option.some.inj hj; cases he); (obtain rfl := Option.some.inj hj; injection he with he; have h1_ := G3.out; have h2_ := hh.2; omega); (obtain rfl := Option.some.inj hj; injection he with he; have h1_ := G4.out; have h2_ := hh.2; omega); (obtain rfl := Option.some.inj hj; injection he with he; have h1_ := G6.out; have h2_ := hh.2; omega); simp at hj⟩) (fun hh => absurd hh (Nat.not_le.2 hlt))) (reR_own hS hmb); clear hS hb; simp only [cond_true, cond_false]) | ((with_reducible refine gate_dst (N := 9) rfl ?_); refine SB.bx HS 9 #[.slice none 0 0, .map none, .slice none 0 0, .slice none 0 0, .slice none 0 0] 83 ?_; clear HS; intro g9 w5 HS G9; obtain ⟨B0, d0, rfl⟩ := Kd.N_slice (SB.nrows HS 4 (d := k29) (v := v0) (xs := x0)); obtain ⟨B2, d2, rfl⟩ := Kd.R_slice (SB.rows HS 6 (d := Kd.int .i64) (v := v2) (xs := x2)); obtain ⟨B3, d3, rfl⟩ := Kd.R_slice (SB.rows HS 7 (d := Kd.int .i64) (v := v3) (xs := x3)); obtain ⟨B4, d4, rfl⟩ := Kd.R_slice (SB.rows HS 8 (d := k49) (v := v4) (xs := x4)); have hkn := SB.cells (g := g9) (cells := #[.slice none 0 0, .map none, .slice none 0 0, .slice none 0 0, .slice none 0 0]) (t := 83) HS 9; have hczn_0 := bc0 hkn; have hczn_1 := bc1 hkn; have hczn_2 := bc2 hkn; have hczn_3 := bc3 hkn; have hczn_4 := bc4 hkn; have hfzn_0 := blk_frozen hkn.out 0; have hfzn_1 := blk_frozen hkn.out 1; have hfzn_2 := blk_frozen hkn.out 2; have hfzn_3 := blk_frozen hkn.out 3; have hfzn_4 := blk_frozen hkn.out 4; have hkb := SB.cells (g := g4) (cells := #[.slice A1_0 l1_0.length c1_0, .slice A1_1 l1_1.length c1_1]) (t := 29) HS 2; have hczb_0 := bc0 hkb; have hczb_1 := bc1 hkb; have hfzb_0 := blk_frozen hkb.out 0; have hfzb_1 := blk_frozen hkb.out 1; have hkz := SB.cells (g := g6) (cells := #[.slice none 0 0, .map none, .slice none 0 0, .slice none 0 0, .slice none 0 0]) (t := 83) HS 3; have hczz_0 := bc0 hkz; have hczz_1 := bc1 hkz; have hczz_2 := bc2 hkz; have hczz_3 := bc3 hkz; have hczz_4 := bc4 hkz; have hfzz_0 := blk_frozen hkz.out 0; have hfzz_1 := blk_frozen hkz.out 1; have hfzz_2 := blk_frozen hkz.out 2; have hfzz_3 := blk_frozen hkz.out 3; have hfzz_4 := blk_frozen hkz.out 4; have ne94 : g9 ≠ g4 := fun e => SB.ne HS 9 2 (g := g9) (c := blk g9 #[.slice none 0 0, .map none, .slice none 0 0, .slice none 0 0, .slice none 0 0] 83) (d := blk g4 #[.slice A1_0 l1_0.length c1_0, .slice A1_1 l1_1.length c1_1] 29) (by decide) (fun ok h => h.2) (by rw [e]; rfl); have ne94' := ne94.symm; have ne96 : g9 ≠ g6 := fun e => SB.ne HS 9 3 (g := g9) (c := blk g9 #[.slice none 0 0, .map none, .slice none 0 0, .slice none 0 0, .slice none 0 0] 83) (d := blk g6 #[.slice none 0 0, .map none, .slice none 0 0, .slice none 0 0, .slice none 0 0] 83) (by decide) (fun ok h => h.2) (by rw [e]; rfl); have ne96' := ne96.symm) | (go_at_call 46; replace HS := (SB.set (SB.set (SB.set (SB.set (SB.set HS 9 0 (.slice B0 x0.length d0) #[.slice B0 x0.length d0, .map none, .slice none 0 0, .slice none 0 0, .slice none 0 0] G9.out) 9 1 (.map (some mb)) #[.slice B0 x0.length d0, .map (some mb), .slice none 0 0, .slice none 0 0, .slice none 0 0] G9.out) 9 2 (.slice B2 x2.length d2) #[.slice B0 x0.length d0, .map (some mb), .slice B2 x2.length d2, .slice none 0 0, .slice none 0 0] G9.out) 9 3 (.slice B3 x3.length d3) #[.slice B0 x0.length d0, .map (some mb), .slice B2 x2.length d2, .slice B3 x3.length d3, .slice none 0 0] G9.out) 9 4 (.slice B4 x4.length d4) #[.slice B0 x0.length d0, .map (some mb), .slice B2 x2.length d2, .slice B3 x3.length d3, .slice B4 x4.length d4] G9.out); (try clear hkn hczn_0 hczn_1 hczn_2 hczn_3 hczn_4 hfzn_0 hfzn_1 hfzn_2 hfzn_3 hfzn_4); (try clear hkb hczb_0 hczb_1 hfzb_0 hfzb_1); (try clear hkz hczz_0 hczz_1 hczz_2 hczz_3 hczz_4 hfzz_0 hfzz_1 hfzz_2 hfzz_3 hfzz_4); clear ne94 ne94' ne96 ne96'; (with_reducible refine (impl_AreVessels.calls k _ _ l1_0 _ _ l1_1 false _ ?side1 ?side2 ?side3 ?side4 AV'.out).mono ?_); (case side1 => exact (SB.foot (Q := fun w => (Kd.C (Kd.int .i64) w A0_0 l0_0.length l0_0 ∧ Kd.C (Kd.int .i64) w A0_1 l0_1.length l0_1) ∧ (Kd.C (Kd.int .i64) w A1_0 l1_0.length l1_0 ∧ Kd.C (Kd.int .i64) w A1_1 l1_1.length l1_1)) HS 0).now.2.1); (case side2 => exact hc1_0); (case side3 => exact (SB.foot (Q := fun w => (Kd.C (Kd.int .i64) w A0_0 l0_0.length l0_0 ∧ Kd.C (Kd.int .i64) w A0_1 l0_1.length l0_1) ∧ (Kd.C (Kd.int .i64) w A1_0 l1_0.length l1_0 ∧ Kd.C (Kd.int .i64) w A1_1 l1_1.length l1_1)) HS 0).now.2.2); (case side4 => exact hc1_1); rintro e w6 ⟨rfl, hb⟩; replace HS := SB.call HS hb; clear hb; have hka := SB.cells (g := g3) (cells := #[.slice A0_0 l0_0.length c0_0, .slice A0_1 l0_1.length c0_1]) (t := 29) HS 1; have hcza_0 := bc0 hka; have hcza_1 := bc1 hka; have hfza_0 := blk_frozen hka.out 0; have hfza_1 := blk_frozen hka.out 1; have hkb := SB.cells (g := g4) (cells := #[.slice A1_0 l1_0.length c1_0, .slice A1_1 l1_1.length c1_1]) (t := 29) HS 2; have hczb_0 := bc0 hkb; have hczb_1 := bc1 hkb; have hfzb_0 := blk_frozen hkb.out 0; have hfzb_1 := blk_frozen hkb.out 1; have hkz := SB.cells (g := g6) (cells := #[.slice none 0 0, .map none, .slice none 0 0, .slice none 0 0, .slice none 0 0]) (t := 83) HS 3; have hczz_0 := bc0 hkz; have hczz_1 := bc1 hkz; have hczz_2 := bc2 hkz; have hczz_3 := bc3 hkz; have hczz_4 := bc4 hkz; have hfzz_0 := blk_frozen hkz.out 0; have hfzz_1 := blk_frozen hkz.out 1; have hfzz_2 := blk_frozen hkz.out 2; have hfzz_3 := blk_frozen hkz.out 3; have hfzz_4 := blk_frozen hkz.out 4))
   replace HS := (SB.set (SB.set (SB.set (SB.set (SB.set HS 3 0 (.slice none 0 0) #[.slice none 0 0, .map none, .slice none 0 0, .slice none 0 0, .slice none 0 0] G6.out) 3 1 (.map none) #[.slice none 0 0, .map none, .slice none 0 0, .slice none 0 0, .slice none 0 0] G6.out) 3 2 (.slice none 0 0) #[.slice none 0 0, .map none, .slice none 0 0, .slice none 0 0, .slice none 0 0] G6.out) 3 3 (.slice none 0 0) #[.slice none 0 0, .map none, .slice none 0 0, .slice none 0 0, .slice none 0 0] G6.out) 3 4 (.slice none 0 0) #[.slice none 0 0, .map none, .slice none 0 0, .slice none 0 0, .slice none 0 0] G6.out)
   have hk9 := SB.cells (g := g6) (cells := #[.slice none 0 0, .map none, .slice none 0 0, .slice none 0 0, .slice none 0 0]) (t := 83) HS 3
   (try simp only [Exit.inBlock, Exit.then])
   refine bodyPost_ret (Sep.results_ctt rfl _ _ g6 83 #[.slice none 0 0, .map none, .slice none 0 0, .slice none 0 0, .slice none 0 0] (0, 0) _ rfl hk9.out Try.underlying83 rfl (by kernel_rfl)) rfl ?_
   exact ⟨_, _, _, _, _, _, _, rfl, FiP.no F0 HS.b⟩
 subst c2
 rw [if_pos rfl] at H
 replace H := Option.bind_eq_some_iff.mp H
 obtain ⟨q, AE, H⟩ := H
 have AE' := Aside0.mk AE
 clear AE
 (try dsimp only at H)
 by_cases c3 : q = true
 rotate_left
 · replace c3 := Bool.eq_false_iff.mpr c3
   subst c3
   rw [if_neg (by decide)] at H
   simp only [Option.some.injEq, Prod.mk.injEq] at H
   obtain ⟨rfl, rfl, rfl, rfl, rfl, rfl, rfl⟩ := H
   go_enter Try.func68, Try.ntmps68
   go_wp2_with (first | ((with_reducible refine gate_dst (N := 3) rfl ?_); refine SB.bx HS 3 #[.slice A0_0 l0_0.length c0_0, .slice A0_1 l0_1.length c0_1] 29 ?_; clear HS; intro g3 w1 HS G3) | ((with_reducible refine gate_dst (N := 4) rfl ?_); refine SB.bx HS 4 #[.slice A1_0 l1_0.length c1_0, .slice A1_1 l1_1.length c1_1] 29 ?_; clear HS; intro g4 w2 HS G4) | ((with_reducible refine gate_dst (N := 6) rfl ?_); refine SB.bx HS 6 #[.slice none 0 0, .map none, .slice none 0 0, .slice none 0 0, .slice none 0 0] 83 ?_; clear HS; intro g6 w3 HS G6; have hka := SB.cells (g := g3) (cells := #[.slice A0_0 l0_0.length c0_0, .slice A0_1 l0_1.length c0_1]) (t := 29) HS 1; have hcza_0 := bc0 hka; have hcza_1 := bc1 hka; have hfza_0 := blk_frozen hka.out 0; have hfza_1 := blk_frozen hka.out 1) | ((with_reducible refine gate_callee (f := 64) rfl ?_); refine gl 16 Try.func64 #[.agg #[.slice A0_0 l0_0.length c0_0, .slice A0_1 l0_1.length c0_1], .bool a2, .int .i64 3000] ?_; (with_reducible refine (impl_reachOf.calls k (fun k_ => F0 k_ ∧ k_ < w.heap.size) _ _ l0_0 _ _ l0_1 a2 3000 x0 m x2 x3 x4 true _ ?side1 ?side2 ?side3 AR'.out).mono ?_); (case side1 => exact (HF.out.bound.step (fun k hk _ => HS.b.block k hk.2)).imp (fun _ h => h.1)); (case side2 => exact hc0_0); (case side3 => exact hc0_1); rintro e w4 ⟨mb, v0, v2, v3, v4, rfl, hmb, hS, hb⟩; refine ⟨_, rfl, ?_⟩; have HW := HS.le; (try clear hka hcza_0 hcza_1 hfza_0 hfza_1); replace HS := SB.merge HS hb hS (fun k hk hlt => hk.elim (fun hh => ⟨.inl hh.1, fun j c hj he => by (rcases j with _ | _ | _ | _ | j); (obtain rfl := Option.some.inj hj; cases he); (obtain rfl := Option.some.inj hj; injection he with he; have h1_ := G3.out; have h2_ := hh.2; omega); (obtain rfl := Option.some.inj hj; injection he with he; have h1_ := G4.out; have h2_ := hh.2; omega); (obtain rfl := Option.some.inj hj; injection he with he; have h1_ := G6.out; have h2_ := hh.2; omega); simp at hj⟩) (fun hh => absurd hh (Nat.not_le.2 hlt))) (reR_own hS hmb); clear hS hb; simp only [cond_true, cond_false]) | ((with_reducible refine gate_dst (N := 9) rfl ?_); refine SB.bx HS 9 #[.slice none 0 0, .map none, .slice none 0 0, .slice none 0 0, .slice none 0 0] 83 ?_; clear HS; intro g9 w5 HS G9; obtain ⟨B0, d0, rfl⟩ := Kd.N_slice (SB.nrows HS 4 (d := k29) (v := v0) (xs := x0)); obtain ⟨B2, d2, rfl⟩ := Kd.R_slice (SB.rows HS 6 (d := Kd.int .i64) (v := v2) (xs := x2)); obtain ⟨B3, d3, rfl⟩ := Kd.R_slice (SB.rows HS 7 (d := Kd.int .i64) (v := v3) (xs := x3)); obtain ⟨B4, d4, rfl⟩ := Kd.R_slice (SB.rows HS 8 (d := k49) (v := v4) (xs := x4)); have hkn := SB.cells (g := g9) (cells := #[.slice none 0 0, .map none, .slice none 0 0, .slice none 0 0, .slice none 0 0]) (t := 83) HS 9; have hczn_0 := bc0 hkn; have hczn_1 := bc1 hkn; have hczn_2 := bc2 hkn; have hczn_3 := bc3 hkn; have hczn_4 := bc4 hkn; have hfzn_0 := blk_frozen hkn.out 0; have hfzn_1 := blk_frozen hkn.out 1; have hfzn_2 := blk_frozen hkn.out 2; have hfzn_3 := blk_frozen hkn.out 3; have hfzn_4 := blk_frozen hkn.out 4; have hkb := SB.cells (g := g4) (cells := #[.slice A1_0 l1_0.length c1_0, .slice A1_1 l1_1.length c1_1]) (t := 29) HS 2; have hczb_0 := bc0 hkb; have hczb_1 := bc1 hkb; have hfzb_0 := blk_frozen hkb.out 0; have hfzb_1 := blk_frozen hkb.out 1; have hkz := SB.cells (g := g6) (cells := #[.slice none 0 0, .map none, .slice none 0 0, .slice none 0 0, .slice none 0 0]) (t := 83) HS 3; have hczz_0 := bc0 hkz; have hczz_1 := bc1 hkz; have hczz_2 := bc2 hkz; have hczz_3 := bc3 hkz; have hczz_4 := bc4 hkz; have hfzz_0 := blk_frozen hkz.out 0; have hfzz_1 := blk_frozen hkz.out 1; have hfzz_2 := blk_frozen hkz.out 2; have hfzz_3 := blk_frozen hkz.out 3; have hfzz_4 := blk_frozen hkz.out 4; have ne94 : g9 ≠ g4 := fun e => SB.ne HS 9 2 (g := g9) (c := blk g9 #[.slice none 0 0, .map none, .slice none 0 0, .slice none 0 0, .slice none 0 0] 83) (d := blk g4 #[.slice A1_0 l1_0.length c1_0, .slice A1_1 l1_1.length c1_1] 29) (by decide) (fun ok h => h.2) (by rw [e]; rfl); have ne94' := ne94.symm; have ne96 : g9 ≠ g6 := fun e => SB.ne HS 9 3 (g := g9) (c := blk g9 #[.slice none 0 0, .map none, .slice none 0 0, .slice none 0 0, .slice none 0 0] 83) (d := blk g6 #[.slice none 0 0, .map none, .slice none 0 0, .slice none 0 0, .slice none 0 0] 83) (by decide) (fun ok h => h.2) (by rw [e]; rfl); have ne96' := ne96.symm) | (go_at_call 46; replace HS := (SB.set (SB.set (SB.set (SB.set (SB.set HS 9 0 (.slice B0 x0.length d0) #[.slice B0 x0.length d0, .map none, .slice none 0 0, .slice none 0 0, .slice none 0 0] G9.out) 9 1 (.map (some mb)) #[.slice B0 x0.length d0, .map (some mb), .slice none 0 0, .slice none 0 0, .slice none 0 0] G9.out) 9 2 (.slice B2 x2.length d2) #[.slice B0 x0.length d0, .map (some mb), .slice B2 x2.length d2, .slice none 0 0, .slice none 0 0] G9.out) 9 3 (.slice B3 x3.length d3) #[.slice B0 x0.length d0, .map (some mb), .slice B2 x2.length d2, .slice B3 x3.length d3, .slice none 0 0] G9.out) 9 4 (.slice B4 x4.length d4) #[.slice B0 x0.length d0, .map (some mb), .slice B2 x2.length d2, .slice B3 x3.length d3, .slice B4 x4.length d4] G9.out); (try clear hkn hczn_0 hczn_1 hczn_2 hczn_3 hczn_4 hfzn_0 hfzn_1 hfzn_2 hfzn_3 hfzn_4); (try clear hkb hczb_0 hczb_1 hfzb_0 hfzb_1); (try clear hkz hczz_0 hczz_1 hczz_2 hczz_3 hczz_4 hfzz_0 hfzz_1 hfzz_2 hfzz_3 hfzz_4); clear ne94 ne94' ne96 ne96'; (with_reducible refine (impl_AreVessels.calls k _ _ l1_0 _ _ l1_1 true _ ?side1 ?side2 ?side3 ?side4 AV'.out).mono ?_); (case side1 => exact (SB.foot (Q := fun w => (Kd.C (Kd.int .i64) w A0_0 l0_0.length l0_0 ∧ Kd.C (Kd.int .i64) w A0_1 l0_1.length l0_1) ∧ (Kd.C (Kd.int .i64) w A1_0 l1_0.length l1_0 ∧ Kd.C (Kd.int .i64) w A1_1 l1_1.length l1_1)) HS 0).now.2.1); (case side2 => exact hc1_0); (case side3 => exact (SB.foot (Q := fun w => (Kd.C (Kd.int .i64) w A0_0 l0_0.length l0_0 ∧ Kd.C (Kd.int .i64) w A0_1 l0_1.length l0_1) ∧ (Kd.C (Kd.int .i64) w A1_0 l1_0.length l1_0 ∧ Kd.C (Kd.int .i64) w A1_1 l1_1.length l1_1)) HS 0).now.2.2); (case side4 => exact hc1_1); rintro e w6 ⟨rfl, hb⟩; replace HS := SB.call HS hb; clear hb; have hka := SB.cells (g := g3) (cells := #[.slice A0_0 l0_0.length c0_0, .slice A0_1 l0_1.length c0_1]) (t := 29) HS 1; have hcza_0 := bc0 hka; have hcza_1 := bc1 hka; have hfza_0 := blk_frozen hka.out 0; have hfza_1 := blk_frozen hka.out 1; have hkb := SB.cells (g := g4) (cells := #[.slice A1_0 l1_0.length c1_0, .slice A1_1 l1_1.length c1_1]) (t := 29) HS 2; have hczb_0 := bc0 hkb; have hczb_1 := bc1 hkb; have hfzb_0 := blk_frozen hkb.out 0; have hfzb_1 := blk_frozen hkb.out 1; have hkz := SB.cells (g := g6) (cells := #[.slice none 0 0, .map none, .slice none 0 0, .slice none 0 0, .slice none 0 0]) (t := 83) HS 3; have hczz_0 := bc0 hkz; have hczz_1 := bc1 hkz; have hczz_2 := bc2 hkz; have hczz_3 := bc3 hkz; have hczz_4 := bc4 hkz; have hfzz_0 := blk_frozen hkz.out 0; have hfzz_1 := blk_frozen hkz.out 1; have hfzz_2 := blk_frozen hkz.out 2; have hfzz_3 := blk_frozen hkz.out 3; have hfzz_4 := blk_frozen hkz.out 4) | (go_at_call 62; (try clear hka hcza_0 hcza_1 hfza_0 hfza_1); (try clear hkb hczb_0 hczb_1 hfzb_0 hfzb_1); (try clear hkz hczz_0 hczz_1 hczz_2 hczz_3 hczz_4 hfzz_0 hfzz_1 hfzz_2 hfzz_3 hfzz_4); (with_reducible refine (slices_Equal_int_int.calls k _ _ l0_0 _ _ l1_0 false _ ?side1 ?side2 ?side3 ?side4 AE'.out).mono ?_); (case side1 => exact (SB.foot (Q := fun w => (Kd.C (Kd.int .i64) w A0_0 l0_0.length l0_0 ∧ Kd.C (Kd.int .i64) w A0_1 l0_1.length l0_1) ∧ (Kd.C (Kd.int .i64) w A1_0 l1_0.length l1_0 ∧ Kd.C (Kd.int .i64) w A1_1 l1_1.length l1_1)) HS 0).now.1.1); (case side2 => exact hc0_0); (case side3 => exact (SB.foot (Q := fun w => (Kd.C (Kd.int .i64) w A0_0 l0_0.length l0_0 ∧ Kd.C (Kd.int .i64) w A0_1 l0_1.length l0_1) ∧ (Kd.C (Kd.int .i64) w A1_0 l1_0.length l1_0 ∧ Kd.C (Kd.int .i64) w A1_1 l1_1.length l1_1)) HS 0).now.2.1); (case side4 => exact hc1_0); rintro e w7 ⟨rfl, hb⟩; (try replace hb := Drawn0.below hb); replace HS := SB.call HS hb; clear hb; have hkz := SB.cells (g := g6) (cells := #[.slice none 0 0, .map none, .slice none 0 0, .slice none 0 0, .slice none 0 0]) (t := 83) HS 3; have hczz_0 := bc0 hkz; have hczz_1 := bc1 hkz; have hczz_2 := bc2 hkz; have hczz_3 := bc3 hkz; have hczz_4 := bc4 hkz; have hfzz_0 := blk_frozen hkz.out 0; have hfzz_1 := blk_frozen hkz.out 1; have hfzz_2 := blk_frozen hkz.out 2; have hfzz_3 := blk_frozen hkz.out 3; have hfzz_4 := blk_frozen hkz.out 4))
   replace HS := (SB.set (SB.set (SB.set (SB.set (SB.set HS 3 0 (.slice none 0 0) #[.slice none 0 0, .map none, .slice none 0 0, .slice none 0 0, .slice none 0 0] G6.out) 3 1 (.map none) #[.slice none 0 0, .map none, .slice none 0 0, .slice none 0 0, .slice none 0 0] G6.out) 3 2 (.slice none 0 0) #[.slice none 0 0, .map none, .slice none 0 0, .slice none 0 0, .slice none 0 0] G6.out) 3 3 (.slice none 0 0) #[.slice none 0 0, .map none, .slice none 0 0, .slice none 0 0, .slice none 0 0] G6.out) 3 4 (.slice none 0 0) #[.slice none 0 0, .map none, .slice none 0 0, .slice none 0 0, .slice none 0 0] G6.out)
   have hk9 := SB.cells (g := g6) (cells := #[.slice none 0 0, .map none, .slice none 0 0, .slice none 0 0, .slice none 0 0]) (t := 83) HS 3
   (try simp only [Exit.inBlock, Exit.then])
   refine bodyPost_ret (Sep.results_ctt rfl _ _ g6 83 #[.slice none 0 0, .map none, .slice none 0 0, .slice none 0 0, .slice none 0 0] (0, 0) _ rfl hk9.out Try.underlying83 rfl (by kernel_rfl)) rfl ?_
   exact ⟨_, _, _, _, _, _, _, rfl, FiP.no F0 HS.b⟩
 subst c3
 rw [if_pos rfl] at H
 by_cases cw : Gv.wf5 (Gv.key5 l1_1) = true
 rotate_left
 · rw [if_neg cw] at H
   exact absurd H (by simp)
 rw [if_pos cw] at H
 have cw' := Aside0.mk cw
 clear cw
 have H' := Aside0.mk H
 clear H
 go_enter Try.func68, Try.ntmps68
 go_wp2_with (first | ((with_reducible refine gate_dst (N := 3) rfl ?_); refine SB.bx HS 3 #[.slice A0_0 l0_0.length c0_0, .slice A0_1 l0_1.length c0_1] 29 ?_; clear HS; intro g3 w1 HS G3) | ((with_reducible refine gate_dst (N := 4) rfl ?_); refine SB.bx HS 4 #[.slice A1_0 l1_0.length c1_0, .slice A1_1 l1_1.length c1_1] 29 ?_; clear HS; intro g4 w2 HS G4) | ((with_reducible refine gate_dst (N := 6) rfl ?_); refine SB.bx HS 6 #[.slice none 0 0, .map none, .slice none 0 0, .slice none 0 0, .slice none 0 0] 83 ?_; clear HS; intro g6 w3 HS G6; have hka := SB.cells (g := g3) (cells := #[.slice A0_0 l0_0.length c0_0, .slice A0_1 l0_1.length c0_1]) (t := 29) HS 1; have hcza_0 := bc0 hka; have hcza_1 := bc1 hka; have hfza_0 := blk_frozen hka.out 0; have hfza_1 := blk_frozen hka.out 1) | ((with_reducible refine gate_callee (f := 64) rfl ?_); refine gl 16 Try.func64 #[.agg #[.slice A0_0 l0_0.length c0_0, .slice A0_1 l0_1.length c0_1], .bool a2, .int .i64 3000] ?_; (with_reducible refine (impl_reachOf.calls k (fun k_ => F0 k_ ∧ k_ < w.heap.size) _ _ l0_0 _ _ l0_1 a2 3000 x0 m x2 x3 x4 true _ ?side1 ?side2 ?side3 AR'.out).mono ?_); (case side1 => exact (HF.out.bound.step (fun k hk _ => HS.b.block k hk.2)).imp (fun _ h => h.1)); (case side2 => exact hc0_0); (case side3 => exact hc0_1); rintro e w4 ⟨mb, v0, v2, v3, v4, rfl, hmb, hS, hb⟩; refine ⟨_, rfl, ?_⟩; have HW := HS.le; (try clear hka hcza_0 hcza_1 hfza_0 hfza_1); replace HS := SB.merge HS hb hS (fun k hk hlt => hk.elim (fun hh => ⟨.inl hh.1, fun j c hj he => by (rcases j with _ | _ | _ | _ | j); (obtain rfl := Option.some.inj hj; cases he); (obtain rfl := Option.some.inj hj; injection he with he; have h1_ := G3.out; have h2_ := hh.2; omega); (obtain rfl := Option.some.inj hj; injection he with he; have h1_ := G4.out; have h2_ := hh.2; omega); (obtain rfl := Option.some.inj hj; injection he with he; have h1_ := G6.out; have h2_ := hh.2; omega); simp at hj⟩) (fun hh => absurd hh (Nat.not_le.2 hlt))) (reR_own hS hmb); clear hS hb; simp only [cond_true, cond_false]) | ((with_reducible refine gate_dst (N := 9) rfl ?_); refine SB.bx HS 9 #[.slice none 0 0, .map none, .slice none 0 0, .slice none 0 0, .slice none 0 0] 83 ?_; clear HS; intro g9 w5 HS G9; obtain ⟨B0, d0, rfl⟩ := Kd.N_slice (SB.nrows HS 4 (d := k29) (v := v0) (xs := x0)); obtain ⟨B2, d2, rfl⟩ := Kd.R_slice (SB.rows HS 6 (d := Kd.int .i64) (v := v2) (xs := x2)); obtain ⟨B3, d3, rfl⟩ := Kd.R_slice (SB.rows HS 7 (d := Kd.int .i64) (v := v3) (xs := x3)); obtain ⟨B4, d4, rfl⟩ := Kd.R_slice (SB.rows HS 8 (d := k49) (v := v4) (xs := x4)); have hkn := SB.cells (g := g9) (cells := #[.slice none 0 0, .map none, .slice none 0 0, .slice none 0 0, .slice none 0 0]) (t := 83) HS 9; have hczn_0 := bc0 hkn; have hczn_1 := bc1 hkn; have hczn_2 := bc2 hkn; have hczn_3 := bc3 hkn; have hczn_4 := bc4 hkn; have hfzn_0 := blk_frozen hkn.out 0; have hfzn_1 := blk_frozen hkn.out 1; have hfzn_2 := blk_frozen hkn.out 2; have hfzn_3 := blk_frozen hkn.out 3; have hfzn_4 := blk_frozen hkn.out 4; have hkb := SB.cells (g := g4) (cells := #[.slice A1_0 l1_0.length c1_0, .slice A1_1 l1_1.length c1_1]) (t := 29) HS 2; have hczb_0 := bc0 hkb; have hczb_1 := bc1 hkb; have hfzb_0 := blk_frozen hkb.out 0; have hfzb_1 := blk_frozen hkb.out 1; have hkz := SB.cells (g := g6) (cells := #[.slice none 0 0, .map none, .slice none 0 0, .slice none 0 0, .slice none 0 0]) (t := 83) HS 3; have hczz_0 := bc0 hkz; have hczz_1 := bc1 hkz; have hczz_2 := bc2 hkz; have hczz_3 := bc3 hkz; have hczz_4 := bc4 hkz; have hfzz_0 := blk_frozen hkz.out 0; have hfzz_1 := blk_frozen hkz.out 1; have hfzz_2 := blk_frozen hkz.out 2; have hfzz_3 := blk_frozen hkz.out 3; have hfzz_4 := blk_frozen hkz.out 4; have ne94 : g9 ≠ g4 := fun e => SB.ne HS 9 2 (g := g9) (c := blk g9 #[.slice none 0 0, .map none, .slice none 0 0, .slice none 0 0, .slice none 0 0] 83) (d := blk g4 #[.slice A1_0 l1_0.length c1_0, .slice A1_1 l1_1.length c1_1] 29) (by decide) (fun ok h => h.2) (by rw [e]; rfl); have ne94' := ne94.symm; have ne96 : g9 ≠ g6 := fun e => SB.ne HS 9 3 (g := g9) (c := blk g9 #[.slice none 0 0, .map none, .slice none 0 0, .slice none 0 0, .slice none 0 0] 83) (d := blk g6 #[.slice none 0 0, .map none, .slice none 0 0, .slice none 0 0, .slice none 0 0] 83) (by decide) (fun ok h => h.2) (by rw [e]; rfl); have ne96' := ne96.symm) | (go_at_call 46; replace HS := (SB.set (SB.set (SB.set (SB.set (SB.set HS 9 0 (.slice B0 x0.length d0) #[.slice B0 x0.length d0, .map none, .slice none 0 0, .slice none 0 0, .slice none 0 0] G9.out) 9 1 (.map (some mb)) #[.slice B0 x0.length d0, .map (some mb), .slice none 0 0, .slice none 0 0, .slice none 0 0] G9.out) 9 2 (.slice B2 x2.length d2) #[.slice B0 x0.length d0, .map (some mb), .slice B2 x2.length d2, .slice none 0 0, .slice none 0 0] G9.out) 9 3 (.slice B3 x3.length d3) #[.slice B0 x0.length d0, .map (some mb), .slice B2 x2.length d2, .slice B3 x3.length d3, .slice none 0 0] G9.out) 9 4 (.slice B4 x4.length d4) #[.slice B0 x0.length d0, .map (some mb), .slice B2 x2.length d2, .slice B3 x3.length d3, .slice B4 x4.length d4] G9.out); (try clear hkn hczn_0 hczn_1 hczn_2 hczn_3 hczn_4 hfzn_0 hfzn_1 hfzn_2 hfzn_3 hfzn_4); (try clear hkb hczb_0 hczb_1 hfzb_0 hfzb_1); (try clear hkz hczz_0 hczz_1 hczz_2 hczz_3 hczz_4 hfzz_0 hfzz_1 hfzz_2 hfzz_3 hfzz_4); clear ne94 ne94' ne96 ne96'; (with_reducible refine (impl_AreVessels.calls k _ _ l1_0 _ _ l1_1 true _ ?side1 ?side2 ?side3 ?side4 AV'.out).mono ?_); (case side1 => exact (SB.foot (Q := fun w => (Kd.C (Kd.int .i64) w A0_0 l0_0.length l0_0 ∧ Kd.C (Kd.int .i64) w A0_1 l0_1.length l0_1) ∧ (Kd.C (Kd.int .i64) w A1_0 l1_0.length l1_0 ∧ Kd.C (Kd.int .i64) w A1_1 l1_1.length l1_1)) HS 0).now.2.1); (case side2 => exact hc1_0); (case side3 => exact (SB.foot (Q := fun w => (Kd.C (Kd.int .i64) w A0_0 l0_0.length l0_0 ∧ Kd.C (Kd.int .i64) w A0_1 l0_1.length l0_1) ∧ (Kd.C (Kd.int .i64) w A1_0 l1_0.length l1_0 ∧ Kd.C (Kd.int .i64) w A1_1 l1_1.length l1_1)) HS 0).now.2.2); (case side4 => exact hc1_1); rintro e w6 ⟨rfl, hb⟩; replace HS := SB.call HS hb; clear hb; have hka := SB.cells (g := g3) (cells := #[.slice A0_0 l0_0.length c0_0, .slice A0_1 l0_1.length c0_1]) (t := 29) HS 1; have hcza_0 := bc0 hka; have hcza_1 := bc1 hka; have hfza_0 := blk_frozen hka.out 0; have hfza_1 := blk_frozen hka.out 1; have hkb := SB.cells (g := g4) (cells := #[.slice A1_0 l1_0.length c1_0, .slice A1_1 l1_1.length c1_1]) (t := 29) HS 2; have hczb_0 := bc0 hkb; have hczb_1 := bc1 hkb; have hfzb_0 := blk_frozen hkb.out 0; have hfzb_1 := blk_frozen hkb.out 1; have hkz := SB.cells (g := g6) (cells := #[.slice none 0 0, .map none, .slice none 0 0, .slice none 0 0, .slice none 0 0]) (t := 83) HS 3; have hczz_0 := bc0 hkz; have hczz_1 := bc1 hkz; have hczz_2 := bc2 hkz; have hczz_3 := bc3 hkz; have hczz_4 := bc4 hkz; have hfzz_0 := blk_frozen hkz.out 0; have hfzz_1 := blk_frozen hkz.out 1; have hfzz_2 := blk_frozen hkz.out 2; have hfzz_3 := blk_frozen hkz.out 3; have hfzz_4 := blk_frozen hkz.out 4) | (go_at_call 62; (try clear hka hcza_0 hcza_1 hfza_0 hfza_1); (try clear hkb hczb_0 hczb_1 hfzb_0 hfzb_1); (try clear hkz hczz_0 hczz_1 hczz_2 hczz_3 hczz_4 hfzz_0 hfzz_1 hfzz_2 hfzz_3 hfzz_4); (with_reducible refine (slices_Equal_int_int.calls k _ _ l0_0 _ _ l1_0 true _ ?side1 ?side2 ?side3 ?side4 AE'.out).mono ?_); (case side1 => exact (SB.foot (Q := fun w => (Kd.C (Kd.int .i64) w A0_0 l0_0.length l0_0 ∧ Kd.C (Kd.int .i64) w A0_1 l0_1.length l0_1) ∧ (Kd.C (Kd.int .i64) w A1_0 l1_0.length l1_0 ∧ Kd.C (Kd.int .i64) w A1_1 l1_1.length l1_1)) HS 0).now.1.1); (case side2 => exact hc0_0); (case side3 => exact (SB.foot (Q := fun w => (Kd.C (Kd.int .i64) w A0_0 l0_0.length l0_0 ∧ Kd.C (Kd.int .i64) w A0_1 l0_1.length l0_1) ∧ (Kd.C (Kd.int .i64) w A1_0 l1_0.length l1_0 ∧ Kd.C (Kd.int .i64) w A1_1 l1_1.length l1_1)) HS 0).now.2.1); (case side4 => exact hc1_0); rintro e w7 ⟨rfl, hb⟩; (try replace hb := Drawn0.below hb); replace HS := SB.call HS hb; clear hb; have hkz := SB.cells (g := g6) (cells := #[.slice none 0 0, .map none, .slice none 0 0, .slice none 0 0, .slice none 0 0]) (t := 83) HS 3; have hczz_0 := bc0 hkz; have hczz_1 := bc1 hkz; have hczz_2 := bc2 hkz; have hczz_3 := bc3 hkz; have hczz_4 := bc4 hkz; have hfzz_0 := blk_frozen hkz.out 0; have hfzz_1 := blk_frozen hkz.out 1; have hfzz_2 := blk_frozen hkz.out 2; have hfzz_3 := blk_frozen hkz.out 3; have hfzz_4 := blk_frozen hkz.out 4))
 (try clear hkz hczz_0 hczz_1 hczz_2 hczz_3 hczz_4 hfzz_0 hfzz_1 hfzz_2 hfzz_3 hfzz_4)
 replace HS := SB.up (W := w7.drew) HS
 have HS : SB (fun k => F0 k ∨ w.heap.size ≤ k) w w7.drew [rd (fun w => (Kd.C (Kd.int .i64) w A0_0 l0_0.length l0_0 ∧ Kd.C (Kd.int .i64) w A0_1 l0_1.length l0_1) ∧ (Kd.C (Kd.int .i64) w A1_0 l1_0.length l1_0 ∧ Kd.C (Kd.int .i64) w A1_1 l1_1.length l1_1)), blk g3 #[.slice A0_0 l0_0.length c0_0, .slice A0_1 l0_1.length c0_1] 29, blk g4 #[.slice A1_0 l1_0.length c1_0, .slice A1_1 l1_1.length c1_1] 29, blk g6 #[.slice none 0 0, .map none, .slice none 0 0, .slice none 0 0, .slice none 0 0] 83, nrow k29 29 w3.heap.size (.slice B0 x0.length d0) x0, mp Gv.ev5 92 3 mb m, row (Kd.int .i64) 3 w3.heap.size (.slice B2 x2.length d2) x2, row (Kd.int .i64) 3 w3.heap.size (.slice B3 x3.length d3) x3, row k49 49 w3.heap.size (.slice B4 x4.length d4) x4, blk g9 #[.slice B0 x0.length d0, .map (some mb), .slice B2 x2.length d2, .slice B3 x3.length d3, .slice B4 x4.length d4] 83] := HS
 have hk5 := SB.cells (g := g9) (cells := #[.slice B0 x0.length d0, .map (some mb), .slice B2 x2.length d2, .slice B3 x3.length d3, .slice B4 x4.length d4]) (t := 83) HS 9
 have hk6 := SB.cells (g := g4) (cells := #[.slice A1_0 l1_0.length c1_0, .slice A1_1 l1_1.length c1_1]) (t := 29) HS 2
 refine start_ (n := 10) (S := fun w' => w'.cell? ⟨g9, 1, none⟩ = some (.map (some mb)) ∧ w'.cell? ⟨g4, 0, none⟩ = some (.slice A1_0 l1_0.length c1_0) ∧ w'.cell? ⟨g4, 1, none⟩ = some (.slice A1_1 l1_1.length c1_1)) (ds := []) (bl 10 0) (by kernel_rfl) rfl rfl ⟨bc1 hk5, bc0 hk6, bc1 hk6⟩ (fun hHeld => ?_)
 refine with_tabW impl_find.tab4 impl_find.bits4 (fun HT_ HW_ => ?_)
 clear hk5 hk6
 generalize w7.drew = w8 at HS hHeld ⊢
 refine pu 0 36 (bl 10 1) HT_.out (v := ?_) (a' := ?_) ?_ ?_ ?_
 rotate_left; (intro w'; go_simp; with_reducible rfl); rotate_left; (simp only [sqa, sqb, sqc, sqd, i64_w, i32_w]; rfl)
 refine tk 1 37 (bl 10 3) HT_.out HW_.out hHeld (v := ?_) (a' := ?_) ?_ ?_ ?_
 rotate_left; (rintro w' ⟨s0, s1, s2⟩; go_simp; with_reducible rfl); rotate_left; (simp only [sqa, sqb, sqc, sqd, i64_w, i32_w]; rfl)
 refine tk 2 38 (bl 10 7) HT_.out HW_.out hHeld (v := ?_) (a' := ?_) ?_ ?_ ?_
 rotate_left; (rintro w' ⟨s0, s1, s2⟩; go_simp; with_reducible rfl); rotate_left; (simp only [sqa, sqb, sqc, sqd, i64_w, i32_w]; rfl)
 refine on 3 39 (bl 10 15) HT_.out (fun K hK => ?_)
 refine gs Try.func69 #[.agg #[.slice A1_0 l1_0.length c1_0, .slice A1_1 l1_1.length c1_1]] ?_
 refine (impl_keyOf.calls A1_0 c1_0 l1_0 A1_1 c1_1 l1_1 _ (SB.foot (Q := fun w => (Kd.C (Kd.int .i64) w A0_0 l0_0.length l0_0 ∧ Kd.C (Kd.int .i64) w A0_1 l0_1.length l0_1) ∧ (Kd.C (Kd.int .i64) w A1_0 l1_0.length l1_0 ∧ Kd.C (Kd.int .i64) w A1_1 l1_1.length l1_1)) HS 0).now.2.2).mono ?_
 rintro e w9 ⟨rfl, hb⟩
 refine ⟨_, rfl, ?_⟩
 replace HS := SB.call HS hb
 refine hK.out _ _ ⟨cb hHeld.1 hb, cb hHeld.2.1 hb, cb hHeld.2.2 hb⟩ (fun hHeld => ?_)
 clear hK K hb
 refine norm_ (a' := ?_) ?_ ?_; rotate_left; (show Act.put _ (some 39) _ = _; simp only [sqa, sqb, sqc, sqd, i64_w, i32_w]; rfl)
 refine on 4 40 (bl 10 31) HT_.out (fun K hK => ?_)
 refine SB.lookup_step HS 5 (.tmp 37) (.tmp 39) 81 mb m (Gv.key5 l1_1) _ Gv.keyed5 Try.underlying81 Try.underlying3 Gv.zeroInt' rfl rfl (Gv.key5_lit (Gv.key5 l1_1) cw'.out).choose_spec ?_
 refine hK.out _ _ hHeld (fun hHeld => ?_)
 clear hK K
 have H := H'.out
 clear H'
 generalize (Gv.lk m (Gv.key5 l1_1)).getD 0 = qd at H ⊢
 generalize (Gv.lk m (Gv.key5 l1_1)).isSome = fb at H ⊢
 refine norm_ (a' := ?_) ?_ ?_; rotate_left; (show Act.put _ (some 40) _ = _; simp only [sqa, sqb, sqc, sqd, i64_w, i32_w]; rfl)
 refine pu 5 35 (bl 10 63) HT_.out (v := ?_) (a' := ?_) ?_ ?_ ?_
 rotate_left; (intro w'; go_simp; with_reducible rfl); rotate_left; (simp only [sqa, sqb, sqc, sqd, i64_w, i32_w]; rfl)
 refine pu 6 41 (bl 10 127) HT_.out (v := ?_) (a' := ?_) ?_ ?_ ?_
 rotate_left; (intro w'; go_simp; with_reducible rfl); rotate_left; (simp only [sqa, sqb, sqc, sqd, i64_w, i32_w]; rfl)
 refine pu 7 42 (bl 10 255) HT_.out (v := ?_) (a' := ?_) ?_ ?_ ?_
 rotate_left; (intro w'; go_simp; with_reducible rfl); rotate_left; (simp only [sqa, sqb, sqc, sqd, i64_w, i32_w]; rfl)
 refine pu 8 11 (bl 10 511) HT_.out (v := ?_) (a' := ?_) ?_ ?_ ?_
 rotate_left; (intro w'; go_simp; with_reducible rfl); rotate_left; (simp only [sqa, sqb, sqc, sqd, i64_w, i32_w]; rfl)
 refine pu 9 12 (bl 10 1023) HT_.out (v := ?_) (a' := ?_) ?_ ?_ ?_
 rotate_left; (intro w'; go_simp; with_reducible rfl); rotate_left; (simp only [sqa, sqb, sqc, sqd, i64_w, i32_w]; rfl)
 refine done_ (done_of HT_.out (by kernel_rfl)) ?_
 clear HT_ HW_ hHeld
 cases fb with
 | true =>
  rw [if_pos rfl] at H
  simp only [Option.some.injEq, Prod.mk.injEq] at H
  obtain ⟨rfl, rfl, rfl, rfl, rfl, rfl, rfl⟩ := H
  have hky := SB.cells (g := g9) (cells := #[.slice B0 x0.length d0, .map (some mb), .slice B2 x2.length d2, .slice B3 x3.length d3, .slice B4 x4.length d4]) (t := 83) HS 9
  have hczy_0 := bc0 hky
  have hczy_1 := bc1 hky
  have hczy_2 := bc2 hky
  have hczy_3 := bc3 hky
  have hczy_4 := bc4 hky
  have hfzy_0 := blk_frozen hky.out 0
  have hfzy_1 := blk_frozen hky.out 1
  have hfzy_2 := blk_frozen hky.out 2
  have hfzy_3 := blk_frozen hky.out 3
  have hfzy_4 := blk_frozen hky.out 4
  have hkz := SB.cells (g := g6) (cells := #[.slice none 0 0, .map none, .slice none 0 0, .slice none 0 0, .slice none 0 0]) (t := 83) HS 3
  have hczz_0 := bc0 hkz
  have hczz_1 := bc1 hkz
  have hczz_2 := bc2 hkz
  have hczz_3 := bc3 hkz
  have hczz_4 := bc4 hkz
  have hfzz_0 := blk_frozen hkz.out 0
  have hfzz_1 := blk_frozen hkz.out 1
  have hfzz_2 := blk_frozen hkz.out 2
  have hfzz_3 := blk_frozen hkz.out 3
  have hfzz_4 := blk_frozen hkz.out 4
  have ne96 : g9 ≠ g6 := fun e => SB.ne HS 9 3 (g := g9) (c := blk g9 #[.slice B0 x0.length d0, .map (some mb), .slice B2 x2.length d2, .slice B3 x3.length d3, .slice B4 x4.length d4] 83) (d := blk g6 #[.slice none 0 0, .map none, .slice none 0 0, .slice none 0 0, .slice none 0 0] 83) (by decide) (fun ok h => h.2) (by rw [e]; rfl)
  have ne96' := ne96.symm
  go_wp2
  replace HS := (SB.set (SB.set (SB.set (SB.set (SB.set HS 3 0 (.slice B0 x0.length d0) #[.slice B0 x0.length d0, .map none, .slice none 0 0, .slice none 0 0, .slice none 0 0] G6.out) 3 1 (.map (some mb)) #[.slice B0 x0.length d0, .map (some mb), .slice none 0 0, .slice none 0 0, .slice none 0 0] G6.out) 3 2 (.slice B2 x2.length d2) #[.slice B0 x0.length d0, .map (some mb), .slice B2 x2.length d2, .slice none 0 0, .slice none 0 0] G6.out) 3 3 (.slice B3 x3.length d3) #[.slice B0 x0.length d0, .map (some mb), .slice B2 x2.length d2, .slice B3 x3.length d3, .slice none 0 0] G6.out) 3 4 (.slice B4 x4.length d4) #[.slice B0 x0.length d0, .map (some mb), .slice B2 x2.length d2, .slice B3 x3.length d3, .slice B4 x4.length d4] G6.out)
  have hk9 := SB.cells (g := g6) (cells := #[.slice B0 x0.length d0, .map (some mb), .slice B2 x2.length d2, .slice B3 x3.length d3, .slice B4 x4.length d4]) (t := 83) HS 3
  (try simp only [Exit.inBlock, Exit.then])
  refine bodyPost_ret (Sep.results_ctt rfl _ _ g6 83 #[.slice B0 x0.length d0, .map (some mb), .slice B2 x2.length d2, .slice B3 x3.length d3, .slice B4 x4.length d4] (0, 0) _ rfl hk9.out Try.underlying83 rfl (by kernel_rfl)) rfl ?_
  obtain ⟨O, hO⟩ := FiP.of (F0 := F0) HW hmb (SB.take (SB.drop HS 4) 5).s HS.b
  exact ⟨_, O, _, _, _, _, _, rfl, hO⟩
 | false =>
  rw [if_neg (by decide)] at H
  simp only [Option.some.injEq, Prod.mk.injEq] at H
  obtain ⟨rfl, rfl, rfl, rfl, rfl, rfl, rfl⟩ := H
  have hky := SB.cells (g := g9) (cells := #[.slice B0 x0.length d0, .map (some mb), .slice B2 x2.length d2, .slice B3 x3.length d3, .slice B4 x4.length d4]) (t := 83) HS 9
  have hczy_0 := bc0 hky
  have hczy_1 := bc1 hky
  have hczy_2 := bc2 hky
  have hczy_3 := bc3 hky
  have hczy_4 := bc4 hky
  have hfzy_0 := blk_frozen hky.out 0
  have hfzy_1 := blk_frozen hky.out 1
  have hfzy_2 := blk_frozen hky.out 2
  have hfzy_3 := blk_frozen hky.out 3
  have hfzy_4 := blk_frozen hky.out 4
  have hkz := SB.cells (g := g6) (cells := #[.slice none 0 0, .map none, .slice none 0 0, .slice none 0 0, .slice none 0 0]) (t := 83) HS 3
  have hczz_0 := bc0 hkz
  have hczz_1 := bc1 hkz
  have hczz_2 := bc2 hkz
  have hczz_3 := bc3 hkz
  have hczz_4 := bc4 hkz
  have hfzz_0 := blk_frozen hkz.out 0
  have hfzz_1 := blk_frozen hkz.out 1
  have hfzz_2 := blk_frozen hkz.out 2
  have hfzz_3 := blk_frozen hkz.out 3
  have hfzz_4 := blk_frozen hkz.out 4
  have ne96 : g9 ≠ g6 := fun e => SB.ne HS 9 3 (g := g9) (c := blk g9 #[.slice B0 x0.length d0, .map (some mb), .slice B2 x2.length d2, .slice B3 x3.length d3, .slice B4 x4.length d4] 83) (d := blk g6 #[.slice none 0 0, .map none, .slice none 0 0, .slice none 0 0, .slice none 0 0] 83) (by decide) (fun ok h => h.2) (by rw [e]; rfl)
  have ne96' := ne96.symm
  go_wp2
  replace HS := (SB.set (SB.set (SB.set (SB.set (SB.set HS 3 0 (.slice B0 x0.length d0) #[.slice B0 x0.length d0, .map none, .slice none 0 0, .slice none 0 0, .slice none 0 0] G6.out) 3 1 (.map (some mb)) #[.slice B0 x0.length d0, .map (some mb), .slice none 0 0, .slice none 0 0, .slice none 0 0] G6.out) 3 2 (.slice B2 x2.length d2) #[.slice B0 x0.length d0, .map (some mb), .slice B2 x2.length d2, .slice none 0 0, .slice none 0 0] G6.out) 3 3 (.slice B3 x3.length d3) #[.slice B0 x0.length d0, .map (some mb), .slice B2 x2.length d2, .slice B3 x3.length d3, .slice none 0 0] G6.out) 3 4 (.slice B4 x4.length d4) #[.slice B0 x0.length d0, .map (some mb), .slice B2 x2.length d2, .slice B3 x3.length d3, .slice B4 x4.length d4] G6.out)
  have hk9 := SB.cells (g := g6) (cells := #[.slice B0 x0.length d0, .map (some mb), .slice B2 x2.length d2, .slice B3 x3.length d3, .slice B4 x4.length d4]) (t := 83) HS 3
  (try simp only [Exit.inBlock, Exit.then])
  refine bodyPost_ret (Sep.results_ctt rfl _ _ g6 83 #[.slice B0 x0.length d0, .map (some mb), .slice B2 x2.length d2, .slice B3 x3.length d3, .slice B4 x4.length d4] (0, 0) _ rfl hk9.out Try.underlying83 rfl (by kernel_rfl)) rfl ?_
  obtain ⟨O, hO⟩ := FiP.of (F0 := F0) HW hmb (SB.take (SB.drop HS 4) 5).s HS.b
  exact ⟨_, O, _, _, _, _, _, rfl, hO⟩
theorem find_ok {k : Nat} {l0_0 l0_1 l1_0 l1_1 : List Int} {a2 : Bool} {r1 : List S29} {r2 : List (Gv.K5 × Int)} {r3 r4 : List Int} {r5 : List S49} {r6 : Int} {r7 : Bool} (h : impl_find.f k l0_0 l0_1 l1_0 l1_1 a2 = some (r1, r2, r3, r4, r5, r6, r7)) (h0 : 0 ≤ r6) : r7 = true := by
 unfold impl_find.f at h
 replace h := Option.bind_eq_some_iff.mp h
 obtain ⟨t, _, h⟩ := h
 have no : ∀ {x : Prop}, (some (([] : List S29), ([] : List (Gv.K5 × Int)), ([] : List Int), ([] : List Int), ([] : List S49), (-1 : Int), false) = some (r1, r2, r3, r4, r5, r6, r7)) → x := fun e => by simp only [Option.some.injEq, Prod.mk.injEq] at e; have := e.2.2.2.2.2.1; omega
 by_cases c1 : t.2.2.2.2.2 = true
 · rw [if_pos c1] at h
   replace h := Option.bind_eq_some_iff.mp h
   obtain ⟨u, _, h⟩ := h
   by_cases c2 : u = true
   · rw [if_pos c2] at h
     replace h := Option.bind_eq_some_iff.mp h
     obtain ⟨q, _, h⟩ := h
     by_cases c3 : q = true
     · rw [if_pos c3] at h
       by_cases c4 : Gv.wf5 (Gv.key5 l1_1) = true
       · rw [if_pos c4] at h
         split at h <;> (simp only [Option.some.injEq, Prod.mk.injEq] at h; exact h.2.2.2.2.2.2.symm)
       · rw [if_neg c4] at h; cases h
     · rw [if_neg c3] at h; exact no h
   · rw [if_neg c2] at h; exact no h
 · rw [if_neg c1] at h; exact no h
end Go.Proofs.Ytigpkicbigpilaa.V
