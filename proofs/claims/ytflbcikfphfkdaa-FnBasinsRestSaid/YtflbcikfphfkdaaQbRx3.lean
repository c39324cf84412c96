-- Functions of the program as plain functions, and that the calls come to them. Written by a program (ownprint.py); nothing here is trusted: Lean checks it.
import Derived.Test.YtflbcikfphfkdaaQbRx0
import Derived.Test.YtflbcikfphfkdaaQbRx2
namespace Go.Proofs.Ytflbcikfphfkdaa.R
open Go.RowKit Go.Proofs.YtflbcikfphfkdaaW.PrintWords Go.Proofs.YtflbcikfphfkdaaW.PrintLast Go.Proofs.YtflbcikfphfkdaaW.PrintMore Go.Proofs.Ytflbcikfphfkdaa.Sq
attribute [local go_sem] max2_int min2_int max_two min_two max_three min_three max_four min_four   -- for this text's walks alone
set_option linter.unusedVariables false
set_option linter.unusedSimpArgs false
def impl_runRow.l0 : Nat → List Int → Int → Int → List (S30) → List (List (S30)) → List (List Int) → List Int → Option ((List (List (S30))) × (List (List Int)) × List Int)
 | 0, _, _, _, _, _, _, _ => none
 | k + 1, x15, x16, x17, x64, x118000, x118001, x118002 => if x17 < x16 then (if 0 ≤ x17 then (if x17 < (x15.length : Int) then ((impl_tickRow.f k x64 (rd x15 x17)).bind fun bt122 => ((impl_Basin_63.f bt122.1).bind fun t129 => ((some (([bt122.1] : List (List (S30))) : List (List (S30)))).bind fun y132 => (if x118000.length + y132.length < 5864062014805 then ((some (([bt122.2.1] : List (List Int)) : List (List Int))).bind fun y138 => (if x118001.length + y138.length < 5864062014805 then ((some (([bt122.2.2] : List Int) : List Int)).bind fun y144 => (if x118002.length + y144.length < 17592186044416 then (impl_runRow.l0 k x15 x16 (wrap64 (x17 + 1)) t129 (x118000 ++ y132) (x118001 ++ y138) (x118002 ++ y144)) else (none))) else (none))) else (none))))) else (none)) else (none)) else (some (x118000, x118001, x118002))
def impl_runRow.f (k : Nat) (l0 : List (S30)) (l1 : List Int) : Option ((List (List (S30))) × (List (List Int)) × List Int) := (impl_Basin_63.f l0).bind fun t111 => ((impl_Basin_63.f l0).bind fun t118 => (impl_runRow.l0 k l1 (l1.length : Int) 0 t118 (([t111] : List (List (S30)))) ([] : List (List Int)) ([] : List Int)))
def impl_runRow.T6 : Bool × List (List Nat × List Nat) := (true, [([], []), ([0], [0]), ([], []), ([2], [2]), ([1, 3], [1, 3]), ([], []), ([5], [5]), ([], []), ([7], [7]), ([6, 8, 4], [6, 8]), ([], []), ([10], [10]), ([], []), ([12], [12]), ([11, 13, 9], [11, 13]), ([0, 1, 2, 3, 4, 5, 6, 10, 11], []), ([15, 4, 14, 0, 1, 2, 3, 4, 5, 6, 10, 11], [4, 15]), ([0, 1, 2, 3, 4, 5, 6, 7, 8, 9, 10, 11, 15, 16], []), ([17, 9, 16, 0, 1, 2, 3, 4, 5, 6, 7, 8, 9, 10, 11, 15, 16], [9, 17]), ([0, 1, 2, 3, 4, 5, 6, 7, 8, 9, 10, 11, 12, 13, 14, 15, 16, 17, 18], []), ([19, 14, 18, 0, 1, 2, 3, 4, 5, 6, 7, 8, 9, 10, 11, 12, 13, 14, 15, 16, 17, 18], [14, 19])])
def impl_runRow.B6 : List Nat := [0, 1, 0, 4, 15, 0, 32, 0, 128, 511, 0, 1024, 0, 4096, 16383, 3199, 65535, 131071, 262143, 524287, 1048575]
theorem impl_runRow.tab6 : rtab .any (opsOf Try.f58 6) = impl_runRow.T6 := by kernel_rfl
theorem impl_runRow.bits6 : waitsOk impl_runRow.T6.2 impl_runRow.B6 = true := by kernel_rfl
set_option maxHeartbeats 8000000 in
set_option maxRecDepth 100000 in
theorem impl_runRow.calls (k : Nat) (A0 : Option Addr) (c0 : Nat) (l0 : List (S30)) (A1 : Option Addr) (c1 : Nat) (l1 : List Int) (r1 : List (List (S30))) (r2 : List (List Int)) (r3 : List Int) (w : World) (hr0 : Kd.C k30 w A0 l0.length l0) (hc0 : l0.length ≤ c0) (hr1 : Kd.C (Kd.int .i64) w A1 l1.length l1) (hc1 : l1.length ≤ c1) (h : impl_runRow.f k l0 l1 = some (r1, r2, r3)) :
  Calls Try.prog 58 #[.slice A0 l0.length c0, .slice A1 l1.length c1] w fun e w' => ∃ v0_ v1_ v2_ : Value, e = .returned (.agg #[v0_, v1_, v2_]) ∧ Kd.N (Kd.slice 30 k30) 24 w' w.heap.size (fun k_ => (w.heap.size ≤ k_) ∧ some k_ ≠ (v1_ : Value).ownBlock ∧ some k_ ≠ (v2_ : Value).ownBlock) v0_ r1 ∧ Kd.N (Kd.slice 3 (Kd.int .i64)) 33 w' w.heap.size (fun k_ => (w.heap.size ≤ k_) ∧ some k_ ≠ (v0_ : Value).ownBlock ∧ some k_ ≠ (v2_ : Value).ownBlock) v1_ r2 ∧ Kd.R (Kd.int .i64) 3 w' w.heap.size (fun k_ => (w.heap.size ≤ k_)) v2_ r3 ∧ Below w.heap.size w w' := by
 have hu71 := Try.underlying71
 have HR0 := Aside0.mk hr0
 have HC0 := Aside0.mk hc0
 clear hr0 hc0
 have HR1 := Aside0.mk hr1
 have HC1 := Aside0.mk hc1
 clear hr1 hc1
 have HB := Aside0.mk (Below.refl w.heap.size w)
 have H : ((impl_Basin_63.f l0).bind fun t111 => ((impl_Basin_63.f l0).bind fun t118 => (impl_runRow.l0 k l1 (l1.length : Int) 0 t118 (([t111] : List (List (S30)))) ([] : List (List Int)) ([] : List Int)))) = some (r1, r2, r3) := h
 clear h
 replace H := Option.bind_eq_some_iff.mp H
 obtain ⟨t111, A30, H⟩ := H
 (try dsimp only at H)
 have A3 := Aside0.mk A30
 clear A30
 obtain ⟨y114, hy114⟩ : ∃ y_ : List (List (S30)), y_ = (([t111] : List (List (S30)))) := ⟨_, rfl⟩
 replace H : ((impl_Basin_63.f l0).bind fun t118 => (impl_runRow.l0 k l1 (l1.length : Int) 0 t118 y114 ([] : List (List Int)) ([] : List Int))) = some (r1, r2, r3) := by first | (rw [hy114]; with_reducible exact H) | (have H2_ := (Option.bind_some _ _).symm.trans H; rw [hy114]; with_reducible exact H2_) | (have H2_ := (Option.bind_some _ _).symm.trans H; with_reducible exact H2_) | with_reducible exact H | (rw [hy114]; exact H) | exact H
 have Ny114 := Aside0.mk hy114
 clear hy114
 replace H := Option.bind_eq_some_iff.mp H
 obtain ⟨t118, A40, H⟩ := H
 (try dsimp only at H)
 have A4 := Aside0.mk A40
 clear A40
 have e_ : l0 = t118 := by
  have h_ := A4.out
  unfold impl_Basin_63.f at h_
  split at h_
  · exact Option.some.inj h_
  · cases h_
 subst e_
 have H' := Aside0.mk H
 clear H
 go_enter Try.func58, Try.ntmps58
 go_wp2_with (first | ((with_reducible refine gate_dst (N := 4) rfl ?_); refine bx 4 #[.slice none 0 0, .slice none 0 0, .slice none 0 0] 71 ?_; intro gb110 hg w5 hbox hb; have BK110 := Aside0.mk (hbox); have GW110 := ge HB hg; have GE110 := ge HB hg; replace HB := bs HB hb; clear hb hbox hg) | ((with_reducible refine gate_callee (f := 63) rfl ?_); refine gl 12 Try.func63 #[.slice A0 l0.length c0] ?_; (with_reducible refine (impl_Basin_63.calls _ _ l0 t111 _ ?side1 ?side2 A3.out).mono ?_); (case side1 => exact ck HR0 HB); (case side2 => exact HC0.out); rintro e w6 ⟨v112, rfl, ho0, hb⟩; refine ⟨_, rfl, ?_⟩; have HO113 := Aside0.mk (Kd.R_lower (Kd.R_newM (M := fun k_ => (w.heap.size ≤ k_)) ho0 (below_size (bw HB)) (fun k_ h_ => h_)) (below_size (bw HB))); replace BK110 := bb BK110 hb; replace HB := bs HB hb; (try clear hb); (try clear ho0); obtain ⟨Ao7, co7, eo7⟩ := Kd.R_slice HO113.out; subst eo7) | ((with_reducible refine gate_dst (N := 13) rfl ?_); refine Kd.N_lit (Kd.slice 30 k30) _ 24 ?hg (N' := 13) ?hd (xs := ([t111] : List (List (S30)))) (inner := [.slice Ao7 t111.length co7]) (ok := (fun k_ => (w.heap.size ≤ k_) ∧ k_ ≠ gb110)) (okp := (fun k_ => (w.heap.size ≤ k_) ∧ k_ ≠ gb110)) ?hr ?hp (fun _ hk => hk) ((show ∀ k_, w6.heap.size ≤ k_ → (fun k_ => (w.heap.size ≤ k_) ∧ k_ ≠ gb110) k_ from fun k_ hk => ⟨(Nat.le_trans (below_size (bw HB)) hk), Kd.freshB (g := gb110) (o := .cells #[.slice none 0 0, .slice none 0 0, .slice none 0 0] 71 (0, 0)) (bk BK110) k_ hk⟩) _ (Nat.le_refl _)) (Below.refl _ _) (Nat.le_refl _) (by simp) ?_; (case hd => rfl); (case hg => rfl); (case hr => first | (go_simp; done) | (go_simp; rfl)); (case hp => exact (Reps.one (show Kd.FK (Kd.slice 30 k30) _ _ t111 [.slice Ao7 t111.length co7] from (Kd.FK_slice_mk (Kd.R_reads' (Kd.R_mono (ok' := (fun k_ => (w.heap.size ≤ k_) ∧ k_ ≠ gb110)) (Kd.R_types (HO113.out) BK110.out (by decide)) (fun k_ hk => ⟨hk.1.1, hk.2⟩))).2.1 (Kd.R_F (Kd.R_mono (ok' := (fun k_ => (w.heap.size ≤ k_) ∧ k_ ≠ gb110)) (Kd.R_types (HO113.out) BK110.out (by decide)) (fun k_ hk => ⟨hk.1.1, hk.2⟩))))) (Reps.none _ _))); intro v115 w8 ho9 hb hg_ hnew_; clear hg_ hnew_; (first | rw [← Ny114.out] at ho9 | (simp only [Int.reduceToNat] at ho9; rw [← Ny114.out] at ho9)); have n0_ := Aside0.mk (Kd.N_lower ho9 (below_size (bw HB))); have n1_ := bb BK110 hb; have n2_ := bs HB hb; clear BK110; clear HB; clear HO113; have HO116 := n0_; have BK110 := n1_; have HB := n2_; clear n0_ n1_ n2_; clear hb ho9; obtain ⟨Ao10, co10, eo10⟩ := Kd.N_slice HO116.out; subst eo10) | ((with_reducible refine gate_dst (N := 5) rfl ?_); refine bx 5 #[.slice none 0 0, .slice none 0 0, .slice none 0 0] 71 ?_; intro gb117 hg w11 hbox hb; replace HO116 := Aside0.mk (Kd.N_below (Kd.N_elderB HO116.out gb117 (Nat.le_of_eq hg.symm)) hb); have BK117 := Aside0.mk (hbox); have GW117 := ge HB hg; have GE117 := ge HB hg; replace HB := bs HB hb; have NB110_117 := nl BK110 hg; have NB117_110 := nr BK110 hg; replace BK110 := bb BK110 hb; clear hb hbox hg; have hnb12 := NB117_110.out; have hnc12 := NB110_117.out; have hcz13_0 := bc0 BK117; have hcz13_1 := bc1 BK117; have hcz13_2 := bc2 BK117; have hfz13_0 := blk_frozen BK117.out 0; have hfz13_1 := blk_frozen BK117.out 1; have hfz13_2 := blk_frozen BK117.out 2))
 try simp only [Act.put, List.setIfInBounds_toArray, List.set_cons_zero, List.set_cons_succ]
 go_loopg [0, 17] k (fun kq v64 v17 w' => ∃ (x17_1 : Int) (x64_1 : List (S30)) (x118000_1 : List (List (S30))) (x118001_1 : List (List Int)) (x118002_1 : List Int) (u118000 : Value) (u118001 : Value) (u118002 : Value), v17 = .int .i64 x17_1 ∧ Aside0 (impl_runRow.l0 kq l1 (l1.length : Int) x17_1 x64_1 x118000_1 x118001_1 x118002_1 = some (r1, r2, r3)) ∧ Aside0 (kq ≤ k) ∧ (∃ (A_ : Option Addr) (c_ : Nat), v64 = .slice A_ x64_1.length c_ ∧ x64_1.length ≤ c_ ∧ Kd.C k30 w' A_ x64_1.length x64_1) ∧ Aside0 (Kd.N (Kd.slice 30 k30) 24 w' w.heap.size (fun k_ => (w.heap.size ≤ k_) ∧ some k_ ≠ (.slice none 0 0 : Value).ownBlock ∧ some k_ ≠ (u118001 : Value).ownBlock ∧ some k_ ≠ (u118002 : Value).ownBlock ∧ k_ ≠ gb110 ∧ k_ ≠ gb117) u118000 x118000_1) ∧ Aside0 (Kd.N (Kd.slice 3 (Kd.int .i64)) 33 w' w.heap.size (fun k_ => (w.heap.size ≤ k_) ∧ some k_ ≠ (.slice none 0 0 : Value).ownBlock ∧ some k_ ≠ (u118000 : Value).ownBlock ∧ some k_ ≠ (u118002 : Value).ownBlock ∧ k_ ≠ gb110 ∧ k_ ≠ gb117) u118001 x118001_1) ∧ Aside0 (Kd.R (Kd.int .i64) 3 w' w.heap.size (fun k_ => (w.heap.size ≤ k_)) u118002 x118002_1) ∧ Aside0 (w'.heap[gb110]? = some (.cells #[(.slice none 0 0), (.slice none 0 0), (.slice none 0 0)] 71 (0, 0))) ∧ Aside0 (w'.heap[gb117]? = some (.cells #[u118000, u118001, u118002] 71 (0, 0))) ∧ Aside0 (Below w.heap.size w w'))
 case atStart => exact ⟨(0), (l0), (y114), (([] : List (List Int))), (([] : List Int)), (.slice Ao10 y114.length co10), (.slice none 0 0), (.slice none 0 0), (by first | rfl | (simp; done) | (simp [*]; done)), H', ⟨Nat.le_refl _⟩, ⟨A0, c0, rfl, HC0.out, by (repeat (first | refine Kd.C_alloc ?_ _ | refine Kd.C_drewN ?_ _ | refine Kd.C_drew ?_)); exact Kd.C_below HR0.out (bw HB)⟩, ⟨Kd.N_mono (ok := fun k_ => ((w.heap.size ≤ k_) ∧ k_ ≠ gb110) ∧ k_ ≠ gb117) (by exact (Kd.N_mono (Kd.N_far (p := ⟨gb117, 2, none⟩) (Kd.N_far (p := ⟨gb117, 1, none⟩) (Kd.N_far (p := ⟨gb117, 0, none⟩) (Kd.N_mono HO116.out (fun k_ hk => (⟨hk, hk.2⟩ : _ ∧ k_ ≠ gb117))) (fun _ hk => hk.2) (.slice Ao10 y114.length co10)) (fun _ hk => hk.2) (.slice none 0 0)) (fun _ hk => hk.2) (.slice none 0 0)) (fun _ h_ => h_.1))) (fun _ hk => ⟨hk.1.1, ⟨(by simp [Value.ownBlock]), ⟨(by simp [Value.ownBlock]), ⟨(by simp [Value.ownBlock]), ⟨hk.1.2, hk.2⟩⟩⟩⟩⟩)⟩, ⟨by first | exact Kd.S_nil _ _ _ _ _ | exact Kd.N_nil _ _ _ _ _ | exact Kd.V_nil _ _ _ _ _ | exact Kd.Q_nil _ _ _ _ _ | exact Kd.R_nil _ _ _ _ _⟩, ⟨by first | exact Kd.R_nil _ _ _ _ _ | exact Kd.N_nil _ _ _ _ _ | exact Kd.V_nil _ _ _ _ _ | exact Kd.Q_nil _ _ _ _ _ | exact Kd.S_nil _ _ _ _ _⟩, ⟨bk BK110⟩, ⟨(by refine blk_put (cs := #[.slice Ao10 y114.length co10, .slice none 0 0, .slice none 0 0]) ?_ 2 _ rfl; refine blk_put (cs := #[.slice Ao10 y114.length co10, .slice none 0 0, .slice none 0 0]) ?_ 1 _ rfl; refine blk_put (cs := #[.slice none 0 0, .slice none 0 0, .slice none 0 0]) ?_ 0 _ rfl; exact bk BK117)⟩, ⟨bw HB⟩⟩
 case round =>
  clear H'
  (try clear c1); (try clear p2); (try clear c5); (try clear c6); (try clear c12); (try clear hcz13_0); (try clear hcz13_1); (try clear hcz13_2); (try clear hfz13_0); (try clear hfz13_1); (try clear hfz13_2)
  obtain ⟨x17_1, x64_1, x118000_1, x118001_1, x118002_1, u118000, u118001, u118002, rfl, HA, HK1, HO_64, HO_118000, HO_118001, HO_118002, BK110, BK117, HB⟩ := hrel
  cases gk with
  | zero => exact absurd HA.out (by simp [impl_runRow.l0])
  | succ k1 =>
   have H := HA.out
   clear HA
   simp only [impl_runRow.l0] at H
   by_cases c15 : x17_1 < (l1.length : Int)
   rotate_left
   ·rw [if_neg c15] at H
    have c15b0 : decide (x17_1 < (l1.length : Int)) = false := decide_eq_false c15
    clear c15
    simp only [Option.some.injEq, Prod.mk.injEq] at H
    obtain ⟨rfl, rfl, rfl⟩ := H
    have hnb51 := NB117_110.out
    have hnc51 := NB110_117.out
    have hcz52_0 := bc0 BK117
    have hcz52_1 := bc1 BK117
    have hcz52_2 := bc2 BK117
    have hfz52_0 := blk_frozen BK117.out 0
    have hfz52_1 := blk_frozen BK117.out 1
    have hfz52_2 := blk_frozen BK117.out 2
    obtain ⟨Ao53, co53, eo53⟩ := Kd.N_slice HO_118000.out
    subst eo53
    have hcz54_0 := bc0 BK110
    have hcz54_1 := bc1 BK110
    have hcz54_2 := bc2 BK110
    have hfz54_0 := blk_frozen BK110.out 0
    have hfz54_1 := blk_frozen BK110.out 1
    have hfz54_2 := blk_frozen BK110.out 2
    obtain ⟨Ao55, co55, eo55⟩ := Kd.N_slice HO_118001.out
    subst eo55
    obtain ⟨Ao56, co56, eo56⟩ := Kd.R_slice HO_118002.out
    subst eo56
    go_wp2
    refine bodyPost_ret (results_cell_row rfl _ _ gb110 71 #[.slice Ao53 x118000_1.length co53, .slice Ao55 x118001_1.length co55, .slice Ao56 x118002_1.length co56] (0, 0) _ rfl (by refine blk_put (cs := #[.slice Ao53 x118000_1.length co53, .slice Ao55 x118001_1.length co55, .slice none 0 0]) ?_ 2 _ rfl; refine blk_put (cs := #[.slice Ao53 x118000_1.length co53, .slice none 0 0, .slice none 0 0]) ?_ 1 _ rfl; refine blk_put (cs := #[.slice none 0 0, .slice none 0 0, .slice none 0 0]) ?_ 0 _ rfl; exact bk BK110) Try.underlying71 rfl (by kernel_rfl)) rfl ?_
    exact ⟨_, _, _, by first | rfl | (simp [errW_none, errW_some] <;> rfl) | (simp [*, errW_none, errW_some] <;> rfl), by exact Kd.N_mono (Kd.N_far (p := ⟨gb110, 2, none⟩) (Kd.N_far (p := ⟨gb110, 1, none⟩) (Kd.N_far (p := ⟨gb110, 0, none⟩) (Kd.N_mono HO_118000.out (fun k_ hk => (⟨hk, hk.2.2.2.2.1⟩ : _ ∧ k_ ≠ gb110))) (fun _ hk => hk.2) (.slice Ao53 x118000_1.length co53)) (fun _ hk => hk.2) (.slice Ao55 x118001_1.length co55)) (fun _ hk => hk.2) (.slice Ao56 x118002_1.length co56)) (fun _ hk => ⟨hk.1.1, ⟨hk.1.2.2.1, hk.1.2.2.2.1⟩⟩), by exact Kd.N_mono (Kd.N_far (p := ⟨gb110, 2, none⟩) (Kd.N_far (p := ⟨gb110, 1, none⟩) (Kd.N_far (p := ⟨gb110, 0, none⟩) (Kd.N_mono HO_118001.out (fun k_ hk => (⟨hk, hk.2.2.2.2.1⟩ : _ ∧ k_ ≠ gb110))) (fun _ hk => hk.2) (.slice Ao53 x118000_1.length co53)) (fun _ hk => hk.2) (.slice Ao55 x118001_1.length co55)) (fun _ hk => hk.2) (.slice Ao56 x118002_1.length co56)) (fun _ hk => ⟨hk.1.1, ⟨hk.1.2.2.1, hk.1.2.2.2.1⟩⟩), by exact Kd.R_mono (Kd.R_far (p := ⟨gb110, 2, none⟩) (Kd.R_far (p := ⟨gb110, 1, none⟩) (Kd.R_far (p := ⟨gb110, 0, none⟩) (Kd.R_types HO_118002.out BK110.out (by decide)) (fun _ hk => hk.2) (.slice Ao53 x118000_1.length co53)) (fun _ hk => hk.2) (.slice Ao55 x118001_1.length co55)) (fun _ hk => hk.2) (.slice Ao56 x118002_1.length co56)) (fun _ hk => hk.1), bw HB⟩
   rw [if_pos c15] at H
   have c15b0 : decide (x17_1 < (l1.length : Int)) = true := decide_eq_true c15
   clear c15
   by_cases c16 : 0 ≤ x17_1
   rotate_left
   ·rw [if_neg c16] at H
    exact absurd H (by simp)
   rw [if_pos c16] at H
   have c16b0 : decide (0 ≤ x17_1) = true := decide_eq_true c16
   clear c16
   by_cases c17 : x17_1 < (l1.length : Int)
   rotate_left
   ·rw [if_neg c17] at H
    exact absurd H (by simp)
   rw [if_pos c17] at H
   have c17b0 : decide (x17_1 < (l1.length : Int)) = true := decide_eq_true c17
   clear c17
   replace H := Option.bind_eq_some_iff.mp H
   obtain ⟨⟨t122, t123, t124⟩, A180, H⟩ := H
   (try dsimp only at H)
   have A18 := Aside0.mk A180
   clear A180
   replace H := Option.bind_eq_some_iff.mp H
   obtain ⟨t129, A190, H⟩ := H
   (try dsimp only at H)
   have A19 := Aside0.mk A190
   clear A190
   have e_ : t122 = t129 := by
    have h_ := A19.out
    unfold impl_Basin_63.f at h_
    split at h_
    · exact Option.some.inj h_
    · cases h_
   subst e_
   obtain ⟨y132, hy132⟩ : ∃ y_ : List (List (S30)), y_ = (([t122] : List (List (S30)))) := ⟨_, rfl⟩
   replace H : (if x118000_1.length + y132.length < 5864062014805 then ((some (([t123] : List (List Int)) : List (List Int))).bind fun y138 => (if x118001_1.length + y138.length < 5864062014805 then ((some (([t124] : List Int) : List Int)).bind fun y144 => (if x118002_1.length + y144.length < 17592186044416 then (impl_runRow.l0 k1 l1 (l1.length : Int) (wrap64 (x17_1 + 1)) t122 (x118000_1 ++ y132) (x118001_1 ++ y138) (x118002_1 ++ y144)) else (none))) else (none))) else (none)) = some (r1, r2, r3) := by first | (rw [hy132]; with_reducible exact H) | (have H2_ := (Option.bind_some _ _).symm.trans H; rw [hy132]; with_reducible exact H2_) | (have H2_ := (Option.bind_some _ _).symm.trans H; with_reducible exact H2_) | with_reducible exact H | (rw [hy132]; exact H) | exact H
   have Ny132 := Aside0.mk hy132
   clear hy132
   by_cases c20 : x118000_1.length + y132.length < 5864062014805
   rotate_left
   ·rw [if_neg c20] at H
    exact absurd H (by simp)
   rw [if_pos c20] at H
   have LMc20 := Aside0.mk c20
   clear c20
   obtain ⟨y135, hy135⟩ : ∃ y_ : List (List (S30)), y_ = (x118000_1 ++ y132) := ⟨_, rfl⟩
   replace H : ((some (([t123] : List (List Int)) : List (List Int))).bind fun y138 => (if x118001_1.length + y138.length < 5864062014805 then ((some (([t124] : List Int) : List Int)).bind fun y144 => (if x118002_1.length + y144.length < 17592186044416 then (impl_runRow.l0 k1 l1 (l1.length : Int) (wrap64 (x17_1 + 1)) t122 y135 (x118001_1 ++ y138) (x118002_1 ++ y144)) else (none))) else (none))) = some (r1, r2, r3) := by first | (rw [hy135]; with_reducible exact H) | (have H2_ := (Option.bind_some _ _).symm.trans H; rw [hy135]; with_reducible exact H2_) | (have H2_ := (Option.bind_some _ _).symm.trans H; with_reducible exact H2_) | with_reducible exact H | (rw [hy135]; exact H) | exact H
   have Ny135 := Aside0.mk hy135
   clear hy135
   obtain ⟨y138, hy138⟩ : ∃ y_ : List (List Int), y_ = (([t123] : List (List Int))) := ⟨_, rfl⟩
   replace H : (if x118001_1.length + y138.length < 5864062014805 then ((some (([t124] : List Int) : List Int)).bind fun y144 => (if x118002_1.length + y144.length < 17592186044416 then (impl_runRow.l0 k1 l1 (l1.length : Int) (wrap64 (x17_1 + 1)) t122 y135 (x118001_1 ++ y138) (x118002_1 ++ y144)) else (none))) else (none)) = some (r1, r2, r3) := by first | (rw [hy138]; with_reducible exact H) | (have H2_ := (Option.bind_some _ _).symm.trans H; rw [hy138]; with_reducible exact H2_) | (have H2_ := (Option.bind_some _ _).symm.trans H; with_reducible exact H2_) | with_reducible exact H | (rw [hy138]; exact H) | exact H
   have Ny138 := Aside0.mk hy138
   clear hy138
   by_cases c21 : x118001_1.length + y138.length < 5864062014805
   rotate_left
   ·rw [if_neg c21] at H
    exact absurd H (by simp)
   rw [if_pos c21] at H
   have LMc21 := Aside0.mk c21
   clear c21
   obtain ⟨y141, hy141⟩ : ∃ y_ : List (List Int), y_ = (x118001_1 ++ y138) := ⟨_, rfl⟩
   replace H : ((some (([t124] : List Int) : List Int)).bind fun y144 => (if x118002_1.length + y144.length < 17592186044416 then (impl_runRow.l0 k1 l1 (l1.length : Int) (wrap64 (x17_1 + 1)) t122 y135 y141 (x118002_1 ++ y144)) else (none))) = some (r1, r2, r3) := by first | (rw [hy141]; with_reducible exact H) | (have H2_ := (Option.bind_some _ _).symm.trans H; rw [hy141]; with_reducible exact H2_) | (have H2_ := (Option.bind_some _ _).symm.trans H; with_reducible exact H2_) | with_reducible exact H | (rw [hy141]; exact H) | exact H
   have Ny141 := Aside0.mk hy141
   clear hy141
   obtain ⟨y144, hy144⟩ : ∃ y_ : List Int, y_ = (([t124] : List Int)) := ⟨_, rfl⟩
   replace H : (if x118002_1.length + y144.length < 17592186044416 then (impl_runRow.l0 k1 l1 (l1.length : Int) (wrap64 (x17_1 + 1)) t122 y135 y141 (x118002_1 ++ y144)) else (none)) = some (r1, r2, r3) := by first | (rw [hy144]; with_reducible exact H) | (have H2_ := (Option.bind_some _ _).symm.trans H; rw [hy144]; with_reducible exact H2_) | (have H2_ := (Option.bind_some _ _).symm.trans H; with_reducible exact H2_) | with_reducible exact H | (rw [hy144]; exact H) | exact H
   have Ny144 := Aside0.mk hy144
   clear hy144
   by_cases c22 : x118002_1.length + y144.length < 17592186044416
   rotate_left
   ·rw [if_neg c22] at H
    exact absurd H (by simp)
   rw [if_pos c22] at H
   have LMc22 := Aside0.mk c22
   clear c22
   obtain ⟨y147, hy147⟩ : ∃ y_ : List Int, y_ = (x118002_1 ++ y144) := ⟨_, rfl⟩
   replace H : (impl_runRow.l0 k1 l1 (l1.length : Int) (wrap64 (x17_1 + 1)) t122 y135 y141 y147) = some (r1, r2, r3) := by first | (rw [hy147]; with_reducible exact H) | (have H2_ := (Option.bind_some _ _).symm.trans H; rw [hy147]; with_reducible exact H2_) | (have H2_ := (Option.bind_some _ _).symm.trans H; with_reducible exact H2_) | with_reducible exact H | (rw [hy147]; exact H) | exact H
   have Ny147 := Aside0.mk hy147
   clear hy147
   have H' := Aside0.mk H
   clear H
   have p121 : 0 ≤ (x17_1 : Int) := of_decide_eq_true ‹_›
   have q121 : x17_1 < (l1.length : Int) := of_decide_eq_true ‹_›
   obtain ⟨ad121, e121, hx121_0⟩ := Kd.at_int HR1.out x17_1 p121 q121
   cases e121
   replace hx121_0 := (HB.out.cell (World.block_lt_of_cell? w _ hx121_0)).trans hx121_0
   replace p121 := eq_true p121
   replace q121 := eq_true q121
   obtain ⟨Ao23, co23, rfl, hcap_, hC_⟩ := HO_64
   have HC_ := Aside0.mk hC_
   have HK_ := Aside0.mk hcap_
   clear hC_ hcap_
   skip
   try go_wp2_with (first | ((with_reducible refine gate_callee (f := 50) rfl ?_); refine gl 24 Try.func50 #[.slice Ao23 x64_1.length co23, .int .i64 (rd l1 x17_1)] ?_; (with_reducible refine (impl_tickRow.calls k1 _ _ x64_1 (rd l1 x17_1) t122 t123 t124 _ ?side1 ?side2 A18.out).mono ?_); (case side1 => repeat (first | exact HC_.out | (with_reducible refine Kd.C_alloc ?_ _) | (with_reducible refine Kd.C_drewN ?_ _) | (with_reducible refine Kd.C_drew ?_))); (case side2 => exact HK_.out); rintro e w24 ⟨v125, v127, rfl, ho0, ho1, hb⟩; refine ⟨_, rfl, ?_⟩; replace HO_118000 := Aside0.mk (Kd.N_mono (Kd.N_told (Kd.N_told (Kd.N_old HO_118000.out hb) (Kd.R_base ho0)) (Kd.R_base ho1)) (fun _ h_ => h_.1)); replace HO_118000 := Aside0.mk (Kd.N_mono HO_118000.out (fun k_ hk => (⟨hk, (by simp [Value.ownBlock])⟩ : _ ∧ some k_ ≠ (.slice none 0 0 : Value).ownBlock))); replace HO_118001 := Aside0.mk (Kd.N_mono (Kd.N_told (Kd.N_told (Kd.N_old HO_118001.out hb) (Kd.R_base ho0)) (Kd.R_base ho1)) (fun _ h_ => h_.1)); replace HO_118001 := Aside0.mk (Kd.N_mono HO_118001.out (fun k_ hk => (⟨hk, (by simp [Value.ownBlock])⟩ : _ ∧ some k_ ≠ (.slice none 0 0 : Value).ownBlock))); have HO126 := Aside0.mk (Kd.R_lower (Kd.R_mono (ok' := (fun k_ => (((w.heap.size ≤ k_) ∧ True) ∧ some k_ ≠ (.slice none 0 0 : Value).ownBlock) ∧ some k_ ≠ (.slice none 0 0 : Value).ownBlock)) (Kd.R_newM (M := fun k_ => (w.heap.size ≤ k_)) ho0 (below_size (bw HB)) (fun k_ h_ => h_)) (fun _ hk => ⟨⟨hk, (by simp [Value.ownBlock])⟩, (by simp [Value.ownBlock])⟩)) (below_size (bw HB))); obtain ⟨v130, hv_⟩ : ∃ v_ : Value, v_ = v125 := ⟨_, rfl⟩; have HO131 : Aside0 (Kd.R k30 30 w24 w.heap.size (fun k_ => (((w.heap.size ≤ k_) ∧ True) ∧ some k_ ≠ (.slice none 0 0 : Value).ownBlock) ∧ some k_ ≠ (.slice none 0 0 : Value).ownBlock) v130 t122) := ⟨by rw [hv_]; exact HO126.out⟩; have HV_ := Aside0.mk hv_; clear hv_; have HO_64 : Aside0 (Kd.R k30 30 w24 w.heap.size (fun k_ => ((w.heap.size ≤ k_) ∧ some k_ ≠ (v125 : Value).ownBlock) ∧ some k_ ≠ (.slice none 0 0 : Value).ownBlock) (.slice none 0 0) ([] : List (S30))) := ⟨Kd.R_nil _ _ _ _ _⟩; have HO128 := Aside0.mk (Kd.R_lower (Kd.R_new' (Kd.R_newM (M := fun k_ => (w.heap.size ≤ k_)) ho1 (below_size (bw HB)) (fun k_ h_ => h_)) (Kd.R_lt (rk HO_118002))) (below_size (bw HB))); replace HO_118002 := Aside0.mk (Kd.R_elder' (rk HO_118002) (Kd.R_base ho1) hb); replace BK110 := bb BK110 hb; replace BK117 := bb BK117 hb; replace HB := bs HB hb; (try clear hb); (try clear ho0); (try clear ho1); obtain ⟨Ao25, co25, eo25⟩ := Kd.R_slice HO126.out; subst eo25; obtain ⟨Ao27, co27, eo27⟩ := Kd.N_slice HO_118000.out; subst eo27; obtain ⟨Ao28, co28, eo28⟩ := Kd.N_slice HO_118001.out; subst eo28; obtain ⟨Ao29, co29, eo29⟩ := Kd.R_slice HO_118002.out; subst eo29; obtain ⟨Ao99, co99, eo99⟩ := Kd.R_slice HO128.out; subst eo99))
   replace HO_64 := Aside0.mk (Kd.R_drew HO_64.out)
   replace HO_118000 := Aside0.mk (Kd.N_drew HO_118000.out)
   replace HO_118001 := Aside0.mk (Kd.N_drew HO_118001.out)
   replace HO_118002 := Aside0.mk (Kd.R_drew HO_118002.out)
   replace HO126 := Aside0.mk (Kd.R_drew HO126.out)
   replace HO128 := Aside0.mk (Kd.R_drew HO128.out)
   replace HO131 := Aside0.mk (Kd.R_drew HO131.out)
   replace BK110 := Aside0.mk (blk_drew BK110.out)
   replace BK117 := Aside0.mk (blk_drew BK117.out)
   replace HB := Aside0.mk (below_drew1 HB.out)
   refine start_ (n := 21) (S := fun w' => w'.cell? ⟨gb117, 0, none⟩ = some (.slice Ao27 x118000_1.length co27) ∧ w'.cell? ⟨gb117, 1, none⟩ = some (.slice Ao28 x118001_1.length co28) ∧ w'.cell? ⟨gb117, 2, none⟩ = some (.slice Ao29 x118002_1.length co29)) (ds := [16, 18, 20]) (bl 21 0) (by kernel_rfl) rfl rfl ⟨bc0 BK117, bc1 BK117, bc2 BK117⟩ (fun hHeld => ?_); refine with_tabW impl_runRow.tab6 impl_runRow.bits6 (fun HT_ HW_ => ?_)
   generalize w24.drew = w30 at HO_64 HO_118000 HO_118001 HO_118002 HO126 HO128 HO131 BK110 BK117 HB hHeld ⊢
   refine pu 0 28 (bl 21 1) HT_.out (v := ?_) (a' := ?_) ?_ ?_ ?_
   rotate_left; (intro w'; go_simp; with_reducible rfl); rotate_left; (simp only [sqa, sqb, sqc, sqd, i64_w, i32_w]; rfl)
   refine pu 2 30 (bl 21 5) HT_.out (v := ?_) (a' := ?_) ?_ ?_ ?_
   rotate_left; (intro w'; go_simp; with_reducible rfl); rotate_left; (simp only [sqa, sqb, sqc, sqd, i64_w, i32_w]; rfl)
   refine pu 5 33 (bl 21 37) HT_.out (v := ?_) (a' := ?_) ?_ ?_ ?_
   rotate_left; (intro w'; go_simp; with_reducible rfl); rotate_left; (simp only [sqa, sqb, sqc, sqd, i64_w, i32_w]; rfl)
   refine pu 7 35 (bl 21 165) HT_.out (v := ?_) (a' := ?_) ?_ ?_ ?_
   rotate_left; (intro w'; go_simp; with_reducible rfl); rotate_left; (simp only [sqa, sqb, sqc, sqd, i64_w, i32_w]; rfl)
   refine pu 10 38 (bl 21 1189) HT_.out (v := ?_) (a' := ?_) ?_ ?_ ?_
   rotate_left; (intro w'; go_simp; with_reducible rfl); rotate_left; (simp only [sqa, sqb, sqc, sqd, i64_w, i32_w]; rfl)
   refine pu 12 40 (bl 21 5285) HT_.out (v := ?_) (a' := ?_) ?_ ?_ ?_
   rotate_left; (intro w'; go_simp; with_reducible rfl); rotate_left; (simp only [sqa, sqb, sqc, sqd, i64_w, i32_w]; rfl)
   refine tk 1 29 (bl 21 5287) HT_.out HW_.out hHeld (v := ?_) (a' := ?_) ?_ ?_ ?_
   rotate_left; (rintro w' ⟨s0, s1, s2⟩; go_simp; with_reducible rfl); rotate_left; (simp only [sqa, sqb, sqc, sqd, i64_w, i32_w]; rfl)
   refine tk 6 34 (bl 21 5351) HT_.out HW_.out hHeld (v := ?_) (a' := ?_) ?_ ?_ ?_
   rotate_left; (rintro w' ⟨s0, s1, s2⟩; go_simp; with_reducible rfl); rotate_left; (simp only [sqa, sqb, sqc, sqd, i64_w, i32_w]; rfl)
   refine tk 11 39 (bl 21 7399) HT_.out HW_.out hHeld (v := ?_) (a' := ?_) ?_ ?_ ?_
   rotate_left; (rintro w' ⟨s0, s1, s2⟩; go_simp; with_reducible rfl); rotate_left; (simp only [sqa, sqb, sqc, sqd, i64_w, i32_w]; rfl)
   refine join_ (σ := Value × Value × Value × Value × Value) 6 (bl 21 49151) (fun s_ => [(31, s_.1), (32, s_.2.1), (36, s_.2.2.1), (37, s_.2.2.2.1), (41, s_.2.2.2.2), (43, .pointer (some ⟨gb117, 0, none⟩))]) (fun s_ w' => (w'.cell? ⟨gb117, 0, none⟩ = some (.slice Ao27 x118000_1.length co27) ∧ w'.cell? ⟨gb117, 1, none⟩ = some (.slice Ao28 x118001_1.length co28) ∧ w'.cell? ⟨gb117, 2, none⟩ = some (.slice Ao29 x118002_1.length co29)) ∧ (Kd.R k30 30 w' w.heap.size (fun k_ => (w.heap.size ≤ k_) ∧ some k_ ≠ (.slice none 0 0 : Value).ownBlock) v130 t122) ∧ (Kd.N (Kd.slice 30 k30) 24 w' w.heap.size (fun k_ => (w.heap.size ≤ k_) ∧ some k_ ≠ (.slice none 0 0 : Value).ownBlock ∧ some k_ ≠ (s_.2.1 : Value).ownBlock ∧ some k_ ≠ (s_.2.2.1 : Value).ownBlock ∧ some k_ ≠ (s_.2.2.2.1 : Value).ownBlock ∧ some k_ ≠ (s_.2.2.2.2 : Value).ownBlock ∧ some k_ ≠ (.slice Ao29 x118002_1.length co29 : Value).ownBlock ∧ some k_ ≠ (.slice none 0 0 : Value).ownBlock ∧ k_ ≠ gb110 ∧ k_ ≠ gb117) s_.1 y132) ∧ (Kd.N (Kd.slice 30 k30) 24 w' w.heap.size (fun k_ => (w.heap.size ≤ k_) ∧ some k_ ≠ (.slice none 0 0 : Value).ownBlock ∧ some k_ ≠ (s_.2.2.1 : Value).ownBlock ∧ some k_ ≠ (s_.2.2.2.1 : Value).ownBlock ∧ some k_ ≠ (s_.2.2.2.2 : Value).ownBlock ∧ some k_ ≠ (.slice Ao29 x118002_1.length co29 : Value).ownBlock ∧ some k_ ≠ (.slice none 0 0 : Value).ownBlock ∧ k_ ≠ gb110 ∧ k_ ≠ gb117) s_.2.1 y135) ∧ (Kd.N (Kd.slice 3 (Kd.int .i64)) 33 w' w.heap.size (fun k_ => (w.heap.size ≤ k_) ∧ some k_ ≠ (.slice none 0 0 : Value).ownBlock ∧ some k_ ≠ (s_.1 : Value).ownBlock ∧ some k_ ≠ (s_.2.1 : Value).ownBlock ∧ some k_ ≠ (s_.2.2.2.1 : Value).ownBlock ∧ some k_ ≠ (s_.2.2.2.2 : Value).ownBlock ∧ some k_ ≠ (.slice Ao29 x118002_1.length co29 : Value).ownBlock ∧ some k_ ≠ (.slice none 0 0 : Value).ownBlock ∧ k_ ≠ gb110 ∧ k_ ≠ gb117) s_.2.2.1 y138) ∧ (Kd.N (Kd.slice 3 (Kd.int .i64)) 33 w' w.heap.size (fun k_ => (w.heap.size ≤ k_) ∧ some k_ ≠ (.slice none 0 0 : Value).ownBlock ∧ some k_ ≠ (s_.1 : Value).ownBlock ∧ some k_ ≠ (s_.2.1 : Value).ownBlock ∧ some k_ ≠ (s_.2.2.2.2 : Value).ownBlock ∧ some k_ ≠ (.slice Ao29 x118002_1.length co29 : Value).ownBlock ∧ some k_ ≠ (.slice none 0 0 : Value).ownBlock ∧ k_ ≠ gb110 ∧ k_ ≠ gb117) s_.2.2.2.1 y141) ∧ (Kd.R (Kd.int .i64) 3 w' w.heap.size (fun k_ => (w.heap.size ≤ k_) ∧ some k_ ≠ (.slice Ao29 x118002_1.length co29 : Value).ownBlock) s_.2.2.2.2 y144) ∧ (Kd.R (Kd.int .i64) 3 w' w.heap.size (fun k_ => (w.heap.size ≤ k_) ∧ some k_ ≠ (s_.2.2.2.2 : Value).ownBlock) (.slice Ao29 x118002_1.length co29) x118002_1) ∧ (Kd.R k30 30 w' w.heap.size (fun k_ => (w.heap.size ≤ k_) ∧ some k_ ≠ (.slice none 0 0 : Value).ownBlock) (.slice none 0 0) ([] : List (S30))) ∧ (w'.heap[gb110]? = some (.cells #[.slice none 0 0, .slice none 0 0, .slice none 0 0] 71 (0, 0))) ∧ (w'.heap[gb117]? = some (.cells #[.slice Ao27 x118000_1.length co27, .slice Ao28 x118001_1.length co28, .slice Ao29 x118002_1.length co29] 71 (0, 0))) ∧ (Below w.heap.size w w')) ?_ ?_
   rotate_left
   ·intro hJ3_4_8_9_13
    refine join_ (σ := Value × Value × Value × Value) 7 (bl 21 40959) (fun s_ => [(31, s_.1), (32, s_.2.1), (36, s_.2.2.1), (37, s_.2.2.2), (43, .pointer (some ⟨gb117, 0, none⟩))]) (fun s_ w' => (w'.cell? ⟨gb117, 0, none⟩ = some (.slice Ao27 x118000_1.length co27) ∧ w'.cell? ⟨gb117, 1, none⟩ = some (.slice Ao28 x118001_1.length co28) ∧ w'.cell? ⟨gb117, 2, none⟩ = some (.slice Ao29 x118002_1.length co29)) ∧ (Kd.R k30 30 w' w.heap.size (fun k_ => (w.heap.size ≤ k_) ∧ some k_ ≠ (.slice none 0 0 : Value).ownBlock) v130 t122) ∧ (Kd.N (Kd.slice 30 k30) 24 w' w.heap.size (fun k_ => (w.heap.size ≤ k_) ∧ some k_ ≠ (.slice none 0 0 : Value).ownBlock ∧ some k_ ≠ (s_.2.1 : Value).ownBlock ∧ some k_ ≠ (s_.2.2.1 : Value).ownBlock ∧ some k_ ≠ (s_.2.2.2 : Value).ownBlock ∧ some k_ ≠ (.slice Ao29 x118002_1.length co29 : Value).ownBlock ∧ some k_ ≠ (.slice none 0 0 : Value).ownBlock ∧ k_ ≠ gb110 ∧ k_ ≠ gb117) s_.1 y132) ∧ (Kd.N (Kd.slice 30 k30) 24 w' w.heap.size (fun k_ => (w.heap.size ≤ k_) ∧ some k_ ≠ (.slice none 0 0 : Value).ownBlock ∧ some k_ ≠ (s_.2.2.1 : Value).ownBlock ∧ some k_ ≠ (s_.2.2.2 : Value).ownBlock ∧ some k_ ≠ (.slice Ao29 x118002_1.length co29 : Value).ownBlock ∧ some k_ ≠ (.slice none 0 0 : Value).ownBlock ∧ k_ ≠ gb110 ∧ k_ ≠ gb117) s_.2.1 y135) ∧ (Kd.N (Kd.slice 3 (Kd.int .i64)) 33 w' w.heap.size (fun k_ => (w.heap.size ≤ k_) ∧ some k_ ≠ (.slice none 0 0 : Value).ownBlock ∧ some k_ ≠ (s_.1 : Value).ownBlock ∧ some k_ ≠ (s_.2.1 : Value).ownBlock ∧ some k_ ≠ (s_.2.2.2 : Value).ownBlock ∧ some k_ ≠ (.slice Ao29 x118002_1.length co29 : Value).ownBlock ∧ some k_ ≠ (.slice none 0 0 : Value).ownBlock ∧ k_ ≠ gb110 ∧ k_ ≠ gb117) s_.2.2.1 y138) ∧ (Kd.N (Kd.slice 3 (Kd.int .i64)) 33 w' w.heap.size (fun k_ => (w.heap.size ≤ k_) ∧ some k_ ≠ (.slice none 0 0 : Value).ownBlock ∧ some k_ ≠ (s_.1 : Value).ownBlock ∧ some k_ ≠ (s_.2.1 : Value).ownBlock ∧ some k_ ≠ (.slice Ao29 x118002_1.length co29 : Value).ownBlock ∧ some k_ ≠ (.slice none 0 0 : Value).ownBlock ∧ k_ ≠ gb110 ∧ k_ ≠ gb117) s_.2.2.2 y141) ∧ (Kd.R (Kd.int .i64) 3 w' w.heap.size (fun k_ => (w.heap.size ≤ k_)) (.slice Ao29 x118002_1.length co29) x118002_1) ∧ (Kd.R k30 30 w' w.heap.size (fun k_ => (w.heap.size ≤ k_) ∧ some k_ ≠ (.slice none 0 0 : Value).ownBlock) (.slice none 0 0) ([] : List (S30))) ∧ (w'.heap[gb110]? = some (.cells #[.slice none 0 0, .slice none 0 0, .slice none 0 0] 71 (0, 0))) ∧ (w'.heap[gb117]? = some (.cells #[.slice Ao27 x118000_1.length co27, .slice Ao28 x118001_1.length co28, .slice Ao29 x118002_1.length co29] 71 (0, 0))) ∧ (Below w.heap.size w w')) ?_ ?_
    rotate_left
    ·intro hJ3_4_8_9
     refine join_ (σ := Value × Value × Value × Value) 7 (bl 21 48639) (fun s_ => [(31, s_.1), (32, s_.2.1), (36, s_.2.2.1), (41, s_.2.2.2), (43, .pointer (some ⟨gb117, 0, none⟩))]) (fun s_ w' => (w'.cell? ⟨gb117, 0, none⟩ = some (.slice Ao27 x118000_1.length co27) ∧ w'.cell? ⟨gb117, 1, none⟩ = some (.slice Ao28 x118001_1.length co28) ∧ w'.cell? ⟨gb117, 2, none⟩ = some (.slice Ao29 x118002_1.length co29)) ∧ (Kd.R k30 30 w' w.heap.size (fun k_ => (w.heap.size ≤ k_) ∧ some k_ ≠ (.slice none 0 0 : Value).ownBlock) v130 t122) ∧ (Kd.N (Kd.slice 30 k30) 24 w' w.heap.size (fun k_ => (w.heap.size ≤ k_) ∧ some k_ ≠ (.slice none 0 0 : Value).ownBlock ∧ some k_ ≠ (s_.2.1 : Value).ownBlock ∧ some k_ ≠ (s_.2.2.1 : Value).ownBlock ∧ some k_ ≠ (s_.2.2.2 : Value).ownBlock ∧ some k_ ≠ (.slice Ao28 x118001_1.length co28 : Value).ownBlock ∧ some k_ ≠ (.slice Ao29 x118002_1.length co29 : Value).ownBlock ∧ some k_ ≠ (.slice none 0 0 : Value).ownBlock ∧ k_ ≠ gb110 ∧ k_ ≠ gb117) s_.1 y132) ∧ (Kd.N (Kd.slice 30 k30) 24 w' w.heap.size (fun k_ => (w.heap.size ≤ k_) ∧ some k_ ≠ (.slice none 0 0 : Value).ownBlock ∧ some k_ ≠ (s_.2.2.1 : Value).ownBlock ∧ some k_ ≠ (s_.2.2.2 : Value).ownBlock ∧ some k_ ≠ (.slice Ao28 x118001_1.length co28 : Value).ownBlock ∧ some k_ ≠ (.slice Ao29 x118002_1.length co29 : Value).ownBlock ∧ some k_ ≠ (.slice none 0 0 : Value).ownBlock ∧ k_ ≠ gb110 ∧ k_ ≠ gb117) s_.2.1 y135) ∧ (Kd.N (Kd.slice 3 (Kd.int .i64)) 33 w' w.heap.size (fun k_ => (w.heap.size ≤ k_) ∧ some k_ ≠ (.slice none 0 0 : Value).ownBlock ∧ some k_ ≠ (s_.1 : Value).ownBlock ∧ some k_ ≠ (s_.2.1 : Value).ownBlock ∧ some k_ ≠ (s_.2.2.2 : Value).ownBlock ∧ some k_ ≠ (.slice Ao28 x118001_1.length co28 : Value).ownBlock ∧ some k_ ≠ (.slice Ao29 x118002_1.length co29 : Value).ownBlock ∧ some k_ ≠ (.slice none 0 0 : Value).ownBlock ∧ k_ ≠ gb110 ∧ k_ ≠ gb117) s_.2.2.1 y138) ∧ (Kd.R (Kd.int .i64) 3 w' w.heap.size (fun k_ => (w.heap.size ≤ k_) ∧ some k_ ≠ (.slice Ao29 x118002_1.length co29 : Value).ownBlock) s_.2.2.2 y144) ∧ (Kd.N (Kd.slice 3 (Kd.int .i64)) 33 w' w.heap.size (fun k_ => (w.heap.size ≤ k_) ∧ some k_ ≠ (.slice none 0 0 : Value).ownBlock ∧ some k_ ≠ (s_.1 : Value).ownBlock ∧ some k_ ≠ (s_.2.1 : Value).ownBlock ∧ some k_ ≠ (s_.2.2.1 : Value).ownBlock ∧ some k_ ≠ (s_.2.2.2 : Value).ownBlock ∧ some k_ ≠ (.slice Ao29 x118002_1.length co29 : Value).ownBlock ∧ some k_ ≠ (.slice none 0 0 : Value).ownBlock ∧ k_ ≠ gb110 ∧ k_ ≠ gb117) (.slice Ao28 x118001_1.length co28) x118001_1) ∧ (Kd.R (Kd.int .i64) 3 w' w.heap.size (fun k_ => (w.heap.size ≤ k_) ∧ some k_ ≠ (s_.2.2.2 : Value).ownBlock) (.slice Ao29 x118002_1.length co29) x118002_1) ∧ (Kd.R k30 30 w' w.heap.size (fun k_ => (w.heap.size ≤ k_) ∧ some k_ ≠ (.slice none 0 0 : Value).ownBlock) (.slice none 0 0) ([] : List (S30))) ∧ (w'.heap[gb110]? = some (.cells #[.slice none 0 0, .slice none 0 0, .slice none 0 0] 71 (0, 0))) ∧ (w'.heap[gb117]? = some (.cells #[.slice Ao27 x118000_1.length co27, .slice Ao28 x118001_1.length co28, .slice Ao29 x118002_1.length co29] 71 (0, 0))) ∧ (Below w.heap.size w w')) ?_ ?_
     rotate_left
     ·intro hJ3_4_8_13
      refine join_ (σ := Value × Value × Value) 8 (bl 21 40447) (fun s_ => [(31, s_.1), (32, s_.2.1), (36, s_.2.2), (43, .pointer (some ⟨gb117, 0, none⟩))]) (fun s_ w' => (w'.cell? ⟨gb117, 0, none⟩ = some (.slice Ao27 x118000_1.length co27) ∧ w'.cell? ⟨gb117, 1, none⟩ = some (.slice Ao28 x118001_1.length co28) ∧ w'.cell? ⟨gb117, 2, none⟩ = some (.slice Ao29 x118002_1.length co29)) ∧ (Kd.R k30 30 w' w.heap.size (fun k_ => (w.heap.size ≤ k_) ∧ some k_ ≠ (.slice none 0 0 : Value).ownBlock) v130 t122) ∧ (Kd.N (Kd.slice 30 k30) 24 w' w.heap.size (fun k_ => (w.heap.size ≤ k_) ∧ some k_ ≠ (.slice none 0 0 : Value).ownBlock ∧ some k_ ≠ (s_.2.1 : Value).ownBlock ∧ some k_ ≠ (s_.2.2 : Value).ownBlock ∧ some k_ ≠ (.slice Ao28 x118001_1.length co28 : Value).ownBlock ∧ some k_ ≠ (.slice Ao29 x118002_1.length co29 : Value).ownBlock ∧ some k_ ≠ (.slice none 0 0 : Value).ownBlock ∧ k_ ≠ gb110 ∧ k_ ≠ gb117) s_.1 y132) ∧ (Kd.N (Kd.slice 30 k30) 24 w' w.heap.size (fun k_ => (w.heap.size ≤ k_) ∧ some k_ ≠ (.slice none 0 0 : Value).ownBlock ∧ some k_ ≠ (s_.2.2 : Value).ownBlock ∧ some k_ ≠ (.slice Ao28 x118001_1.length co28 : Value).ownBlock ∧ some k_ ≠ (.slice Ao29 x118002_1.length co29 : Value).ownBlock ∧ some k_ ≠ (.slice none 0 0 : Value).ownBlock ∧ k_ ≠ gb110 ∧ k_ ≠ gb117) s_.2.1 y135) ∧ (Kd.N (Kd.slice 3 (Kd.int .i64)) 33 w' w.heap.size (fun k_ => (w.heap.size ≤ k_) ∧ some k_ ≠ (.slice none 0 0 : Value).ownBlock ∧ some k_ ≠ (s_.1 : Value).ownBlock ∧ some k_ ≠ (s_.2.1 : Value).ownBlock ∧ some k_ ≠ (.slice Ao28 x118001_1.length co28 : Value).ownBlock ∧ some k_ ≠ (.slice Ao29 x118002_1.length co29 : Value).ownBlock ∧ some k_ ≠ (.slice none 0 0 : Value).ownBlock ∧ k_ ≠ gb110 ∧ k_ ≠ gb117) s_.2.2 y138) ∧ (Kd.N (Kd.slice 3 (Kd.int .i64)) 33 w' w.heap.size (fun k_ => (w.heap.size ≤ k_) ∧ some k_ ≠ (.slice none 0 0 : Value).ownBlock ∧ some k_ ≠ (s_.1 : Value).ownBlock ∧ some k_ ≠ (s_.2.1 : Value).ownBlock ∧ some k_ ≠ (s_.2.2 : Value).ownBlock ∧ some k_ ≠ (.slice Ao29 x118002_1.length co29 : Value).ownBlock ∧ some k_ ≠ (.slice none 0 0 : Value).ownBlock ∧ k_ ≠ gb110 ∧ k_ ≠ gb117) (.slice Ao28 x118001_1.length co28) x118001_1) ∧ (Kd.R (Kd.int .i64) 3 w' w.heap.size (fun k_ => (w.heap.size ≤ k_)) (.slice Ao29 x118002_1.length co29) x118002_1) ∧ (Kd.R k30 30 w' w.heap.size (fun k_ => (w.heap.size ≤ k_) ∧ some k_ ≠ (.slice none 0 0 : Value).ownBlock) (.slice none 0 0) ([] : List (S30))) ∧ (w'.heap[gb110]? = some (.cells #[.slice none 0 0, .slice none 0 0, .slice none 0 0] 71 (0, 0))) ∧ (w'.heap[gb117]? = some (.cells #[.slice Ao27 x118000_1.length co27, .slice Ao28 x118001_1.length co28, .slice Ao29 x118002_1.length co29] 71 (0, 0))) ∧ (Below w.heap.size w w')) ?_ ?_
      rotate_left
      ·intro hJ3_4_8
       refine join_ (σ := Value × Value × Value) 8 (bl 21 48383) (fun s_ => [(31, s_.1), (32, s_.2.1), (41, s_.2.2), (43, .pointer (some ⟨gb117, 0, none⟩))]) (fun s_ w' => (w'.cell? ⟨gb117, 0, none⟩ = some (.slice Ao27 x118000_1.length co27) ∧ w'.cell? ⟨gb117, 1, none⟩ = some (.slice Ao28 x118001_1.length co28) ∧ w'.cell? ⟨gb117, 2, none⟩ = some (.slice Ao29 x118002_1.length co29)) ∧ (Kd.R (Kd.int .i64) 3 w' w.heap.size (fun k_ => (w.heap.size ≤ k_) ∧ some k_ ≠ (s_.2.2 : Value).ownBlock ∧ some k_ ≠ (.slice Ao29 x118002_1.length co29 : Value).ownBlock) (.slice Ao99 t123.length co99) t123) ∧ (Kd.R k30 30 w' w.heap.size (fun k_ => (w.heap.size ≤ k_) ∧ some k_ ≠ (.slice none 0 0 : Value).ownBlock) v130 t122) ∧ (Kd.N (Kd.slice 30 k30) 24 w' w.heap.size (fun k_ => (w.heap.size ≤ k_) ∧ some k_ ≠ (.slice Ao99 t123.length co99 : Value).ownBlock ∧ some k_ ≠ (.slice none 0 0 : Value).ownBlock ∧ some k_ ≠ (s_.2.1 : Value).ownBlock ∧ some k_ ≠ (s_.2.2 : Value).ownBlock ∧ some k_ ≠ (.slice Ao28 x118001_1.length co28 : Value).ownBlock ∧ some k_ ≠ (.slice Ao29 x118002_1.length co29 : Value).ownBlock ∧ some k_ ≠ (.slice none 0 0 : Value).ownBlock ∧ k_ ≠ gb110 ∧ k_ ≠ gb117) s_.1 y132) ∧ (Kd.N (Kd.slice 30 k30) 24 w' w.heap.size (fun k_ => (w.heap.size ≤ k_) ∧ some k_ ≠ (.slice Ao99 t123.length co99 : Value).ownBlock ∧ some k_ ≠ (.slice none 0 0 : Value).ownBlock ∧ some k_ ≠ (s_.2.2 : Value).ownBlock ∧ some k_ ≠ (.slice Ao28 x118001_1.length co28 : Value).ownBlock ∧ some k_ ≠ (.slice Ao29 x118002_1.length co29 : Value).ownBlock ∧ some k_ ≠ (.slice none 0 0 : Value).ownBlock ∧ k_ ≠ gb110 ∧ k_ ≠ gb117) s_.2.1 y135) ∧ (Kd.R (Kd.int .i64) 3 w' w.heap.size (fun k_ => (w.heap.size ≤ k_) ∧ some k_ ≠ (.slice Ao99 t123.length co99 : Value).ownBlock ∧ some k_ ≠ (.slice Ao29 x118002_1.length co29 : Value).ownBlock) s_.2.2 y144) ∧ (Kd.N (Kd.slice 3 (Kd.int .i64)) 33 w' w.heap.size (fun k_ => (w.heap.size ≤ k_) ∧ some k_ ≠ (.slice Ao99 t123.length co99 : Value).ownBlock ∧ some k_ ≠ (.slice none 0 0 : Value).ownBlock ∧ some k_ ≠ (s_.1 : Value).ownBlock ∧ some k_ ≠ (s_.2.1 : Value).ownBlock ∧ some k_ ≠ (s_.2.2 : Value).ownBlock ∧ some k_ ≠ (.slice Ao29 x118002_1.length co29 : Value).ownBlock ∧ some k_ ≠ (.slice none 0 0 : Value).ownBlock ∧ k_ ≠ gb110 ∧ k_ ≠ gb117) (.slice Ao28 x118001_1.length co28) x118001_1) ∧ (Kd.R (Kd.int .i64) 3 w' w.heap.size (fun k_ => (w.heap.size ≤ k_) ∧ some k_ ≠ (.slice Ao99 t123.length co99 : Value).ownBlock ∧ some k_ ≠ (s_.2.2 : Value).ownBlock) (.slice Ao29 x118002_1.length co29) x118002_1) ∧ (Kd.R k30 30 w' w.heap.size (fun k_ => (w.heap.size ≤ k_) ∧ some k_ ≠ (.slice none 0 0 : Value).ownBlock) (.slice none 0 0) ([] : List (S30))) ∧ (w'.heap[gb110]? = some (.cells #[.slice none 0 0, .slice none 0 0, .slice none 0 0] 71 (0, 0))) ∧ (w'.heap[gb117]? = some (.cells #[.slice Ao27 x118000_1.length co27, .slice Ao28 x118001_1.length co28, .slice Ao29 x118002_1.length co29] 71 (0, 0))) ∧ (Below w.heap.size w w')) ?_ ?_
       rotate_left
       ·intro hJ3_4_13
        refine join_ (σ := Value × Value × Value) 9 (bl 21 15855) (fun s_ => [(31, s_.1), (36, s_.2.1), (41, s_.2.2)]) (fun s_ w' => (w'.cell? ⟨gb117, 0, none⟩ = some (.slice Ao27 x118000_1.length co27) ∧ w'.cell? ⟨gb117, 1, none⟩ = some (.slice Ao28 x118001_1.length co28) ∧ w'.cell? ⟨gb117, 2, none⟩ = some (.slice Ao29 x118002_1.length co29)) ∧ (Kd.R k30 30 w' w.heap.size (fun k_ => (w.heap.size ≤ k_) ∧ some k_ ≠ (.slice none 0 0 : Value).ownBlock) v130 t122) ∧ (Kd.N (Kd.slice 30 k30) 24 w' w.heap.size (fun k_ => (w.heap.size ≤ k_) ∧ some k_ ≠ (.slice none 0 0 : Value).ownBlock ∧ some k_ ≠ (s_.2.1 : Value).ownBlock ∧ some k_ ≠ (s_.2.2 : Value).ownBlock ∧ some k_ ≠ (.slice Ao27 x118000_1.length co27 : Value).ownBlock ∧ some k_ ≠ (.slice Ao28 x118001_1.length co28 : Value).ownBlock ∧ some k_ ≠ (.slice Ao29 x118002_1.length co29 : Value).ownBlock ∧ some k_ ≠ (.slice none 0 0 : Value).ownBlock ∧ k_ ≠ gb110 ∧ k_ ≠ gb117) s_.1 y132) ∧ (Kd.N (Kd.slice 3 (Kd.int .i64)) 33 w' w.heap.size (fun k_ => (w.heap.size ≤ k_) ∧ some k_ ≠ (.slice none 0 0 : Value).ownBlock ∧ some k_ ≠ (s_.1 : Value).ownBlock ∧ some k_ ≠ (s_.2.2 : Value).ownBlock ∧ some k_ ≠ (.slice Ao27 x118000_1.length co27 : Value).ownBlock ∧ some k_ ≠ (.slice Ao28 x118001_1.length co28 : Value).ownBlock ∧ some k_ ≠ (.slice Ao29 x118002_1.length co29 : Value).ownBlock ∧ some k_ ≠ (.slice none 0 0 : Value).ownBlock ∧ k_ ≠ gb110 ∧ k_ ≠ gb117) s_.2.1 y138) ∧ (Kd.R (Kd.int .i64) 3 w' w.heap.size (fun k_ => (w.heap.size ≤ k_) ∧ some k_ ≠ (.slice Ao29 x118002_1.length co29 : Value).ownBlock) s_.2.2 y144) ∧ (Kd.N (Kd.slice 30 k30) 24 w' w.heap.size (fun k_ => (w.heap.size ≤ k_) ∧ some k_ ≠ (.slice none 0 0 : Value).ownBlock ∧ some k_ ≠ (s_.1 : Value).ownBlock ∧ some k_ ≠ (s_.2.1 : Value).ownBlock ∧ some k_ ≠ (s_.2.2 : Value).ownBlock ∧ some k_ ≠ (.slice Ao28 x118001_1.length co28 : Value).ownBlock ∧ some k_ ≠ (.slice Ao29 x118002_1.length co29 : Value).ownBlock ∧ some k_ ≠ (.slice none 0 0 : Value).ownBlock ∧ k_ ≠ gb110 ∧ k_ ≠ gb117) (.slice Ao27 x118000_1.length co27) x118000_1) ∧ (Kd.N (Kd.slice 3 (Kd.int .i64)) 33 w' w.heap.size (fun k_ => (w.heap.size ≤ k_) ∧ some k_ ≠ (.slice none 0 0 : Value).ownBlock ∧ some k_ ≠ (s_.1 : Value).ownBlock ∧ some k_ ≠ (s_.2.1 : Value).ownBlock ∧ some k_ ≠ (s_.2.2 : Value).ownBlock ∧ some k_ ≠ (.slice Ao27 x118000_1.length co27 : Value).ownBlock ∧ some k_ ≠ (.slice Ao29 x118002_1.length co29 : Value).ownBlock ∧ some k_ ≠ (.slice none 0 0 : Value).ownBlock ∧ k_ ≠ gb110 ∧ k_ ≠ gb117) (.slice Ao28 x118001_1.length co28) x118001_1) ∧ (Kd.R (Kd.int .i64) 3 w' w.heap.size (fun k_ => (w.heap.size ≤ k_) ∧ some k_ ≠ (s_.2.2 : Value).ownBlock) (.slice Ao29 x118002_1.length co29) x118002_1) ∧ (Kd.R k30 30 w' w.heap.size (fun k_ => (w.heap.size ≤ k_) ∧ some k_ ≠ (.slice none 0 0 : Value).ownBlock) (.slice none 0 0) ([] : List (S30))) ∧ (w'.heap[gb110]? = some (.cells #[.slice none 0 0, .slice none 0 0, .slice none 0 0] 71 (0, 0))) ∧ (w'.heap[gb117]? = some (.cells #[.slice Ao27 x118000_1.length co27, .slice Ao28 x118001_1.length co28, .slice Ao29 x118002_1.length co29] 71 (0, 0))) ∧ (Below w.heap.size w w')) ?_ ?_
        rotate_left
        ·intro hJ3_8_13
         refine join_ (σ := Value × Value) 9 (bl 21 40191) (fun s_ => [(31, s_.1), (32, s_.2), (43, .pointer (some ⟨gb117, 0, none⟩))]) (fun s_ w' => (w'.cell? ⟨gb117, 0, none⟩ = some (.slice Ao27 x118000_1.length co27) ∧ w'.cell? ⟨gb117, 1, none⟩ = some (.slice Ao28 x118001_1.length co28) ∧ w'.cell? ⟨gb117, 2, none⟩ = some (.slice Ao29 x118002_1.length co29)) ∧ (Kd.R (Kd.int .i64) 3 w' w.heap.size (fun k_ => (w.heap.size ≤ k_) ∧ some k_ ≠ (.slice Ao29 x118002_1.length co29 : Value).ownBlock) (.slice Ao99 t123.length co99) t123) ∧ (Kd.R k30 30 w' w.heap.size (fun k_ => (w.heap.size ≤ k_) ∧ some k_ ≠ (.slice none 0 0 : Value).ownBlock) v130 t122) ∧ (Kd.N (Kd.slice 30 k30) 24 w' w.heap.size (fun k_ => (w.heap.size ≤ k_) ∧ some k_ ≠ (.slice Ao99 t123.length co99 : Value).ownBlock ∧ some k_ ≠ (.slice none 0 0 : Value).ownBlock ∧ some k_ ≠ (s_.2 : Value).ownBlock ∧ some k_ ≠ (.slice Ao28 x118001_1.length co28 : Value).ownBlock ∧ some k_ ≠ (.slice Ao29 x118002_1.length co29 : Value).ownBlock ∧ some k_ ≠ (.slice none 0 0 : Value).ownBlock ∧ k_ ≠ gb110 ∧ k_ ≠ gb117) s_.1 y132) ∧ (Kd.N (Kd.slice 30 k30) 24 w' w.heap.size (fun k_ => (w.heap.size ≤ k_) ∧ some k_ ≠ (.slice Ao99 t123.length co99 : Value).ownBlock ∧ some k_ ≠ (.slice none 0 0 : Value).ownBlock ∧ some k_ ≠ (.slice Ao28 x118001_1.length co28 : Value).ownBlock ∧ some k_ ≠ (.slice Ao29 x118002_1.length co29 : Value).ownBlock ∧ some k_ ≠ (.slice none 0 0 : Value).ownBlock ∧ k_ ≠ gb110 ∧ k_ ≠ gb117) s_.2 y135) ∧ (Kd.N (Kd.slice 3 (Kd.int .i64)) 33 w' w.heap.size (fun k_ => (w.heap.size ≤ k_) ∧ some k_ ≠ (.slice Ao99 t123.length co99 : Value).ownBlock ∧ some k_ ≠ (.slice none 0 0 : Value).ownBlock ∧ some k_ ≠ (s_.1 : Value).ownBlock ∧ some k_ ≠ (s_.2 : Value).ownBlock ∧ some k_ ≠ (.slice Ao29 x118002_1.length co29 : Value).ownBlock ∧ some k_ ≠ (.slice none 0 0 : Value).ownBlock ∧ k_ ≠ gb110 ∧ k_ ≠ gb117) (.slice Ao28 x118001_1.length co28) x118001_1) ∧ (Kd.R (Kd.int .i64) 3 w' w.heap.size (fun k_ => (w.heap.size ≤ k_) ∧ some k_ ≠ (.slice Ao99 t123.length co99 : Value).ownBlock) (.slice Ao29 x118002_1.length co29) x118002_1) ∧ (Kd.R k30 30 w' w.heap.size (fun k_ => (w.heap.size ≤ k_) ∧ some k_ ≠ (.slice none 0 0 : Value).ownBlock) (.slice none 0 0) ([] : List (S30))) ∧ (w'.heap[gb110]? = some (.cells #[.slice none 0 0, .slice none 0 0, .slice none 0 0] 71 (0, 0))) ∧ (w'.heap[gb117]? = some (.cells #[.slice Ao27 x118000_1.length co27, .slice Ao28 x118001_1.length co28, .slice Ao29 x118002_1.length co29] 71 (0, 0))) ∧ (Below w.heap.size w w')) ?_ ?_
         rotate_left
         ·intro hJ3_4
          refine join_ (σ := Value × Value) 10 (bl 21 7663) (fun s_ => [(31, s_.1), (36, s_.2)]) (fun s_ w' => (w'.cell? ⟨gb117, 0, none⟩ = some (.slice Ao27 x118000_1.length co27) ∧ w'.cell? ⟨gb117, 1, none⟩ = some (.slice Ao28 x118001_1.length co28) ∧ w'.cell? ⟨gb117, 2, none⟩ = some (.slice Ao29 x118002_1.length co29)) ∧ (Kd.R k30 30 w' w.heap.size (fun k_ => (w.heap.size ≤ k_) ∧ some k_ ≠ (.slice none 0 0 : Value).ownBlock) v130 t122) ∧ (Kd.N (Kd.slice 30 k30) 24 w' w.heap.size (fun k_ => (w.heap.size ≤ k_) ∧ some k_ ≠ (.slice none 0 0 : Value).ownBlock ∧ some k_ ≠ (s_.2 : Value).ownBlock ∧ some k_ ≠ (.slice Ao27 x118000_1.length co27 : Value).ownBlock ∧ some k_ ≠ (.slice Ao28 x118001_1.length co28 : Value).ownBlock ∧ some k_ ≠ (.slice Ao29 x118002_1.length co29 : Value).ownBlock ∧ some k_ ≠ (.slice none 0 0 : Value).ownBlock ∧ k_ ≠ gb110 ∧ k_ ≠ gb117) s_.1 y132) ∧ (Kd.N (Kd.slice 3 (Kd.int .i64)) 33 w' w.heap.size (fun k_ => (w.heap.size ≤ k_) ∧ some k_ ≠ (.slice none 0 0 : Value).ownBlock ∧ some k_ ≠ (s_.1 : Value).ownBlock ∧ some k_ ≠ (.slice Ao27 x118000_1.length co27 : Value).ownBlock ∧ some k_ ≠ (.slice Ao28 x118001_1.length co28 : Value).ownBlock ∧ some k_ ≠ (.slice Ao29 x118002_1.length co29 : Value).ownBlock ∧ some k_ ≠ (.slice none 0 0 : Value).ownBlock ∧ k_ ≠ gb110 ∧ k_ ≠ gb117) s_.2 y138) ∧ (Kd.N (Kd.slice 30 k30) 24 w' w.heap.size (fun k_ => (w.heap.size ≤ k_) ∧ some k_ ≠ (.slice none 0 0 : Value).ownBlock ∧ some k_ ≠ (s_.1 : Value).ownBlock ∧ some k_ ≠ (s_.2 : Value).ownBlock ∧ some k_ ≠ (.slice Ao28 x118001_1.length co28 : Value).ownBlock ∧ some k_ ≠ (.slice Ao29 x118002_1.length co29 : Value).ownBlock ∧ some k_ ≠ (.slice none 0 0 : Value).ownBlock ∧ k_ ≠ gb110 ∧ k_ ≠ gb117) (.slice Ao27 x118000_1.length co27) x118000_1) ∧ (Kd.N (Kd.slice 3 (Kd.int .i64)) 33 w' w.heap.size (fun k_ => (w.heap.size ≤ k_) ∧ some k_ ≠ (.slice none 0 0 : Value).ownBlock ∧ some k_ ≠ (s_.1 : Value).ownBlock ∧ some k_ ≠ (s_.2 : Value).ownBlock ∧ some k_ ≠ (.slice Ao27 x118000_1.length co27 : Value).ownBlock ∧ some k_ ≠ (.slice Ao29 x118002_1.length co29 : Value).ownBlock ∧ some k_ ≠ (.slice none 0 0 : Value).ownBlock ∧ k_ ≠ gb110 ∧ k_ ≠ gb117) (.slice Ao28 x118001_1.length co28) x118001_1) ∧ (Kd.R (Kd.int .i64) 3 w' w.heap.size (fun k_ => (w.heap.size ≤ k_)) (.slice Ao29 x118002_1.length co29) x118002_1) ∧ (Kd.R k30 30 w' w.heap.size (fun k_ => (w.heap.size ≤ k_) ∧ some k_ ≠ (.slice none 0 0 : Value).ownBlock) (.slice none 0 0) ([] : List (S30))) ∧ (w'.heap[gb110]? = some (.cells #[.slice none 0 0, .slice none 0 0, .slice none 0 0] 71 (0, 0))) ∧ (w'.heap[gb117]? = some (.cells #[.slice Ao27 x118000_1.length co27, .slice Ao28 x118001_1.length co28, .slice Ao29 x118002_1.length co29] 71 (0, 0))) ∧ (Below w.heap.size w w')) ?_ ?_
          rotate_left
          ·intro hJ3_8
           refine join_ (σ := Value × Value) 10 (bl 21 15599) (fun s_ => [(31, s_.1), (41, s_.2)]) (fun s_ w' => (w'.cell? ⟨gb117, 0, none⟩ = some (.slice Ao27 x118000_1.length co27) ∧ w'.cell? ⟨gb117, 1, none⟩ = some (.slice Ao28 x118001_1.length co28) ∧ w'.cell? ⟨gb117, 2, none⟩ = some (.slice Ao29 x118002_1.length co29)) ∧ (Kd.R (Kd.int .i64) 3 w' w.heap.size (fun k_ => (w.heap.size ≤ k_) ∧ some k_ ≠ (s_.2 : Value).ownBlock ∧ some k_ ≠ (.slice Ao29 x118002_1.length co29 : Value).ownBlock) (.slice Ao99 t123.length co99) t123) ∧ (Kd.R k30 30 w' w.heap.size (fun k_ => (w.heap.size ≤ k_) ∧ some k_ ≠ (.slice none 0 0 : Value).ownBlock) v130 t122) ∧ (Kd.N (Kd.slice 30 k30) 24 w' w.heap.size (fun k_ => (w.heap.size ≤ k_) ∧ some k_ ≠ (.slice Ao99 t123.length co99 : Value).ownBlock ∧ some k_ ≠ (.slice none 0 0 : Value).ownBlock ∧ some k_ ≠ (s_.2 : Value).ownBlock ∧ some k_ ≠ (.slice Ao27 x118000_1.length co27 : Value).ownBlock ∧ some k_ ≠ (.slice Ao28 x118001_1.length co28 : Value).ownBlock ∧ some k_ ≠ (.slice Ao29 x118002_1.length co29 : Value).ownBlock ∧ some k_ ≠ (.slice none 0 0 : Value).ownBlock ∧ k_ ≠ gb110 ∧ k_ ≠ gb117) s_.1 y132) ∧ (Kd.R (Kd.int .i64) 3 w' w.heap.size (fun k_ => (w.heap.size ≤ k_) ∧ some k_ ≠ (.slice Ao99 t123.length co99 : Value).ownBlock ∧ some k_ ≠ (.slice Ao29 x118002_1.length co29 : Value).ownBlock) s_.2 y144) ∧ (Kd.N (Kd.slice 30 k30) 24 w' w.heap.size (fun k_ => (w.heap.size ≤ k_) ∧ some k_ ≠ (.slice Ao99 t123.length co99 : Value).ownBlock ∧ some k_ ≠ (.slice none 0 0 : Value).ownBlock ∧ some k_ ≠ (s_.1 : Value).ownBlock ∧ some k_ ≠ (s_.2 : Value).ownBlock ∧ some k_ ≠ (.slice Ao28 x118001_1.length co28 : Value).ownBlock ∧ some k_ ≠ (.slice Ao29 x118002_1.length co29 : Value).ownBlock ∧ some k_ ≠ (.slice none 0 0 : Value).ownBlock ∧ k_ ≠ gb110 ∧ k_ ≠ gb117) (.slice Ao27 x118000_1.length co27) x118000_1) ∧ (Kd.N (Kd.slice 3 (Kd.int .i64)) 33 w' w.heap.size (fun k_ => (w.heap.size ≤ k_) ∧ some k_ ≠ (.slice Ao99 t123.length co99 : Value).ownBlock ∧ some k_ ≠ (.slice none 0 0 : Value).ownBlock ∧ some k_ ≠ (s_.1 : Value).ownBlock ∧ some k_ ≠ (s_.2 : Value).ownBlock ∧ some k_ ≠ (.slice Ao27 x118000_1.length co27 : Value).ownBlock ∧ some k_ ≠ (.slice Ao29 x118002_1.length co29 : Value).ownBlock ∧ some k_ ≠ (.slice none 0 0 : Value).ownBlock ∧ k_ ≠ gb110 ∧ k_ ≠ gb117) (.slice Ao28 x118001_1.length co28) x118001_1) ∧ (Kd.R (Kd.int .i64) 3 w' w.heap.size (fun k_ => (w.heap.size ≤ k_) ∧ some k_ ≠ (.slice Ao99 t123.length co99 : Value).ownBlock ∧ some k_ ≠ (s_.2 : Value).ownBlock) (.slice Ao29 x118002_1.length co29) x118002_1) ∧ (Kd.R k30 30 w' w.heap.size (fun k_ => (w.heap.size ≤ k_) ∧ some k_ ≠ (.slice none 0 0 : Value).ownBlock) (.slice none 0 0) ([] : List (S30))) ∧ (w'.heap[gb110]? = some (.cells #[.slice none 0 0, .slice none 0 0, .slice none 0 0] 71 (0, 0))) ∧ (w'.heap[gb117]? = some (.cells #[.slice Ao27 x118000_1.length co27, .slice Ao28 x118001_1.length co28, .slice Ao29 x118002_1.length co29] 71 (0, 0))) ∧ (Below w.heap.size w w')) ?_ ?_
           rotate_left
           ·intro hJ3_13
            refine join_ (σ := Value × Value) 10 (bl 21 15847) (fun s_ => [(36, s_.1), (41, s_.2)]) (fun s_ w' => (w'.cell? ⟨gb117, 0, none⟩ = some (.slice Ao27 x118000_1.length co27) ∧ w'.cell? ⟨gb117, 1, none⟩ = some (.slice Ao28 x118001_1.length co28) ∧ w'.cell? ⟨gb117, 2, none⟩ = some (.slice Ao29 x118002_1.length co29)) ∧ (Kd.R k30 30 w' w.heap.size (fun k_ => (w.heap.size ≤ k_) ∧ some k_ ≠ (.slice none 0 0 : Value).ownBlock ∧ some k_ ≠ (.slice none 0 0 : Value).ownBlock) (.slice Ao25 t122.length co25) t122) ∧ (Kd.R k30 30 w' w.heap.size (fun k_ => (w.heap.size ≤ k_) ∧ some k_ ≠ (.slice none 0 0 : Value).ownBlock ∧ some k_ ≠ (.slice none 0 0 : Value).ownBlock) v130 t122) ∧ (Kd.N (Kd.slice 3 (Kd.int .i64)) 33 w' w.heap.size (fun k_ => (w.heap.size ≤ k_) ∧ some k_ ≠ (.slice Ao25 t122.length co25 : Value).ownBlock ∧ some k_ ≠ (.slice none 0 0 : Value).ownBlock ∧ some k_ ≠ (s_.2 : Value).ownBlock ∧ some k_ ≠ (.slice Ao27 x118000_1.length co27 : Value).ownBlock ∧ some k_ ≠ (.slice Ao28 x118001_1.length co28 : Value).ownBlock ∧ some k_ ≠ (.slice Ao29 x118002_1.length co29 : Value).ownBlock ∧ some k_ ≠ (.slice none 0 0 : Value).ownBlock ∧ k_ ≠ gb110 ∧ k_ ≠ gb117) s_.1 y138) ∧ (Kd.R (Kd.int .i64) 3 w' w.heap.size (fun k_ => (w.heap.size ≤ k_) ∧ some k_ ≠ (.slice Ao29 x118002_1.length co29 : Value).ownBlock) s_.2 y144) ∧ (Kd.N (Kd.slice 30 k30) 24 w' w.heap.size (fun k_ => (w.heap.size ≤ k_) ∧ some k_ ≠ (.slice Ao25 t122.length co25 : Value).ownBlock ∧ some k_ ≠ (.slice none 0 0 : Value).ownBlock ∧ some k_ ≠ (s_.1 : Value).ownBlock ∧ some k_ ≠ (s_.2 : Value).ownBlock ∧ some k_ ≠ (.slice Ao28 x118001_1.length co28 : Value).ownBlock ∧ some k_ ≠ (.slice Ao29 x118002_1.length co29 : Value).ownBlock ∧ some k_ ≠ (.slice none 0 0 : Value).ownBlock ∧ k_ ≠ gb110 ∧ k_ ≠ gb117) (.slice Ao27 x118000_1.length co27) x118000_1) ∧ (Kd.N (Kd.slice 3 (Kd.int .i64)) 33 w' w.heap.size (fun k_ => (w.heap.size ≤ k_) ∧ some k_ ≠ (.slice Ao25 t122.length co25 : Value).ownBlock ∧ some k_ ≠ (.slice none 0 0 : Value).ownBlock ∧ some k_ ≠ (s_.1 : Value).ownBlock ∧ some k_ ≠ (s_.2 : Value).ownBlock ∧ some k_ ≠ (.slice Ao27 x118000_1.length co27 : Value).ownBlock ∧ some k_ ≠ (.slice Ao29 x118002_1.length co29 : Value).ownBlock ∧ some k_ ≠ (.slice none 0 0 : Value).ownBlock ∧ k_ ≠ gb110 ∧ k_ ≠ gb117) (.slice Ao28 x118001_1.length co28) x118001_1) ∧ (Kd.R (Kd.int .i64) 3 w' w.heap.size (fun k_ => (w.heap.size ≤ k_) ∧ some k_ ≠ (s_.2 : Value).ownBlock) (.slice Ao29 x118002_1.length co29) x118002_1) ∧ (Kd.R k30 30 w' w.heap.size (fun k_ => (w.heap.size ≤ k_) ∧ some k_ ≠ (.slice Ao25 t122.length co25 : Value).ownBlock ∧ some k_ ≠ (.slice none 0 0 : Value).ownBlock) (.slice none 0 0) ([] : List (S30))) ∧ (w'.heap[gb110]? = some (.cells #[.slice none 0 0, .slice none 0 0, .slice none 0 0] 71 (0, 0))) ∧ (w'.heap[gb117]? = some (.cells #[.slice Ao27 x118000_1.length co27, .slice Ao28 x118001_1.length co28, .slice Ao29 x118002_1.length co29] 71 (0, 0))) ∧ (Below w.heap.size w w')) ?_ ?_
            rotate_left
            ·intro hJ8_13
             refine join_ (σ := Value) 11 (bl 21 7407) (fun s_ => [(31, s_)]) (fun s_ w' => (w'.cell? ⟨gb117, 0, none⟩ = some (.slice Ao27 x118000_1.length co27) ∧ w'.cell? ⟨gb117, 1, none⟩ = some (.slice Ao28 x118001_1.length co28) ∧ w'.cell? ⟨gb117, 2, none⟩ = some (.slice Ao29 x118002_1.length co29)) ∧ (Kd.R (Kd.int .i64) 3 w' w.heap.size (fun k_ => (w.heap.size ≤ k_) ∧ some k_ ≠ (.slice Ao29 x118002_1.length co29 : Value).ownBlock) (.slice Ao99 t123.length co99) t123) ∧ (Kd.R k30 30 w' w.heap.size (fun k_ => (w.heap.size ≤ k_) ∧ some k_ ≠ (.slice none 0 0 : Value).ownBlock) v130 t122) ∧ (Kd.N (Kd.slice 30 k30) 24 w' w.heap.size (fun k_ => (w.heap.size ≤ k_) ∧ some k_ ≠ (.slice Ao99 t123.length co99 : Value).ownBlock ∧ some k_ ≠ (.slice none 0 0 : Value).ownBlock ∧ some k_ ≠ (.slice Ao27 x118000_1.length co27 : Value).ownBlock ∧ some k_ ≠ (.slice Ao28 x118001_1.length co28 : Value).ownBlock ∧ some k_ ≠ (.slice Ao29 x118002_1.length co29 : Value).ownBlock ∧ some k_ ≠ (.slice none 0 0 : Value).ownBlock ∧ k_ ≠ gb110 ∧ k_ ≠ gb117) s_ y132) ∧ (Kd.N (Kd.slice 30 k30) 24 w' w.heap.size (fun k_ => (w.heap.size ≤ k_) ∧ some k_ ≠ (.slice Ao99 t123.length co99 : Value).ownBlock ∧ some k_ ≠ (.slice none 0 0 : Value).ownBlock ∧ some k_ ≠ (s_ : Value).ownBlock ∧ some k_ ≠ (.slice Ao28 x118001_1.length co28 : Value).ownBlock ∧ some k_ ≠ (.slice Ao29 x118002_1.length co29 : Value).ownBlock ∧ some k_ ≠ (.slice none 0 0 : Value).ownBlock ∧ k_ ≠ gb110 ∧ k_ ≠ gb117) (.slice Ao27 x118000_1.length co27) x118000_1) ∧ (Kd.N (Kd.slice 3 (Kd.int .i64)) 33 w' w.heap.size (fun k_ => (w.heap.size ≤ k_) ∧ some k_ ≠ (.slice Ao99 t123.length co99 : Value).ownBlock ∧ some k_ ≠ (.slice none 0 0 : Value).ownBlock ∧ some k_ ≠ (s_ : Value).ownBlock ∧ some k_ ≠ (.slice Ao27 x118000_1.length co27 : Value).ownBlock ∧ some k_ ≠ (.slice Ao29 x118002_1.length co29 : Value).ownBlock ∧ some k_ ≠ (.slice none 0 0 : Value).ownBlock ∧ k_ ≠ gb110 ∧ k_ ≠ gb117) (.slice Ao28 x118001_1.length co28) x118001_1) ∧ (Kd.R (Kd.int .i64) 3 w' w.heap.size (fun k_ => (w.heap.size ≤ k_) ∧ some k_ ≠ (.slice Ao99 t123.length co99 : Value).ownBlock) (.slice Ao29 x118002_1.length co29) x118002_1) ∧ (Kd.R k30 30 w' w.heap.size (fun k_ => (w.heap.size ≤ k_) ∧ some k_ ≠ (.slice none 0 0 : Value).ownBlock) (.slice none 0 0) ([] : List (S30))) ∧ (w'.heap[gb110]? = some (.cells #[.slice none 0 0, .slice none 0 0, .slice none 0 0] 71 (0, 0))) ∧ (w'.heap[gb117]? = some (.cells #[.slice Ao27 x118000_1.length co27, .slice Ao28 x118001_1.length co28, .slice Ao29 x118002_1.length co29] 71 (0, 0))) ∧ (Below w.heap.size w w')) ?_ ?_
             rotate_left
             ·intro hJ3
              refine join_ (σ := Value) 11 (bl 21 7655) (fun s_ => [(36, s_)]) (fun s_ w' => (w'.cell? ⟨gb117, 0, none⟩ = some (.slice Ao27 x118000_1.length co27) ∧ w'.cell? ⟨gb117, 1, none⟩ = some (.slice Ao28 x118001_1.length co28) ∧ w'.cell? ⟨gb117, 2, none⟩ = some (.slice Ao29 x118002_1.length co29)) ∧ (Kd.R k30 30 w' w.heap.size (fun k_ => (w.heap.size ≤ k_) ∧ some k_ ≠ (.slice none 0 0 : Value).ownBlock ∧ some k_ ≠ (.slice none 0 0 : Value).ownBlock) (.slice Ao25 t122.length co25) t122) ∧ (Kd.R k30 30 w' w.heap.size (fun k_ => (w.heap.size ≤ k_) ∧ some k_ ≠ (.slice none 0 0 : Value).ownBlock ∧ some k_ ≠ (.slice none 0 0 : Value).ownBlock) v130 t122) ∧ (Kd.N (Kd.slice 3 (Kd.int .i64)) 33 w' w.heap.size (fun k_ => (w.heap.size ≤ k_) ∧ some k_ ≠ (.slice Ao25 t122.length co25 : Value).ownBlock ∧ some k_ ≠ (.slice none 0 0 : Value).ownBlock ∧ some k_ ≠ (.slice Ao27 x118000_1.length co27 : Value).ownBlock ∧ some k_ ≠ (.slice Ao28 x118001_1.length co28 : Value).ownBlock ∧ some k_ ≠ (.slice Ao29 x118002_1.length co29 : Value).ownBlock ∧ some k_ ≠ (.slice none 0 0 : Value).ownBlock ∧ k_ ≠ gb110 ∧ k_ ≠ gb117) s_ y138) ∧ (Kd.N (Kd.slice 30 k30) 24 w' w.heap.size (fun k_ => (w.heap.size ≤ k_) ∧ some k_ ≠ (.slice Ao25 t122.length co25 : Value).ownBlock ∧ some k_ ≠ (.slice none 0 0 : Value).ownBlock ∧ some k_ ≠ (s_ : Value).ownBlock ∧ some k_ ≠ (.slice Ao28 x118001_1.length co28 : Value).ownBlock ∧ some k_ ≠ (.slice Ao29 x118002_1.length co29 : Value).ownBlock ∧ some k_ ≠ (.slice none 0 0 : Value).ownBlock ∧ k_ ≠ gb110 ∧ k_ ≠ gb117) (.slice Ao27 x118000_1.length co27) x118000_1) ∧ (Kd.N (Kd.slice 3 (Kd.int .i64)) 33 w' w.heap.size (fun k_ => (w.heap.size ≤ k_) ∧ some k_ ≠ (.slice Ao25 t122.length co25 : Value).ownBlock ∧ some k_ ≠ (.slice none 0 0 : Value).ownBlock ∧ some k_ ≠ (s_ : Value).ownBlock ∧ some k_ ≠ (.slice Ao27 x118000_1.length co27 : Value).ownBlock ∧ some k_ ≠ (.slice Ao29 x118002_1.length co29 : Value).ownBlock ∧ some k_ ≠ (.slice none 0 0 : Value).ownBlock ∧ k_ ≠ gb110 ∧ k_ ≠ gb117) (.slice Ao28 x118001_1.length co28) x118001_1) ∧ (Kd.R (Kd.int .i64) 3 w' w.heap.size (fun k_ => (w.heap.size ≤ k_)) (.slice Ao29 x118002_1.length co29) x118002_1) ∧ (Kd.R k30 30 w' w.heap.size (fun k_ => (w.heap.size ≤ k_) ∧ some k_ ≠ (.slice Ao25 t122.length co25 : Value).ownBlock ∧ some k_ ≠ (.slice none 0 0 : Value).ownBlock) (.slice none 0 0) ([] : List (S30))) ∧ (w'.heap[gb110]? = some (.cells #[.slice none 0 0, .slice none 0 0, .slice none 0 0] 71 (0, 0))) ∧ (w'.heap[gb117]? = some (.cells #[.slice Ao27 x118000_1.length co27, .slice Ao28 x118001_1.length co28, .slice Ao29 x118002_1.length co29] 71 (0, 0))) ∧ (Below w.heap.size w w')) ?_ ?_
              rotate_left
              ·intro hJ8
               refine join_ (σ := Value) 11 (bl 21 15591) (fun s_ => [(41, s_)]) (fun s_ w' => (w'.cell? ⟨gb117, 0, none⟩ = some (.slice Ao27 x118000_1.length co27) ∧ w'.cell? ⟨gb117, 1, none⟩ = some (.slice Ao28 x118001_1.length co28) ∧ w'.cell? ⟨gb117, 2, none⟩ = some (.slice Ao29 x118002_1.length co29)) ∧ (Kd.R k30 30 w' w.heap.size (fun k_ => (w.heap.size ≤ k_) ∧ some k_ ≠ (.slice none 0 0 : Value).ownBlock ∧ some k_ ≠ (.slice none 0 0 : Value).ownBlock) (.slice Ao25 t122.length co25) t122) ∧ (Kd.R (Kd.int .i64) 3 w' w.heap.size (fun k_ => (w.heap.size ≤ k_) ∧ some k_ ≠ (s_ : Value).ownBlock ∧ some k_ ≠ (.slice Ao29 x118002_1.length co29 : Value).ownBlock) (.slice Ao99 t123.length co99) t123) ∧ (Kd.R k30 30 w' w.heap.size (fun k_ => (w.heap.size ≤ k_) ∧ some k_ ≠ (.slice none 0 0 : Value).ownBlock ∧ some k_ ≠ (.slice none 0 0 : Value).ownBlock) v130 t122) ∧ (Kd.R (Kd.int .i64) 3 w' w.heap.size (fun k_ => (w.heap.size ≤ k_) ∧ some k_ ≠ (.slice Ao99 t123.length co99 : Value).ownBlock ∧ some k_ ≠ (.slice Ao29 x118002_1.length co29 : Value).ownBlock) s_ y144) ∧ (Kd.N (Kd.slice 30 k30) 24 w' w.heap.size (fun k_ => (w.heap.size ≤ k_) ∧ some k_ ≠ (.slice Ao25 t122.length co25 : Value).ownBlock ∧ some k_ ≠ (.slice Ao99 t123.length co99 : Value).ownBlock ∧ some k_ ≠ (.slice none 0 0 : Value).ownBlock ∧ some k_ ≠ (s_ : Value).ownBlock ∧ some k_ ≠ (.slice Ao28 x118001_1.length co28 : Value).ownBlock ∧ some k_ ≠ (.slice Ao29 x118002_1.length co29 : Value).ownBlock ∧ some k_ ≠ (.slice none 0 0 : Value).ownBlock ∧ k_ ≠ gb110 ∧ k_ ≠ gb117) (.slice Ao27 x118000_1.length co27) x118000_1) ∧ (Kd.N (Kd.slice 3 (Kd.int .i64)) 33 w' w.heap.size (fun k_ => (w.heap.size ≤ k_) ∧ some k_ ≠ (.slice Ao25 t122.length co25 : Value).ownBlock ∧ some k_ ≠ (.slice Ao99 t123.length co99 : Value).ownBlock ∧ some k_ ≠ (.slice none 0 0 : Value).ownBlock ∧ some k_ ≠ (s_ : Value).ownBlock ∧ some k_ ≠ (.slice Ao27 x118000_1.length co27 : Value).ownBlock ∧ some k_ ≠ (.slice Ao29 x118002_1.length co29 : Value).ownBlock ∧ some k_ ≠ (.slice none 0 0 : Value).ownBlock ∧ k_ ≠ gb110 ∧ k_ ≠ gb117) (.slice Ao28 x118001_1.length co28) x118001_1) ∧ (Kd.R (Kd.int .i64) 3 w' w.heap.size (fun k_ => (w.heap.size ≤ k_) ∧ some k_ ≠ (.slice Ao99 t123.length co99 : Value).ownBlock ∧ some k_ ≠ (s_ : Value).ownBlock) (.slice Ao29 x118002_1.length co29) x118002_1) ∧ (Kd.R k30 30 w' w.heap.size (fun k_ => (w.heap.size ≤ k_) ∧ some k_ ≠ (.slice Ao25 t122.length co25 : Value).ownBlock ∧ some k_ ≠ (.slice none 0 0 : Value).ownBlock) (.slice none 0 0) ([] : List (S30))) ∧ (w'.heap[gb110]? = some (.cells #[.slice none 0 0, .slice none 0 0, .slice none 0 0] 71 (0, 0))) ∧ (w'.heap[gb117]? = some (.cells #[.slice Ao27 x118000_1.length co27, .slice Ao28 x118001_1.length co28, .slice Ao29 x118002_1.length co29] 71 (0, 0))) ∧ (Below w.heap.size w w')) ?_ ?_
               rotate_left
               ·intro hJ13
                refine three_ (i := 3) (j := 8) (k := 13) (Ni := some 31) (Nj := some 36) (Nk := some 41) (bl 21 7407) (bl 21 7655) (bl 21 15591) rfl rfl rfl rfl rfl rfl (three_of HT_.out (by kernel_rfl)) (by decide) (by decide) (by decide) (fun K hK => ?_) (fun K hK => ?_) (fun K hK => ?_)
                ·skip
                 refine Kd.N_lit_step (Kd.slice 30 k30) _ 24 ?hg (N' := 31) ?hd (xs := ([t122] : List (List (S30)))) (inner := [.slice Ao25 t122.length co25]) (ok := (fun k_ => (w.heap.size ≤ k_) ∧ some k_ ≠ (.slice none 0 0 : Value).ownBlock ∧ some k_ ≠ (.slice Ao27 x118000_1.length co27 : Value).ownBlock ∧ some k_ ≠ (.slice Ao28 x118001_1.length co28 : Value).ownBlock ∧ some k_ ≠ (.slice Ao29 x118002_1.length co29 : Value).ownBlock ∧ some k_ ≠ (.slice Ao99 t123.length co99 : Value).ownBlock ∧ some k_ ≠ (.slice none 0 0 : Value).ownBlock ∧ k_ ≠ gb110 ∧ k_ ≠ gb117)) (okp := (fun k_ => (w.heap.size ≤ k_) ∧ some k_ ≠ (.slice none 0 0 : Value).ownBlock ∧ some k_ ≠ (.slice Ao27 x118000_1.length co27 : Value).ownBlock ∧ some k_ ≠ (.slice Ao28 x118001_1.length co28 : Value).ownBlock ∧ some k_ ≠ (.slice Ao29 x118002_1.length co29 : Value).ownBlock ∧ some k_ ≠ (.slice Ao99 t123.length co99 : Value).ownBlock ∧ some k_ ≠ (.slice none 0 0 : Value).ownBlock ∧ k_ ≠ gb110 ∧ k_ ≠ gb117)) ?hr ?hp (fun _ hk => hk) ((show ∀ k_, w30.heap.size ≤ k_ → (fun k_ => (w.heap.size ≤ k_) ∧ some k_ ≠ (.slice none 0 0 : Value).ownBlock ∧ some k_ ≠ (.slice Ao27 x118000_1.length co27 : Value).ownBlock ∧ some k_ ≠ (.slice Ao28 x118001_1.length co28 : Value).ownBlock ∧ some k_ ≠ (.slice Ao29 x118002_1.length co29 : Value).ownBlock ∧ some k_ ≠ (.slice Ao99 t123.length co99 : Value).ownBlock ∧ some k_ ≠ (.slice none 0 0 : Value).ownBlock ∧ k_ ≠ gb110 ∧ k_ ≠ gb117) k_ from fun k_ hk => ⟨(Nat.le_trans (below_size (bw HB)) hk), Kd.fresh' (Kd.R_lt (rk HO_64)) k_ hk, Kd.fresh' (Kd.N_lt HO_118000.out) k_ hk, Kd.fresh' (Kd.N_lt HO_118001.out) k_ hk, Kd.fresh' (Kd.R_lt (rk HO_118002)) k_ hk, Kd.fresh' (Kd.R_lt (rk HO128)) k_ hk, (by simp [Value.ownBlock]), Kd.freshB (g := gb110) (o := .cells #[.slice none 0 0, .slice none 0 0, .slice none 0 0] 71 (0, 0)) (bk BK110) k_ hk, Kd.freshB (g := gb117) (o := .cells #[.slice Ao27 x118000_1.length co27, .slice Ao28 x118001_1.length co28, .slice Ao29 x118002_1.length co29] 71 (0, 0)) (bk BK117) k_ hk⟩) _ (Nat.le_refl _)) (Below.refl _ _) (Nat.le_refl _) (by simp) ?_; (case hd => rfl); (case hg => rfl); (case hr => first | (go_simp; done) | (go_simp; rfl)); (case hp => exact (Reps.one (show Kd.FK (Kd.slice 30 k30) _ _ t122 [.slice Ao25 t122.length co25] from (Kd.FK_slice_mk (Kd.R_reads' (Kd.R_mono (ok' := (fun k_ => (w.heap.size ≤ k_) ∧ some k_ ≠ (.slice none 0 0 : Value).ownBlock ∧ some k_ ≠ (.slice Ao27 x118000_1.length co27 : Value).ownBlock ∧ some k_ ≠ (.slice Ao28 x118001_1.length co28 : Value).ownBlock ∧ some k_ ≠ (.slice Ao29 x118002_1.length co29 : Value).ownBlock ∧ some k_ ≠ (.slice Ao99 t123.length co99 : Value).ownBlock ∧ some k_ ≠ (.slice none 0 0 : Value).ownBlock ∧ k_ ≠ gb110 ∧ k_ ≠ gb117)) (Kd.R_types (Kd.R_types (Kd.R_apart' (Kd.R_apart' (Kd.R_apart' (Kd.R_apart' (HO126.out) (Kd.N_typed HO_118000.out) (by decide)) (Kd.N_typed HO_118001.out) (by decide)) (Kd.R_typed HO_118002.out) (by decide)) (Kd.R_typed HO128.out) (by decide)) BK110.out (by decide)) BK117.out (by decide)) (fun k_ hk => ⟨hk.1.1.1.1.1.1.1.1.1, ⟨hk.1.1.1.1.1.1.1.2, ⟨hk.1.1.1.1.1.2, ⟨hk.1.1.1.1.2, ⟨hk.1.1.1.2, ⟨hk.1.1.2, ⟨hk.1.1.1.1.1.1.2, ⟨hk.1.2, hk.2⟩⟩⟩⟩⟩⟩⟩⟩))).2.1 (Kd.R_F (Kd.R_mono (ok' := (fun k_ => (w.heap.size ≤ k_) ∧ some k_ ≠ (.slice none 0 0 : Value).ownBlock ∧ some k_ ≠ (.slice Ao27 x118000_1.length co27 : Value).ownBlock ∧ some k_ ≠ (.slice Ao28 x118001_1.length co28 : Value).ownBlock ∧ some k_ ≠ (.slice Ao29 x118002_1.length co29 : Value).ownBlock ∧ some k_ ≠ (.slice Ao99 t123.length co99 : Value).ownBlock ∧ some k_ ≠ (.slice none 0 0 : Value).ownBlock ∧ k_ ≠ gb110 ∧ k_ ≠ gb117)) (Kd.R_types (Kd.R_types (Kd.R_apart' (Kd.R_apart' (Kd.R_apart' (Kd.R_apart' (HO126.out) (Kd.N_typed HO_118000.out) (by decide)) (Kd.N_typed HO_118001.out) (by decide)) (Kd.R_typed HO_118002.out) (by decide)) (Kd.R_typed HO128.out) (by decide)) BK110.out (by decide)) BK117.out (by decide)) (fun k_ hk => ⟨hk.1.1.1.1.1.1.1.1.1, ⟨hk.1.1.1.1.1.1.1.2, ⟨hk.1.1.1.1.1.2, ⟨hk.1.1.1.1.2, ⟨hk.1.1.1.2, ⟨hk.1.1.2, ⟨hk.1.1.1.1.1.1.2, ⟨hk.1.2, hk.2⟩⟩⟩⟩⟩⟩⟩⟩))))) (Reps.none _ _)))
                 intro v133 w31 ho32 hb hg_ hnew_
                 clear hg_ hnew_
                 (first | rw [← Ny132.out] at ho32 | (simp only [Int.reduceToNat] at ho32; rw [← Ny132.out] at ho32))
                 have n0_ := rb HO_64 hb
                 have n1_ := Aside0.mk (Kd.N_elder' HO_118000.out (Kd.N_base ho32) hb)
                 have n2_ := Aside0.mk (Kd.N_elder' HO_118001.out (Kd.N_base ho32) hb)
                 have n3_ := rb HO_118002 hb
                 have n4_ := rb HO128 hb
                 have n5_ := rb HO131 hb
                 have n6_ := Aside0.mk (Kd.N_lower ho32 (below_size (bw HB)))
                 have n7_ := bb BK110 hb
                 have n8_ := bb BK117 hb
                 have n9_ := bs HB hb
                 clear HO_64
                 clear HO_118000
                 clear HO_118001
                 clear HO_118002
                 clear HO128
                 clear HO131
                 clear BK110
                 clear BK117
                 clear HB
                 clear HO126
                 have HO_64 := n0_
                 have HO_118000 := n1_
                 have HO_118001 := n2_
                 have HO_118002 := n3_
                 have HO128 := n4_
                 have HO131 := n5_
                 have HO134 := n6_
                 have BK110 := n7_
                 have BK117 := n8_
                 have HB := n9_
                 clear n0_ n1_ n2_ n3_ n4_ n5_ n6_ n7_ n8_ n9_
                 clear hb ho32
                 refine hK.out _ _ ⟨bc0 BK117, bc1 BK117, bc2 BK117⟩ (fun hHeld => ?_)
                 clear hK K
                 refine norm_ (a' := ?_) ?_ ?_; rotate_left; (show Act.put _ (some 31) _ = _; simp only [sqa, sqb, sqc, sqd, i64_w, i32_w]; rfl)
                 exact norm_ (by first | (simp only [putAll, Act.put, List.setIfInBounds_toArray, List.set_cons_zero, List.set_cons_succ]; done) | (simp only [putAll, Act.put, List.setIfInBounds_toArray, List.set_cons_zero, List.set_cons_succ]; rfl)) (hJ3 (v133) _ ⟨hHeld, (by exact Kd.R_mono HO128.out (fun _ hk => ⟨hk.1.1, hk.2⟩)), (by exact Kd.R_mono HO131.out (fun _ hk => ⟨hk.1.1.1, hk.1.2⟩)), (by exact Kd.N_mono HO134.out (fun _ hk => ⟨hk.1, ⟨hk.2.2.2.2.2.1, ⟨hk.2.2.2.2.2.2.1, ⟨hk.2.2.1, ⟨hk.2.2.2.1, ⟨hk.2.2.2.2.1, ⟨hk.2.1, ⟨hk.2.2.2.2.2.2.2.1, hk.2.2.2.2.2.2.2.2⟩⟩⟩⟩⟩⟩⟩⟩)), (by exact Kd.N_mono HO_118000.out (fun _ hk => ⟨hk.1.1.1.1.1, ⟨hk.1.1.2, ⟨hk.1.2, ⟨hk.2, ⟨hk.1.1.1.1.2.2.1, ⟨hk.1.1.1.1.2.2.2.1, ⟨hk.1.1.1.1.2.1, ⟨hk.1.1.1.1.2.2.2.2.1, hk.1.1.1.1.2.2.2.2.2⟩⟩⟩⟩⟩⟩⟩⟩)), (by exact Kd.N_mono HO_118001.out (fun _ hk => ⟨hk.1.1.1.1.1, ⟨hk.1.1.2, ⟨hk.1.2, ⟨hk.2, ⟨hk.1.1.1.1.2.2.1, ⟨hk.1.1.1.1.2.2.2.1, ⟨hk.1.1.1.1.2.1, ⟨hk.1.1.1.1.2.2.2.2.1, hk.1.1.1.1.2.2.2.2.2⟩⟩⟩⟩⟩⟩⟩⟩)), (rk HO_118002), (by exact Kd.R_mono HO_64.out (fun _ hk => ⟨hk.1.1, hk.2⟩)), (bk BK110), (bk BK117), (bw HB)⟩)
                ·skip
                 refine Kd.N_lit_step (Kd.slice 3 (Kd.int .i64)) _ 33 ?hg (N' := 36) ?hd (xs := ([t123] : List (List Int))) (inner := [.slice Ao99 t123.length co99]) (ok := (fun k_ => (w.heap.size ≤ k_) ∧ some k_ ≠ (.slice none 0 0 : Value).ownBlock ∧ some k_ ≠ (.slice Ao27 x118000_1.length co27 : Value).ownBlock ∧ some k_ ≠ (.slice Ao28 x118001_1.length co28 : Value).ownBlock ∧ some k_ ≠ (.slice Ao29 x118002_1.length co29 : Value).ownBlock ∧ some k_ ≠ (.slice Ao25 t122.length co25 : Value).ownBlock ∧ some k_ ≠ (.slice none 0 0 : Value).ownBlock ∧ k_ ≠ gb110 ∧ k_ ≠ gb117)) (okp := (fun k_ => (w.heap.size ≤ k_) ∧ some k_ ≠ (.slice none 0 0 : Value).ownBlock ∧ some k_ ≠ (.slice Ao27 x118000_1.length co27 : Value).ownBlock ∧ some k_ ≠ (.slice Ao28 x118001_1.length co28 : Value).ownBlock ∧ some k_ ≠ (.slice Ao29 x118002_1.length co29 : Value).ownBlock ∧ some k_ ≠ (.slice Ao25 t122.length co25 : Value).ownBlock ∧ some k_ ≠ (.slice none 0 0 : Value).ownBlock ∧ k_ ≠ gb110 ∧ k_ ≠ gb117)) ?hr ?hp (fun _ hk => hk) ((show ∀ k_, w30.heap.size ≤ k_ → (fun k_ => (w.heap.size ≤ k_) ∧ some k_ ≠ (.slice none 0 0 : Value).ownBlock ∧ some k_ ≠ (.slice Ao27 x118000_1.length co27 : Value).ownBlock ∧ some k_ ≠ (.slice Ao28 x118001_1.length co28 : Value).ownBlock ∧ some k_ ≠ (.slice Ao29 x118002_1.length co29 : Value).ownBlock ∧ some k_ ≠ (.slice Ao25 t122.length co25 : Value).ownBlock ∧ some k_ ≠ (.slice none 0 0 : Value).ownBlock ∧ k_ ≠ gb110 ∧ k_ ≠ gb117) k_ from fun k_ hk => ⟨(Nat.le_trans (below_size (bw HB)) hk), Kd.fresh' (Kd.R_lt (rk HO_64)) k_ hk, Kd.fresh' (Kd.N_lt HO_118000.out) k_ hk, Kd.fresh' (Kd.N_lt HO_118001.out) k_ hk, Kd.fresh' (Kd.R_lt (rk HO_118002)) k_ hk, Kd.fresh' (Kd.R_lt (rk HO126)) k_ hk, (by simp [Value.ownBlock]), Kd.freshB (g := gb110) (o := .cells #[.slice none 0 0, .slice none 0 0, .slice none 0 0] 71 (0, 0)) (bk BK110) k_ hk, Kd.freshB (g := gb117) (o := .cells #[.slice Ao27 x118000_1.length co27, .slice Ao28 x118001_1.length co28, .slice Ao29 x118002_1.length co29] 71 (0, 0)) (bk BK117) k_ hk⟩) _ (Nat.le_refl _)) (Below.refl _ _) (Nat.le_refl _) (by simp) ?_; (case hd => rfl); (case hg => rfl); (case hr => first | (go_simp; done) | (go_simp; rfl)); (case hp => exact (Reps.one (show Kd.FK (Kd.slice 3 (Kd.int .i64)) _ _ t123 [.slice Ao99 t123.length co99] from (Kd.FK_slice_mk (Kd.R_reads' (Kd.R_mono (ok' := (fun k_ => (w.heap.size ≤ k_) ∧ some k_ ≠ (.slice none 0 0 : Value).ownBlock ∧ some k_ ≠ (.slice Ao27 x118000_1.length co27 : Value).ownBlock ∧ some k_ ≠ (.slice Ao28 x118001_1.length co28 : Value).ownBlock ∧ some k_ ≠ (.slice Ao29 x118002_1.length co29 : Value).ownBlock ∧ some k_ ≠ (.slice Ao25 t122.length co25 : Value).ownBlock ∧ some k_ ≠ (.slice none 0 0 : Value).ownBlock ∧ k_ ≠ gb110 ∧ k_ ≠ gb117)) (Kd.R_types (Kd.R_types (Kd.R_apart' (Kd.R_apart' (Kd.R_apart' (Kd.R_apart' (Kd.R_apart' (HO128.out) (Kd.R_typed HO_64.out) (by decide)) (Kd.N_typed HO_118000.out) (by decide)) (Kd.N_typed HO_118001.out) (by decide)) (Kd.R_typed HO126.out) (by decide)) (Kd.R_typed (Kd.R_nil k30 30 _ 0 (fun _ => True))) (by decide)) BK110.out (by decide)) BK117.out (by decide)) (fun k_ hk => ⟨hk.1.1.1.1.1.1.1.1.1, ⟨hk.1.1.1.1.1.1.2, ⟨hk.1.1.1.1.1.2, ⟨hk.1.1.1.1.2, ⟨hk.1.1.1.1.1.1.1.2, ⟨hk.1.1.1.2, ⟨hk.1.1.2, ⟨hk.1.2, hk.2⟩⟩⟩⟩⟩⟩⟩⟩))).2.1 (Kd.R_F (Kd.R_mono (ok' := (fun k_ => (w.heap.size ≤ k_) ∧ some k_ ≠ (.slice none 0 0 : Value).ownBlock ∧ some k_ ≠ (.slice Ao27 x118000_1.length co27 : Value).ownBlock ∧ some k_ ≠ (.slice Ao28 x118001_1.length co28 : Value).ownBlock ∧ some k_ ≠ (.slice Ao29 x118002_1.length co29 : Value).ownBlock ∧ some k_ ≠ (.slice Ao25 t122.length co25 : Value).ownBlock ∧ some k_ ≠ (.slice none 0 0 : Value).ownBlock ∧ k_ ≠ gb110 ∧ k_ ≠ gb117)) (Kd.R_types (Kd.R_types (Kd.R_apart' (Kd.R_apart' (Kd.R_apart' (Kd.R_apart' (Kd.R_apart' (HO128.out) (Kd.R_typed HO_64.out) (by decide)) (Kd.N_typed HO_118000.out) (by decide)) (Kd.N_typed HO_118001.out) (by decide)) (Kd.R_typed HO126.out) (by decide)) (Kd.R_typed (Kd.R_nil k30 30 _ 0 (fun _ => True))) (by decide)) BK110.out (by decide)) BK117.out (by decide)) (fun k_ hk => ⟨hk.1.1.1.1.1.1.1.1.1, ⟨hk.1.1.1.1.1.1.2, ⟨hk.1.1.1.1.1.2, ⟨hk.1.1.1.1.2, ⟨hk.1.1.1.1.1.1.1.2, ⟨hk.1.1.1.2, ⟨hk.1.1.2, ⟨hk.1.2, hk.2⟩⟩⟩⟩⟩⟩⟩⟩))))) (Reps.none _ _)))
                 intro v139 w32 ho33 hb hg_ hnew_
                 clear hg_ hnew_
                 (first | rw [← Ny138.out] at ho33 | (simp only [Int.reduceToNat] at ho33; rw [← Ny138.out] at ho33))
                 have n0_ := rb HO_64 hb
                 have n1_ := Aside0.mk (Kd.N_elder' HO_118000.out (Kd.N_base ho33) hb)
                 have n2_ := Aside0.mk (Kd.N_elder' HO_118001.out (Kd.N_base ho33) hb)
                 have n3_ := rb HO_118002 hb
                 have n4_ := rb HO126 hb
                 have n5_ := rb HO131 hb
                 have n6_ := Aside0.mk (Kd.N_lower ho33 (below_size (bw HB)))
                 have n7_ := bb BK110 hb
                 have n8_ := bb BK117 hb
                 have n9_ := bs HB hb
                 clear HO_64
                 clear HO_118000
                 clear HO_118001
                 clear HO_118002
                 clear HO126
                 clear HO131
                 clear BK110
                 clear BK117
                 clear HB
                 clear HO128
                 have HO_64 := n0_
                 have HO_118000 := n1_
                 have HO_118001 := n2_
                 have HO_118002 := n3_
                 have HO126 := n4_
                 have HO131 := n5_
                 have HO140 := n6_
                 have BK110 := n7_
                 have BK117 := n8_
                 have HB := n9_
                 clear n0_ n1_ n2_ n3_ n4_ n5_ n6_ n7_ n8_ n9_
                 clear hb ho33
                 refine hK.out _ _ ⟨bc0 BK117, bc1 BK117, bc2 BK117⟩ (fun hHeld => ?_)
                 clear hK K
                 refine norm_ (a' := ?_) ?_ ?_; rotate_left; (show Act.put _ (some 36) _ = _; simp only [sqa, sqb, sqc, sqd, i64_w, i32_w]; rfl)
                 exact norm_ (by first | (simp only [putAll, Act.put, List.setIfInBounds_toArray, List.set_cons_zero, List.set_cons_succ]; done) | (simp only [putAll, Act.put, List.setIfInBounds_toArray, List.set_cons_zero, List.set_cons_succ]; rfl)) (hJ8 (v139) _ ⟨hHeld, (by exact Kd.R_mono HO126.out (fun _ hk => ⟨hk.1.1.1, ⟨hk.2, hk.1.2⟩⟩)), (by exact Kd.R_mono HO131.out (fun _ hk => ⟨hk.1.1.1, ⟨hk.2, hk.1.2⟩⟩)), (by exact Kd.N_mono HO140.out (fun _ hk => ⟨hk.1, ⟨hk.2.2.2.2.2.1, ⟨hk.2.2.2.2.2.2.1, ⟨hk.2.2.1, ⟨hk.2.2.2.1, ⟨hk.2.2.2.2.1, ⟨hk.2.1, ⟨hk.2.2.2.2.2.2.2.1, hk.2.2.2.2.2.2.2.2⟩⟩⟩⟩⟩⟩⟩⟩)), (by exact Kd.N_mono HO_118000.out (fun _ hk => ⟨hk.1.1.1.1.1, ⟨hk.1.1.1.2, ⟨hk.1.2, ⟨hk.2, ⟨hk.1.1.1.1.2.2.1, ⟨hk.1.1.1.1.2.2.2.1, ⟨hk.1.1.1.1.2.1, ⟨hk.1.1.1.1.2.2.2.2.1, hk.1.1.1.1.2.2.2.2.2⟩⟩⟩⟩⟩⟩⟩⟩)), (by exact Kd.N_mono HO_118001.out (fun _ hk => ⟨hk.1.1.1.1.1, ⟨hk.1.1.1.2, ⟨hk.1.2, ⟨hk.2, ⟨hk.1.1.1.1.2.2.1, ⟨hk.1.1.1.1.2.2.2.1, ⟨hk.1.1.1.1.2.1, ⟨hk.1.1.1.1.2.2.2.2.1, hk.1.1.1.1.2.2.2.2.2⟩⟩⟩⟩⟩⟩⟩⟩)), (by exact Kd.R_mono HO_118002.out (fun _ hk => hk.1)), (by exact Kd.R_mono HO_64.out (fun _ hk => ⟨hk.1.1, ⟨hk.1.2, hk.2⟩⟩)), (bk BK110), (bk BK117), (bw HB)⟩)
                ·skip
                 refine Kd.R_lit_step (Kd.int .i64) _ 3 ?hg (N := 41) ?hd (xs := ([t124] : List Int)) (inner := [.int .i64 t124]) (ok := fun _ => True) (okp := fun _ => True) ?hr ?hp (fun _ hk => hk) trivial (Below.refl _ _) (Nat.le_refl _) (by simp) ?_; (case hd => rfl); (case hg => rfl); (case hr => first | (go_simp; done) | (go_simp; rfl)); (case hp => exact (Reps.one (show Kd.M (Kd.int .i64) _ _ _ t124 [.int .i64 t124] from rfl) (Reps.none _ _)))
                 intro v145 w31 ho32 hb hg_ hnew_
                 clear hg_ hnew_
                 (first | rw [← Ny144.out] at ho32 | (simp only [Int.reduceToNat] at ho32; rw [← Ny144.out] at ho32))
                 replace HO_64 := rb HO_64 hb
                 replace HO_118000 := Aside0.mk (Kd.N_elder' HO_118000.out (Kd.R_base ho32) hb)
                 replace HO_118001 := Aside0.mk (Kd.N_elder' HO_118001.out (Kd.R_base ho32) hb)
                 replace HO126 := rb HO126 hb
                 replace HO131 := rb HO131 hb
                 have HO146 := Aside0.mk (Kd.R_lower (Kd.R_new' (Kd.R_new' (Kd.R_newM (M := fun k_ => (w.heap.size ≤ k_)) ho32 (below_size (bw HB)) (fun k_ h_ => h_)) (Kd.R_lt (rk HO_118002))) (Kd.R_lt (rk HO128))) (below_size (bw HB)))
                 replace HO_118002 := Aside0.mk (Kd.R_elder' (rk HO_118002) (Kd.R_base ho32) hb)
                 replace HO128 := Aside0.mk (Kd.R_elder' (rk HO128) (Kd.R_base ho32) hb)
                 replace BK110 := bb BK110 hb
                 replace BK117 := bb BK117 hb
                 replace HB := bs HB hb
                 clear hb ho32
                 refine hK.out _ _ ⟨bc0 BK117, bc1 BK117, bc2 BK117⟩ (fun hHeld => ?_)
                 clear hK K
                 refine norm_ (a' := ?_) ?_ ?_; rotate_left; (show Act.put _ (some 41) _ = _; simp only [sqa, sqb, sqc, sqd, i64_w, i32_w]; rfl)
                 exact norm_ (by first | (simp only [putAll, Act.put, List.setIfInBounds_toArray, List.set_cons_zero, List.set_cons_succ]; done) | (simp only [putAll, Act.put, List.setIfInBounds_toArray, List.set_cons_zero, List.set_cons_succ]; rfl)) (hJ13 (v145) _ ⟨hHeld, (by exact Kd.R_mono HO126.out (fun _ hk => ⟨hk.1.1.1, ⟨hk.2, hk.1.2⟩⟩)), (by exact Kd.R_mono HO128.out (fun _ hk => ⟨hk.1.1.1, ⟨hk.2, hk.1.2⟩⟩)), (by exact Kd.R_mono HO131.out (fun _ hk => ⟨hk.1.1.1, ⟨hk.2, hk.1.2⟩⟩)), (by exact Kd.R_mono HO146.out (fun _ hk => ⟨hk.1.1.1, ⟨hk.2, hk.1.2⟩⟩)), (by exact Kd.N_mono HO_118000.out (fun _ hk => ⟨hk.1.1.1.1.1, ⟨hk.1.1.1.2, ⟨hk.1.1.2, ⟨hk.1.2, ⟨hk.2, ⟨hk.1.1.1.1.2.2.1, ⟨hk.1.1.1.1.2.2.2.1, ⟨hk.1.1.1.1.2.1, ⟨hk.1.1.1.1.2.2.2.2.1, hk.1.1.1.1.2.2.2.2.2⟩⟩⟩⟩⟩⟩⟩⟩⟩)), (by exact Kd.N_mono HO_118001.out (fun _ hk => ⟨hk.1.1.1.1.1, ⟨hk.1.1.1.2, ⟨hk.1.1.2, ⟨hk.1.2, ⟨hk.2, ⟨hk.1.1.1.1.2.2.1, ⟨hk.1.1.1.1.2.2.2.1, ⟨hk.1.1.1.1.2.1, ⟨hk.1.1.1.1.2.2.2.2.1, hk.1.1.1.1.2.2.2.2.2⟩⟩⟩⟩⟩⟩⟩⟩⟩)), (by exact Kd.R_mono HO_118002.out (fun _ hk => ⟨hk.1.1, ⟨hk.1.2, hk.2⟩⟩)), (by exact Kd.R_mono HO_64.out (fun _ hk => ⟨hk.1.1, ⟨hk.1.2, hk.2⟩⟩)), (bk BK110), (bk BK117), (bw HB)⟩)
               ·skip
                rintro v145 w33 ⟨hS_, h0_, h1_, h2_, h3_, h4_, h5_, h6_, h7_, h8_, h9_, h10_⟩
                replace HO126 := Aside0.mk h0_
                replace HO128 := Aside0.mk h1_
                replace HO131 := Aside0.mk h2_
                have HO146 := Aside0.mk h3_
                replace HO_118000 := Aside0.mk h4_
                replace HO_118001 := Aside0.mk h5_
                replace HO_118002 := Aside0.mk h6_
                replace HO_64 := Aside0.mk h7_
                replace BK110 := Aside0.mk h8_
                replace BK117 := Aside0.mk h9_
                replace HB := Aside0.mk h10_
                clear h0_ h1_ h2_ h3_ h4_ h5_ h6_ h7_ h8_ h9_ h10_
                have hHeld : w33.cell? ⟨gb117, 0, none⟩ = some (.slice Ao27 x118000_1.length co27) ∧ w33.cell? ⟨gb117, 1, none⟩ = some (.slice Ao28 x118001_1.length co28) ∧ w33.cell? ⟨gb117, 2, none⟩ = some (.slice Ao29 x118002_1.length co29) := hS_
                refine norm_ (a' := ?_) ?_ ?_
                rotate_left
                ·simp only [putAll, Act.put, List.setIfInBounds_toArray, List.set_cons_zero, List.set_cons_succ]
                 rfl
                refine two_ (i := 3) (j := 8) (Ni := some 31) (Nj := some 36) (bl 21 15599) (bl 21 15847) rfl rfl rfl rfl (two_of HT_.out (by kernel_rfl)) (by decide) (by decide) (fun K hK => ?_) (fun K hK => ?_)
                ·skip
                 refine Kd.N_lit_step (Kd.slice 30 k30) _ 24 ?hg (N' := 31) ?hd (xs := ([t122] : List (List (S30)))) (inner := [.slice Ao25 t122.length co25]) (ok := (fun k_ => (w.heap.size ≤ k_) ∧ some k_ ≠ (.slice none 0 0 : Value).ownBlock ∧ some k_ ≠ (.slice Ao27 x118000_1.length co27 : Value).ownBlock ∧ some k_ ≠ (.slice Ao28 x118001_1.length co28 : Value).ownBlock ∧ some k_ ≠ (.slice Ao29 x118002_1.length co29 : Value).ownBlock ∧ some k_ ≠ (.slice Ao99 t123.length co99 : Value).ownBlock ∧ some k_ ≠ (.slice none 0 0 : Value).ownBlock ∧ some k_ ≠ (v145 : Value).ownBlock ∧ k_ ≠ gb110 ∧ k_ ≠ gb117)) (okp := (fun k_ => (w.heap.size ≤ k_) ∧ some k_ ≠ (.slice none 0 0 : Value).ownBlock ∧ some k_ ≠ (.slice Ao27 x118000_1.length co27 : Value).ownBlock ∧ some k_ ≠ (.slice Ao28 x118001_1.length co28 : Value).ownBlock ∧ some k_ ≠ (.slice Ao29 x118002_1.length co29 : Value).ownBlock ∧ some k_ ≠ (.slice Ao99 t123.length co99 : Value).ownBlock ∧ some k_ ≠ (.slice none 0 0 : Value).ownBlock ∧ some k_ ≠ (v145 : Value).ownBlock ∧ k_ ≠ gb110 ∧ k_ ≠ gb117)) ?hr ?hp (fun _ hk => hk) ((show ∀ k_, w33.heap.size ≤ k_ → (fun k_ => (w.heap.size ≤ k_) ∧ some k_ ≠ (.slice none 0 0 : Value).ownBlock ∧ some k_ ≠ (.slice Ao27 x118000_1.length co27 : Value).ownBlock ∧ some k_ ≠ (.slice Ao28 x118001_1.length co28 : Value).ownBlock ∧ some k_ ≠ (.slice Ao29 x118002_1.length co29 : Value).ownBlock ∧ some k_ ≠ (.slice Ao99 t123.length co99 : Value).ownBlock ∧ some k_ ≠ (.slice none 0 0 : Value).ownBlock ∧ some k_ ≠ (v145 : Value).ownBlock ∧ k_ ≠ gb110 ∧ k_ ≠ gb117) k_ from fun k_ hk => ⟨(Nat.le_trans (below_size (bw HB)) hk), Kd.fresh' (Kd.R_lt (rk HO_64)) k_ hk, Kd.fresh' (Kd.N_lt HO_118000.out) k_ hk, Kd.fresh' (Kd.N_lt HO_118001.out) k_ hk, Kd.fresh' (Kd.R_lt (rk HO_118002)) k_ hk, Kd.fresh' (Kd.R_lt (rk HO128)) k_ hk, (by simp [Value.ownBlock]), Kd.fresh' (Kd.R_lt (rk HO146)) k_ hk, Kd.freshB (g := gb110) (o := .cells #[.slice none 0 0, .slice none 0 0, .slice none 0 0] 71 (0, 0)) (bk BK110) k_ hk, Kd.freshB (g := gb117) (o := .cells #[.slice Ao27 x118000_1.length co27, .slice Ao28 x118001_1.length co28, .slice Ao29 x118002_1.length co29] 71 (0, 0)) (bk BK117) k_ hk⟩) _ (Nat.le_refl _)) (Below.refl _ _) (Nat.le_refl _) (by simp) ?_; (case hd => rfl); (case hg => rfl); (case hr => first | (go_simp; done) | (go_simp; rfl)); (case hp => exact (Reps.one (show Kd.FK (Kd.slice 30 k30) _ _ t122 [.slice Ao25 t122.length co25] from (Kd.FK_slice_mk (Kd.R_reads' (Kd.R_mono (ok' := (fun k_ => (w.heap.size ≤ k_) ∧ some k_ ≠ (.slice none 0 0 : Value).ownBlock ∧ some k_ ≠ (.slice Ao27 x118000_1.length co27 : Value).ownBlock ∧ some k_ ≠ (.slice Ao28 x118001_1.length co28 : Value).ownBlock ∧ some k_ ≠ (.slice Ao29 x118002_1.length co29 : Value).ownBlock ∧ some k_ ≠ (.slice Ao99 t123.length co99 : Value).ownBlock ∧ some k_ ≠ (.slice none 0 0 : Value).ownBlock ∧ some k_ ≠ (v145 : Value).ownBlock ∧ k_ ≠ gb110 ∧ k_ ≠ gb117)) (Kd.R_types (Kd.R_types (Kd.R_apart' (Kd.R_apart' (Kd.R_apart' (Kd.R_apart' (Kd.R_apart' (HO126.out) (Kd.N_typed HO_118000.out) (by decide)) (Kd.N_typed HO_118001.out) (by decide)) (Kd.R_typed HO_118002.out) (by decide)) (Kd.R_typed HO128.out) (by decide)) (Kd.R_typed HO146.out) (by decide)) BK110.out (by decide)) BK117.out (by decide)) (fun k_ hk => ⟨hk.1.1.1.1.1.1.1.1, ⟨hk.1.1.1.1.1.1.1.2.2, ⟨hk.1.1.1.1.1.1.2, ⟨hk.1.1.1.1.1.2, ⟨hk.1.1.1.1.2, ⟨hk.1.1.1.2, ⟨hk.1.1.1.1.1.1.1.2.1, ⟨hk.1.1.2, ⟨hk.1.2, hk.2⟩⟩⟩⟩⟩⟩⟩⟩⟩))).2.1 (Kd.R_F (Kd.R_mono (ok' := (fun k_ => (w.heap.size ≤ k_) ∧ some k_ ≠ (.slice none 0 0 : Value).ownBlock ∧ some k_ ≠ (.slice Ao27 x118000_1.length co27 : Value).ownBlock ∧ some k_ ≠ (.slice Ao28 x118001_1.length co28 : Value).ownBlock ∧ some k_ ≠ (.slice Ao29 x118002_1.length co29 : Value).ownBlock ∧ some k_ ≠ (.slice Ao99 t123.length co99 : Value).ownBlock ∧ some k_ ≠ (.slice none 0 0 : Value).ownBlock ∧ some k_ ≠ (v145 : Value).ownBlock ∧ k_ ≠ gb110 ∧ k_ ≠ gb117)) (Kd.R_types (Kd.R_types (Kd.R_apart' (Kd.R_apart' (Kd.R_apart' (Kd.R_apart' (Kd.R_apart' (HO126.out) (Kd.N_typed HO_118000.out) (by decide)) (Kd.N_typed HO_118001.out) (by decide)) (Kd.R_typed HO_118002.out) (by decide)) (Kd.R_typed HO128.out) (by decide)) (Kd.R_typed HO146.out) (by decide)) BK110.out (by decide)) BK117.out (by decide)) (fun k_ hk => ⟨hk.1.1.1.1.1.1.1.1, ⟨hk.1.1.1.1.1.1.1.2.2, ⟨hk.1.1.1.1.1.1.2, ⟨hk.1.1.1.1.1.2, ⟨hk.1.1.1.1.2, ⟨hk.1.1.1.2, ⟨hk.1.1.1.1.1.1.1.2.1, ⟨hk.1.1.2, ⟨hk.1.2, hk.2⟩⟩⟩⟩⟩⟩⟩⟩⟩))))) (Reps.none _ _)))
                 intro v133 w34 ho35 hb hg_ hnew_
                 clear hg_ hnew_
                 (first | rw [← Ny132.out] at ho35 | (simp only [Int.reduceToNat] at ho35; rw [← Ny132.out] at ho35))
                 have n0_ := rb HO_64 hb
                 have n1_ := Aside0.mk (Kd.N_elder' HO_118000.out (Kd.N_base ho35) hb)
                 have n2_ := Aside0.mk (Kd.N_elder' HO_118001.out (Kd.N_base ho35) hb)
                 have n3_ := rb HO_118002 hb
                 have n4_ := rb HO128 hb
                 have n5_ := rb HO131 hb
                 have n6_ := rb HO146 hb
                 have n7_ := Aside0.mk (Kd.N_lower ho35 (below_size (bw HB)))
                 have n8_ := bb BK110 hb
                 have n9_ := bb BK117 hb
                 have n10_ := bs HB hb
                 clear HO_64
                 clear HO_118000
                 clear HO_118001
                 clear HO_118002
                 clear HO128
                 clear HO131
                 clear HO146
                 clear BK110
                 clear BK117
                 clear HB
                 clear HO126
                 have HO_64 := n0_
                 have HO_118000 := n1_
                 have HO_118001 := n2_
                 have HO_118002 := n3_
                 have HO128 := n4_
                 have HO131 := n5_
                 have HO146 := n6_
                 have HO134 := n7_
                 have BK110 := n8_
                 have BK117 := n9_
                 have HB := n10_
                 clear n0_ n1_ n2_ n3_ n4_ n5_ n6_ n7_ n8_ n9_ n10_
                 clear hb ho35
                 refine hK.out _ _ ⟨bc0 BK117, bc1 BK117, bc2 BK117⟩ (fun hHeld => ?_)
                 clear hK K
                 refine norm_ (a' := ?_) ?_ ?_; rotate_left; (show Act.put _ (some 31) _ = _; simp only [sqa, sqb, sqc, sqd, i64_w, i32_w]; rfl)
                 exact norm_ (by first | (simp only [putAll, Act.put, List.setIfInBounds_toArray, List.set_cons_zero, List.set_cons_succ]; done) | (simp only [putAll, Act.put, List.setIfInBounds_toArray, List.set_cons_zero, List.set_cons_succ]; rfl)) (hJ3_13 (v133, v145) _ ⟨hHeld, (rk HO128), (by exact Kd.R_mono HO131.out (fun _ hk => ⟨hk.1, hk.2.2⟩)), (by exact Kd.N_mono HO134.out (fun _ hk => ⟨hk.1, ⟨hk.2.2.2.2.2.1, ⟨hk.2.2.2.2.2.2.1, ⟨hk.2.2.2.2.2.2.2.1, ⟨hk.2.2.1, ⟨hk.2.2.2.1, ⟨hk.2.2.2.2.1, ⟨hk.2.1, ⟨hk.2.2.2.2.2.2.2.2.1, hk.2.2.2.2.2.2.2.2.2⟩⟩⟩⟩⟩⟩⟩⟩⟩)), (rk HO146), (by exact Kd.N_mono HO_118000.out (fun _ hk => ⟨hk.1.1, ⟨hk.1.2.2.1, ⟨hk.1.2.2.2.1, ⟨hk.2, ⟨hk.1.2.2.2.2.1, ⟨hk.1.2.2.2.2.2.1, ⟨hk.1.2.2.2.2.2.2.1, ⟨hk.1.2.2.2.2.2.2.2.1, ⟨hk.1.2.2.2.2.2.2.2.2.1, hk.1.2.2.2.2.2.2.2.2.2⟩⟩⟩⟩⟩⟩⟩⟩⟩)), (by exact Kd.N_mono HO_118001.out (fun _ hk => ⟨hk.1.1, ⟨hk.1.2.2.1, ⟨hk.1.2.2.2.1, ⟨hk.2, ⟨hk.1.2.2.2.2.1, ⟨hk.1.2.2.2.2.2.1, ⟨hk.1.2.2.2.2.2.2.1, ⟨hk.1.2.2.2.2.2.2.2.1, ⟨hk.1.2.2.2.2.2.2.2.2.1, hk.1.2.2.2.2.2.2.2.2.2⟩⟩⟩⟩⟩⟩⟩⟩⟩)), (rk HO_118002), (by exact Kd.R_mono HO_64.out (fun _ hk => ⟨hk.1, hk.2.2⟩)), (bk BK110), (bk BK117), (bw HB)⟩)
                ·skip
                 refine Kd.N_lit_step (Kd.slice 3 (Kd.int .i64)) _ 33 ?hg (N' := 36) ?hd (xs := ([t123] : List (List Int))) (inner := [.slice Ao99 t123.length co99]) (ok := (fun k_ => (w.heap.size ≤ k_) ∧ some k_ ≠ (.slice none 0 0 : Value).ownBlock ∧ some k_ ≠ (.slice Ao27 x118000_1.length co27 : Value).ownBlock ∧ some k_ ≠ (.slice Ao28 x118001_1.length co28 : Value).ownBlock ∧ some k_ ≠ (.slice Ao29 x118002_1.length co29 : Value).ownBlock ∧ some k_ ≠ (.slice Ao25 t122.length co25 : Value).ownBlock ∧ some k_ ≠ (.slice none 0 0 : Value).ownBlock ∧ some k_ ≠ (v145 : Value).ownBlock ∧ k_ ≠ gb110 ∧ k_ ≠ gb117)) (okp := (fun k_ => (w.heap.size ≤ k_) ∧ some k_ ≠ (.slice none 0 0 : Value).ownBlock ∧ some k_ ≠ (.slice Ao27 x118000_1.length co27 : Value).ownBlock ∧ some k_ ≠ (.slice Ao28 x118001_1.length co28 : Value).ownBlock ∧ some k_ ≠ (.slice Ao29 x118002_1.length co29 : Value).ownBlock ∧ some k_ ≠ (.slice Ao25 t122.length co25 : Value).ownBlock ∧ some k_ ≠ (.slice none 0 0 : Value).ownBlock ∧ some k_ ≠ (v145 : Value).ownBlock ∧ k_ ≠ gb110 ∧ k_ ≠ gb117)) ?hr ?hp (fun _ hk => hk) ((show ∀ k_, w33.heap.size ≤ k_ → (fun k_ => (w.heap.size ≤ k_) ∧ some k_ ≠ (.slice none 0 0 : Value).ownBlock ∧ some k_ ≠ (.slice Ao27 x118000_1.length co27 : Value).ownBlock ∧ some k_ ≠ (.slice Ao28 x118001_1.length co28 : Value).ownBlock ∧ some k_ ≠ (.slice Ao29 x118002_1.length co29 : Value).ownBlock ∧ some k_ ≠ (.slice Ao25 t122.length co25 : Value).ownBlock ∧ some k_ ≠ (.slice none 0 0 : Value).ownBlock ∧ some k_ ≠ (v145 : Value).ownBlock ∧ k_ ≠ gb110 ∧ k_ ≠ gb117) k_ from fun k_ hk => ⟨(Nat.le_trans (below_size (bw HB)) hk), Kd.fresh' (Kd.R_lt (rk HO_64)) k_ hk, Kd.fresh' (Kd.N_lt HO_118000.out) k_ hk, Kd.fresh' (Kd.N_lt HO_118001.out) k_ hk, Kd.fresh' (Kd.R_lt (rk HO_118002)) k_ hk, Kd.fresh' (Kd.R_lt (rk HO126)) k_ hk, (by simp [Value.ownBlock]), Kd.fresh' (Kd.R_lt (rk HO146)) k_ hk, Kd.freshB (g := gb110) (o := .cells #[.slice none 0 0, .slice none 0 0, .slice none 0 0] 71 (0, 0)) (bk BK110) k_ hk, Kd.freshB (g := gb117) (o := .cells #[.slice Ao27 x118000_1.length co27, .slice Ao28 x118001_1.length co28, .slice Ao29 x118002_1.length co29] 71 (0, 0)) (bk BK117) k_ hk⟩) _ (Nat.le_refl _)) (Below.refl _ _) (Nat.le_refl _) (by simp) ?_; (case hd => rfl); (case hg => rfl); (case hr => first | (go_simp; done) | (go_simp; rfl)); (case hp => exact (Reps.one (show Kd.FK (Kd.slice 3 (Kd.int .i64)) _ _ t123 [.slice Ao99 t123.length co99] from (Kd.FK_slice_mk (Kd.R_reads' (Kd.R_mono (ok' := (fun k_ => (w.heap.size ≤ k_) ∧ some k_ ≠ (.slice none 0 0 : Value).ownBlock ∧ some k_ ≠ (.slice Ao27 x118000_1.length co27 : Value).ownBlock ∧ some k_ ≠ (.slice Ao28 x118001_1.length co28 : Value).ownBlock ∧ some k_ ≠ (.slice Ao29 x118002_1.length co29 : Value).ownBlock ∧ some k_ ≠ (.slice Ao25 t122.length co25 : Value).ownBlock ∧ some k_ ≠ (.slice none 0 0 : Value).ownBlock ∧ some k_ ≠ (v145 : Value).ownBlock ∧ k_ ≠ gb110 ∧ k_ ≠ gb117)) (Kd.R_types (Kd.R_types (Kd.R_apart' (Kd.R_apart' (Kd.R_apart' (Kd.R_apart' (Kd.R_apart' (HO128.out) (Kd.R_typed HO_64.out) (by decide)) (Kd.N_typed HO_118000.out) (by decide)) (Kd.N_typed HO_118001.out) (by decide)) (Kd.R_typed HO126.out) (by decide)) (Kd.R_typed (Kd.R_nil k30 30 _ 0 (fun _ => True))) (by decide)) BK110.out (by decide)) BK117.out (by decide)) (fun k_ hk => ⟨hk.1.1.1.1.1.1.1.1, ⟨hk.1.1.1.1.1.1.2, ⟨hk.1.1.1.1.1.2, ⟨hk.1.1.1.1.2, ⟨hk.1.1.1.1.1.1.1.2.2, ⟨hk.1.1.1.2, ⟨hk.1.1.2, ⟨hk.1.1.1.1.1.1.1.2.1, ⟨hk.1.2, hk.2⟩⟩⟩⟩⟩⟩⟩⟩⟩))).2.1 (Kd.R_F (Kd.R_mono (ok' := (fun k_ => (w.heap.size ≤ k_) ∧ some k_ ≠ (.slice none 0 0 : Value).ownBlock ∧ some k_ ≠ (.slice Ao27 x118000_1.length co27 : Value).ownBlock ∧ some k_ ≠ (.slice Ao28 x118001_1.length co28 : Value).ownBlock ∧ some k_ ≠ (.slice Ao29 x118002_1.length co29 : Value).ownBlock ∧ some k_ ≠ (.slice Ao25 t122.length co25 : Value).ownBlock ∧ some k_ ≠ (.slice none 0 0 : Value).ownBlock ∧ some k_ ≠ (v145 : Value).ownBlock ∧ k_ ≠ gb110 ∧ k_ ≠ gb117)) (Kd.R_types (Kd.R_types (Kd.R_apart' (Kd.R_apart' (Kd.R_apart' (Kd.R_apart' (Kd.R_apart' (HO128.out) (Kd.R_typed HO_64.out) (by decide)) (Kd.N_typed HO_118000.out) (by decide)) (Kd.N_typed HO_118001.out) (by decide)) (Kd.R_typed HO126.out) (by decide)) (Kd.R_typed (Kd.R_nil k30 30 _ 0 (fun _ => True))) (by decide)) BK110.out (by decide)) BK117.out (by decide)) (fun k_ hk => ⟨hk.1.1.1.1.1.1.1.1, ⟨hk.1.1.1.1.1.1.2, ⟨hk.1.1.1.1.1.2, ⟨hk.1.1.1.1.2, ⟨hk.1.1.1.1.1.1.1.2.2, ⟨hk.1.1.1.2, ⟨hk.1.1.2, ⟨hk.1.1.1.1.1.1.1.2.1, ⟨hk.1.2, hk.2⟩⟩⟩⟩⟩⟩⟩⟩⟩))))) (Reps.none _ _)))
                 intro v139 w35 ho36 hb hg_ hnew_
                 clear hg_ hnew_
                 (first | rw [← Ny138.out] at ho36 | (simp only [Int.reduceToNat] at ho36; rw [← Ny138.out] at ho36))
                 have n0_ := rb HO_64 hb
                 have n1_ := Aside0.mk (Kd.N_elder' HO_118000.out (Kd.N_base ho36) hb)
                 have n2_ := Aside0.mk (Kd.N_elder' HO_118001.out (Kd.N_base ho36) hb)
                 have n3_ := rb HO_118002 hb
                 have n4_ := rb HO126 hb
                 have n5_ := rb HO131 hb
                 have n6_ := rb HO146 hb
                 have n7_ := Aside0.mk (Kd.N_lower ho36 (below_size (bw HB)))
                 have n8_ := bb BK110 hb
                 have n9_ := bb BK117 hb
                 have n10_ := bs HB hb
                 clear HO_64
                 clear HO_118000
                 clear HO_118001
                 clear HO_118002
                 clear HO126
                 clear HO131
                 clear HO146
                 clear BK110
                 clear BK117
                 clear HB
                 clear HO128
                 have HO_64 := n0_
                 have HO_118000 := n1_
                 have HO_118001 := n2_
                 have HO_118002 := n3_
                 have HO126 := n4_
                 have HO131 := n5_
                 have HO146 := n6_
                 have HO140 := n7_
                 have BK110 := n8_
                 have BK117 := n9_
                 have HB := n10_
                 clear n0_ n1_ n2_ n3_ n4_ n5_ n6_ n7_ n8_ n9_ n10_
                 clear hb ho36
                 refine hK.out _ _ ⟨bc0 BK117, bc1 BK117, bc2 BK117⟩ (fun hHeld => ?_)
                 clear hK K
                 refine norm_ (a' := ?_) ?_ ?_; rotate_left; (show Act.put _ (some 36) _ = _; simp only [sqa, sqb, sqc, sqd, i64_w, i32_w]; rfl)
                 exact norm_ (by first | (simp only [putAll, Act.put, List.setIfInBounds_toArray, List.set_cons_zero, List.set_cons_succ]; done) | (simp only [putAll, Act.put, List.setIfInBounds_toArray, List.set_cons_zero, List.set_cons_succ]; rfl)) (hJ8_13 (v139, v145) _ ⟨hHeld, (rk HO126), (rk HO131), (by exact Kd.N_mono HO140.out (fun _ hk => ⟨hk.1, ⟨hk.2.2.2.2.2.1, ⟨hk.2.2.2.2.2.2.1, ⟨hk.2.2.2.2.2.2.2.1, ⟨hk.2.2.1, ⟨hk.2.2.2.1, ⟨hk.2.2.2.2.1, ⟨hk.2.1, ⟨hk.2.2.2.2.2.2.2.2.1, hk.2.2.2.2.2.2.2.2.2⟩⟩⟩⟩⟩⟩⟩⟩⟩)), (by exact Kd.R_mono HO146.out (fun _ hk => ⟨hk.1, hk.2.2⟩)), (by exact Kd.N_mono HO_118000.out (fun _ hk => ⟨hk.1.1, ⟨hk.1.2.1, ⟨hk.1.2.2.2.1, ⟨hk.2, ⟨hk.1.2.2.2.2.1, ⟨hk.1.2.2.2.2.2.1, ⟨hk.1.2.2.2.2.2.2.1, ⟨hk.1.2.2.2.2.2.2.2.1, ⟨hk.1.2.2.2.2.2.2.2.2.1, hk.1.2.2.2.2.2.2.2.2.2⟩⟩⟩⟩⟩⟩⟩⟩⟩)), (by exact Kd.N_mono HO_118001.out (fun _ hk => ⟨hk.1.1, ⟨hk.1.2.1, ⟨hk.1.2.2.2.1, ⟨hk.2, ⟨hk.1.2.2.2.2.1, ⟨hk.1.2.2.2.2.2.1, ⟨hk.1.2.2.2.2.2.2.1, ⟨hk.1.2.2.2.2.2.2.2.1, ⟨hk.1.2.2.2.2.2.2.2.2.1, hk.1.2.2.2.2.2.2.2.2.2⟩⟩⟩⟩⟩⟩⟩⟩⟩)), (by exact Kd.R_mono HO_118002.out (fun _ hk => ⟨hk.1, hk.2.2⟩)), (rk HO_64), (bk BK110), (bk BK117), (bw HB)⟩)
              ·skip
               rintro v139 w34 ⟨hS_, h0_, h1_, h2_, h3_, h4_, h5_, h6_, h7_, h8_, h9_⟩
               have n0_ := Aside0.mk h0_
               have n1_ := Aside0.mk h1_
               have n2_ := Aside0.mk h2_
               have n3_ := Aside0.mk h3_
               have n4_ := Aside0.mk h4_
               have n5_ := Aside0.mk h5_
               have n6_ := Aside0.mk h6_
               have n7_ := Aside0.mk h7_
               have n8_ := Aside0.mk h8_
               have n9_ := Aside0.mk h9_
               clear HO_64
               clear HO_118000
               clear HO_118001
               clear HO_118002
               clear HO126
               clear HO128
               clear HO131
               clear BK110
               clear BK117
               clear HB
               clear h0_ h1_ h2_ h3_ h4_ h5_ h6_ h7_ h8_ h9_
               have HO126 := n0_
               have HO131 := n1_
               have HO140 := n2_
               have HO_118000 := n3_
               have HO_118001 := n4_
               have HO_118002 := n5_
               have HO_64 := n6_
               have BK110 := n7_
               have BK117 := n8_
               have HB := n9_
               clear n0_ n1_ n2_ n3_ n4_ n5_ n6_ n7_ n8_ n9_
               have hHeld : w34.cell? ⟨gb117, 0, none⟩ = some (.slice Ao27 x118000_1.length co27) ∧ w34.cell? ⟨gb117, 1, none⟩ = some (.slice Ao28 x118001_1.length co28) ∧ w34.cell? ⟨gb117, 2, none⟩ = some (.slice Ao29 x118002_1.length co29) := hS_
               refine norm_ (a' := ?_) ?_ ?_
               rotate_left
               ·simp only [putAll, Act.put, List.setIfInBounds_toArray, List.set_cons_zero, List.set_cons_succ]
                rfl
               refine two_ (i := 3) (j := 13) (Ni := some 31) (Nj := some 41) (bl 21 7663) (bl 21 15847) rfl rfl rfl rfl (two_of HT_.out (by kernel_rfl)) (by decide) (by decide) (fun K hK => ?_) (fun K hK => ?_)
               ·skip
                refine Kd.N_lit_step (Kd.slice 30 k30) _ 24 ?hg (N' := 31) ?hd (xs := ([t122] : List (List (S30)))) (inner := [.slice Ao25 t122.length co25]) (ok := (fun k_ => (w.heap.size ≤ k_) ∧ some k_ ≠ (.slice none 0 0 : Value).ownBlock ∧ some k_ ≠ (.slice Ao27 x118000_1.length co27 : Value).ownBlock ∧ some k_ ≠ (.slice Ao28 x118001_1.length co28 : Value).ownBlock ∧ some k_ ≠ (.slice Ao29 x118002_1.length co29 : Value).ownBlock ∧ some k_ ≠ (.slice none 0 0 : Value).ownBlock ∧ some k_ ≠ (v139 : Value).ownBlock ∧ k_ ≠ gb110 ∧ k_ ≠ gb117)) (okp := (fun k_ => (w.heap.size ≤ k_) ∧ some k_ ≠ (.slice none 0 0 : Value).ownBlock ∧ some k_ ≠ (.slice Ao27 x118000_1.length co27 : Value).ownBlock ∧ some k_ ≠ (.slice Ao28 x118001_1.length co28 : Value).ownBlock ∧ some k_ ≠ (.slice Ao29 x118002_1.length co29 : Value).ownBlock ∧ some k_ ≠ (.slice none 0 0 : Value).ownBlock ∧ some k_ ≠ (v139 : Value).ownBlock ∧ k_ ≠ gb110 ∧ k_ ≠ gb117)) ?hr ?hp (fun _ hk => hk) ((show ∀ k_, w34.heap.size ≤ k_ → (fun k_ => (w.heap.size ≤ k_) ∧ some k_ ≠ (.slice none 0 0 : Value).ownBlock ∧ some k_ ≠ (.slice Ao27 x118000_1.length co27 : Value).ownBlock ∧ some k_ ≠ (.slice Ao28 x118001_1.length co28 : Value).ownBlock ∧ some k_ ≠ (.slice Ao29 x118002_1.length co29 : Value).ownBlock ∧ some k_ ≠ (.slice none 0 0 : Value).ownBlock ∧ some k_ ≠ (v139 : Value).ownBlock ∧ k_ ≠ gb110 ∧ k_ ≠ gb117) k_ from fun k_ hk => ⟨(Nat.le_trans (below_size (bw HB)) hk), Kd.fresh' (Kd.R_lt (rk HO_64)) k_ hk, Kd.fresh' (Kd.N_lt HO_118000.out) k_ hk, Kd.fresh' (Kd.N_lt HO_118001.out) k_ hk, Kd.fresh' (Kd.R_lt (rk HO_118002)) k_ hk, (by simp [Value.ownBlock]), Kd.fresh' (Kd.N_lt HO140.out) k_ hk, Kd.freshB (g := gb110) (o := .cells #[.slice none 0 0, .slice none 0 0, .slice none 0 0] 71 (0, 0)) (bk BK110) k_ hk, Kd.freshB (g := gb117) (o := .cells #[.slice Ao27 x118000_1.length co27, .slice Ao28 x118001_1.length co28, .slice Ao29 x118002_1.length co29] 71 (0, 0)) (bk BK117) k_ hk⟩) _ (Nat.le_refl _)) (Below.refl _ _) (Nat.le_refl _) (by simp) ?_; (case hd => rfl); (case hg => rfl); (case hr => first | (go_simp; done) | (go_simp; rfl)); (case hp => exact (Reps.one (show Kd.FK (Kd.slice 30 k30) _ _ t122 [.slice Ao25 t122.length co25] from (Kd.FK_slice_mk (Kd.R_reads' (Kd.R_mono (ok' := (fun k_ => (w.heap.size ≤ k_) ∧ some k_ ≠ (.slice none 0 0 : Value).ownBlock ∧ some k_ ≠ (.slice Ao27 x118000_1.length co27 : Value).ownBlock ∧ some k_ ≠ (.slice Ao28 x118001_1.length co28 : Value).ownBlock ∧ some k_ ≠ (.slice Ao29 x118002_1.length co29 : Value).ownBlock ∧ some k_ ≠ (.slice none 0 0 : Value).ownBlock ∧ some k_ ≠ (v139 : Value).ownBlock ∧ k_ ≠ gb110 ∧ k_ ≠ gb117)) (Kd.R_types (Kd.R_types (Kd.R_apart' (Kd.R_apart' (Kd.R_apart' (Kd.R_apart' (HO126.out) (Kd.N_typed HO_118000.out) (by decide)) (Kd.N_typed HO_118001.out) (by decide)) (Kd.R_typed HO_118002.out) (by decide)) (Kd.N_typed HO140.out) (by decide)) BK110.out (by decide)) BK117.out (by decide)) (fun k_ hk => ⟨hk.1.1.1.1.1.1.1, ⟨hk.1.1.1.1.1.1.2.2, ⟨hk.1.1.1.1.1.2, ⟨hk.1.1.1.1.2, ⟨hk.1.1.1.2, ⟨hk.1.1.1.1.1.1.2.1, ⟨hk.1.1.2, ⟨hk.1.2, hk.2⟩⟩⟩⟩⟩⟩⟩⟩))).2.1 (Kd.R_F (Kd.R_mono (ok' := (fun k_ => (w.heap.size ≤ k_) ∧ some k_ ≠ (.slice none 0 0 : Value).ownBlock ∧ some k_ ≠ (.slice Ao27 x118000_1.length co27 : Value).ownBlock ∧ some k_ ≠ (.slice Ao28 x118001_1.length co28 : Value).ownBlock ∧ some k_ ≠ (.slice Ao29 x118002_1.length co29 : Value).ownBlock ∧ some k_ ≠ (.slice none 0 0 : Value).ownBlock ∧ some k_ ≠ (v139 : Value).ownBlock ∧ k_ ≠ gb110 ∧ k_ ≠ gb117)) (Kd.R_types (Kd.R_types (Kd.R_apart' (Kd.R_apart' (Kd.R_apart' (Kd.R_apart' (HO126.out) (Kd.N_typed HO_118000.out) (by decide)) (Kd.N_typed HO_118001.out) (by decide)) (Kd.R_typed HO_118002.out) (by decide)) (Kd.N_typed HO140.out) (by decide)) BK110.out (by decide)) BK117.out (by decide)) (fun k_ hk => ⟨hk.1.1.1.1.1.1.1, ⟨hk.1.1.1.1.1.1.2.2, ⟨hk.1.1.1.1.1.2, ⟨hk.1.1.1.1.2, ⟨hk.1.1.1.2, ⟨hk.1.1.1.1.1.1.2.1, ⟨hk.1.1.2, ⟨hk.1.2, hk.2⟩⟩⟩⟩⟩⟩⟩⟩))))) (Reps.none _ _)))
                intro v133 w35 ho36 hb hg_ hnew_
                clear hg_ hnew_
                (first | rw [← Ny132.out] at ho36 | (simp only [Int.reduceToNat] at ho36; rw [← Ny132.out] at ho36))
                have n0_ := rb HO_64 hb
                have n1_ := Aside0.mk (Kd.N_elder' HO_118000.out (Kd.N_base ho36) hb)
                have n2_ := Aside0.mk (Kd.N_elder' HO_118001.out (Kd.N_base ho36) hb)
                have n3_ := rb HO_118002 hb
                have n4_ := rb HO131 hb
                have n5_ := Aside0.mk (Kd.N_elder' HO140.out (Kd.N_base ho36) hb)
                have n6_ := Aside0.mk (Kd.N_lower ho36 (below_size (bw HB)))
                have n7_ := bb BK110 hb
                have n8_ := bb BK117 hb
                have n9_ := bs HB hb
                clear HO_64
                clear HO_118000
                clear HO_118001
                clear HO_118002
                clear HO131
                clear HO140
                clear BK110
                clear BK117
                clear HB
                clear HO126
                have HO_64 := n0_
                have HO_118000 := n1_
                have HO_118001 := n2_
                have HO_118002 := n3_
                have HO131 := n4_
                have HO140 := n5_
                have HO134 := n6_
                have BK110 := n7_
                have BK117 := n8_
                have HB := n9_
                clear n0_ n1_ n2_ n3_ n4_ n5_ n6_ n7_ n8_ n9_
                clear hb ho36
                refine hK.out _ _ ⟨bc0 BK117, bc1 BK117, bc2 BK117⟩ (fun hHeld => ?_)
                clear hK K
                refine norm_ (a' := ?_) ?_ ?_; rotate_left; (show Act.put _ (some 31) _ = _; simp only [sqa, sqb, sqc, sqd, i64_w, i32_w]; rfl)
                exact norm_ (by first | (simp only [putAll, Act.put, List.setIfInBounds_toArray, List.set_cons_zero, List.set_cons_succ]; done) | (simp only [putAll, Act.put, List.setIfInBounds_toArray, List.set_cons_zero, List.set_cons_succ]; rfl)) (hJ3_8 (v133, v139) _ ⟨hHeld, (by exact Kd.R_mono HO131.out (fun _ hk => ⟨hk.1, hk.2.2⟩)), (by exact Kd.N_mono HO134.out (fun _ hk => ⟨hk.1, ⟨hk.2.2.2.2.2.1, ⟨hk.2.2.2.2.2.2.1, ⟨hk.2.2.1, ⟨hk.2.2.2.1, ⟨hk.2.2.2.2.1, ⟨hk.2.1, ⟨hk.2.2.2.2.2.2.2.1, hk.2.2.2.2.2.2.2.2⟩⟩⟩⟩⟩⟩⟩⟩)), (by exact Kd.N_mono HO140.out (fun _ hk => ⟨hk.1.1, ⟨hk.1.2.2.1, ⟨hk.2, ⟨hk.1.2.2.2.1, ⟨hk.1.2.2.2.2.1, ⟨hk.1.2.2.2.2.2.1, ⟨hk.1.2.2.2.2.2.2.1, ⟨hk.1.2.2.2.2.2.2.2.1, hk.1.2.2.2.2.2.2.2.2⟩⟩⟩⟩⟩⟩⟩⟩)), (by exact Kd.N_mono HO_118000.out (fun _ hk => ⟨hk.1.1, ⟨hk.1.2.2.1, ⟨hk.2, ⟨hk.1.2.2.2.1, ⟨hk.1.2.2.2.2.1, ⟨hk.1.2.2.2.2.2.1, ⟨hk.1.2.2.2.2.2.2.1, ⟨hk.1.2.2.2.2.2.2.2.1, hk.1.2.2.2.2.2.2.2.2⟩⟩⟩⟩⟩⟩⟩⟩)), (by exact Kd.N_mono HO_118001.out (fun _ hk => ⟨hk.1.1, ⟨hk.1.2.2.1, ⟨hk.2, ⟨hk.1.2.2.2.1, ⟨hk.1.2.2.2.2.1, ⟨hk.1.2.2.2.2.2.1, ⟨hk.1.2.2.2.2.2.2.1, ⟨hk.1.2.2.2.2.2.2.2.1, hk.1.2.2.2.2.2.2.2.2⟩⟩⟩⟩⟩⟩⟩⟩)), (rk HO_118002), (by exact Kd.R_mono HO_64.out (fun _ hk => ⟨hk.1, hk.2.2⟩)), (bk BK110), (bk BK117), (bw HB)⟩)
               ·skip
                refine Kd.R_lit_step (Kd.int .i64) _ 3 ?hg (N := 41) ?hd (xs := ([t124] : List Int)) (inner := [.int .i64 t124]) (ok := fun _ => True) (okp := fun _ => True) ?hr ?hp (fun _ hk => hk) trivial (Below.refl _ _) (Nat.le_refl _) (by simp) ?_; (case hd => rfl); (case hg => rfl); (case hr => first | (go_simp; done) | (go_simp; rfl)); (case hp => exact (Reps.one (show Kd.M (Kd.int .i64) _ _ _ t124 [.int .i64 t124] from rfl) (Reps.none _ _)))
                intro v145 w35 ho36 hb hg_ hnew_
                clear hg_ hnew_
                (first | rw [← Ny144.out] at ho36 | (simp only [Int.reduceToNat] at ho36; rw [← Ny144.out] at ho36))
                replace HO_64 := rb HO_64 hb
                replace HO_118000 := Aside0.mk (Kd.N_elder' HO_118000.out (Kd.R_base ho36) hb)
                replace HO_118001 := Aside0.mk (Kd.N_elder' HO_118001.out (Kd.R_base ho36) hb)
                replace HO126 := rb HO126 hb
                replace HO131 := rb HO131 hb
                replace HO140 := Aside0.mk (Kd.N_elder' HO140.out (Kd.R_base ho36) hb)
                have HO146 := Aside0.mk (Kd.R_lower (Kd.R_new' (Kd.R_newM (M := fun k_ => (w.heap.size ≤ k_)) ho36 (below_size (bw HB)) (fun k_ h_ => h_)) (Kd.R_lt (rk HO_118002))) (below_size (bw HB)))
                replace HO_118002 := Aside0.mk (Kd.R_elder' (rk HO_118002) (Kd.R_base ho36) hb)
                replace BK110 := bb BK110 hb
                replace BK117 := bb BK117 hb
                replace HB := bs HB hb
                clear hb ho36
                refine hK.out _ _ ⟨bc0 BK117, bc1 BK117, bc2 BK117⟩ (fun hHeld => ?_)
                clear hK K
                refine norm_ (a' := ?_) ?_ ?_; rotate_left; (show Act.put _ (some 41) _ = _; simp only [sqa, sqb, sqc, sqd, i64_w, i32_w]; rfl)
                exact norm_ (by first | (simp only [putAll, Act.put, List.setIfInBounds_toArray, List.set_cons_zero, List.set_cons_succ]; done) | (simp only [putAll, Act.put, List.setIfInBounds_toArray, List.set_cons_zero, List.set_cons_succ]; rfl)) (hJ8_13 (v139, v145) _ ⟨hHeld, (rk HO126), (rk HO131), (by exact Kd.N_mono HO140.out (fun _ hk => ⟨hk.1.1, ⟨hk.1.2.1, ⟨hk.1.2.2.1, ⟨hk.2, ⟨hk.1.2.2.2.1, ⟨hk.1.2.2.2.2.1, ⟨hk.1.2.2.2.2.2.1, ⟨hk.1.2.2.2.2.2.2.1, ⟨hk.1.2.2.2.2.2.2.2.1, hk.1.2.2.2.2.2.2.2.2⟩⟩⟩⟩⟩⟩⟩⟩⟩)), (by exact Kd.R_mono HO146.out (fun _ hk => ⟨hk.1.1, hk.2⟩)), (by exact Kd.N_mono HO_118000.out (fun _ hk => ⟨hk.1.1, ⟨hk.1.2.1, ⟨hk.1.2.2.1, ⟨hk.1.2.2.2.1, ⟨hk.2, ⟨hk.1.2.2.2.2.1, ⟨hk.1.2.2.2.2.2.1, ⟨hk.1.2.2.2.2.2.2.1, ⟨hk.1.2.2.2.2.2.2.2.1, hk.1.2.2.2.2.2.2.2.2⟩⟩⟩⟩⟩⟩⟩⟩⟩)), (by exact Kd.N_mono HO_118001.out (fun _ hk => ⟨hk.1.1, ⟨hk.1.2.1, ⟨hk.1.2.2.1, ⟨hk.1.2.2.2.1, ⟨hk.2, ⟨hk.1.2.2.2.2.1, ⟨hk.1.2.2.2.2.2.1, ⟨hk.1.2.2.2.2.2.2.1, ⟨hk.1.2.2.2.2.2.2.2.1, hk.1.2.2.2.2.2.2.2.2⟩⟩⟩⟩⟩⟩⟩⟩⟩)), (rk HO_118002), (rk HO_64), (bk BK110), (bk BK117), (bw HB)⟩)
             ·skip
              rintro v133 w33 ⟨hS_, h0_, h1_, h2_, h3_, h4_, h5_, h6_, h7_, h8_, h9_⟩
              have n0_ := Aside0.mk h0_
              have n1_ := Aside0.mk h1_
              have n2_ := Aside0.mk h2_
              have n3_ := Aside0.mk h3_
              have n4_ := Aside0.mk h4_
              have n5_ := Aside0.mk h5_
              have n6_ := Aside0.mk h6_
              have n7_ := Aside0.mk h7_
              have n8_ := Aside0.mk h8_
              have n9_ := Aside0.mk h9_
              clear HO_64
              clear HO_118000
              clear HO_118001
              clear HO_118002
              clear HO126
              clear HO128
              clear HO131
              clear BK110
              clear BK117
              clear HB
              clear h0_ h1_ h2_ h3_ h4_ h5_ h6_ h7_ h8_ h9_
              have HO128 := n0_
              have HO131 := n1_
              have HO134 := n2_
              have HO_118000 := n3_
              have HO_118001 := n4_
              have HO_118002 := n5_
              have HO_64 := n6_
              have BK110 := n7_
              have BK117 := n8_
              have HB := n9_
              clear n0_ n1_ n2_ n3_ n4_ n5_ n6_ n7_ n8_ n9_
              have hHeld : w33.cell? ⟨gb117, 0, none⟩ = some (.slice Ao27 x118000_1.length co27) ∧ w33.cell? ⟨gb117, 1, none⟩ = some (.slice Ao28 x118001_1.length co28) ∧ w33.cell? ⟨gb117, 2, none⟩ = some (.slice Ao29 x118002_1.length co29) := hS_
              obtain ⟨Ao35, co35, eo35⟩ := Kd.N_slice HO134.out
              (first | subst eo35 | (injection eo35 with f1_ f2_ f3_; have f4_ := f1_.symm; have f5_ := f3_.symm; clear f1_ f2_ f3_; subst f4_; subst f5_))
              refine norm_ (a' := ?_) ?_ ?_
              rotate_left
              ·simp only [putAll, Act.put, List.setIfInBounds_toArray, List.set_cons_zero, List.set_cons_succ]
               rfl
              refine three_ (i := 4) (j := 8) (k := 13) (Ni := some 32) (Nj := some 36) (Nk := some 41) (bl 21 7423) (bl 21 7663) (bl 21 15599) rfl rfl rfl rfl rfl rfl (three_of HT_.out (by kernel_rfl)) (by decide) (by decide) (by decide) (fun K hK => ?_) (fun K hK => ?_) (fun K hK => ?_)
              ·skip
               refine Kd.N_append_rows_step (Kd.slice 30 k30) (w0 := w) w.heap.size (by rfl) (.tmp 29) (.tmp 31) 68 24 (.slice none 0 0) 24 rfl Try.underlying68 info24 rfl (by decide) (by omega) (.slice Ao27 x118000_1.length co27) x118000_1 y132 _ _ _ (fun k_ => (w.heap.size ≤ k_) ∧ some k_ ≠ (.slice none 0 0 : Value).ownBlock ∧ some k_ ≠ (.slice Ao28 x118001_1.length co28 : Value).ownBlock ∧ some k_ ≠ (.slice Ao29 x118002_1.length co29 : Value).ownBlock ∧ some k_ ≠ (.slice Ao99 t123.length co99 : Value).ownBlock ∧ some k_ ≠ (.slice none 0 0 : Value).ownBlock ∧ k_ ≠ gb110 ∧ k_ ≠ gb117) (fun k_ => ((fun k_ => (w.heap.size ≤ k_) ∧ some k_ ≠ (.slice none 0 0 : Value).ownBlock ∧ some k_ ≠ (.slice Ao28 x118001_1.length co28 : Value).ownBlock ∧ some k_ ≠ (.slice Ao29 x118002_1.length co29 : Value).ownBlock ∧ some k_ ≠ (.slice Ao99 t123.length co99 : Value).ownBlock ∧ some k_ ≠ (.slice none 0 0 : Value).ownBlock ∧ k_ ≠ gb110 ∧ k_ ≠ gb117)) k_ ∧ some k_ ≠ (.slice Ao27 x118000_1.length co27 : Value).ownBlock) rfl rfl ?aO ?aR (fun _ hk => hk) ?aF ?aB ?aS ?aL ?_
               (case aR => exact (by skip; exact Kd.N_F (Kd.N_mono (ok' := (fun k_ => ((fun k_ => (w.heap.size ≤ k_) ∧ some k_ ≠ (.slice none 0 0 : Value).ownBlock ∧ some k_ ≠ (.slice Ao28 x118001_1.length co28 : Value).ownBlock ∧ some k_ ≠ (.slice Ao29 x118002_1.length co29 : Value).ownBlock ∧ some k_ ≠ (.slice Ao99 t123.length co99 : Value).ownBlock ∧ some k_ ≠ (.slice none 0 0 : Value).ownBlock ∧ k_ ≠ gb110 ∧ k_ ≠ gb117)) k_ ∧ some k_ ≠ (.slice Ao27 x118000_1.length co27 : Value).ownBlock)) (HO134.out) (fun k_ hk => ⟨⟨hk.1, ⟨hk.2.2.2.2.2.2.1, ⟨hk.2.2.2.2.1, ⟨hk.2.2.2.2.2.1, ⟨hk.2.1, ⟨hk.2.2.1, ⟨hk.2.2.2.2.2.2.2.1, hk.2.2.2.2.2.2.2.2⟩⟩⟩⟩⟩⟩⟩, hk.2.2.2.1⟩))))
               (case aB => exact (bw HB))
               (case aF => exact (fun k_ hk => ⟨(Nat.le_trans (below_size (bw HB)) hk), Kd.fresh' (Kd.R_lt (rk HO_64)) k_ hk, Kd.fresh' (Kd.N_lt HO_118001.out) k_ hk, Kd.fresh' (Kd.R_lt (rk HO_118002)) k_ hk, Kd.fresh' (Kd.R_lt (rk HO128)) k_ hk, (by simp [Value.ownBlock]), Kd.freshB (g := gb110) (o := .cells #[.slice none 0 0, .slice none 0 0, .slice none 0 0] 71 (0, 0)) (bk BK110) k_ hk, Kd.freshB (g := gb117) (o := .cells #[.slice Ao27 x118000_1.length co27, .slice Ao28 x118001_1.length co28, .slice Ao29 x118002_1.length co29] 71 (0, 0)) (bk BK117) k_ hk⟩))
               (case aO => exact (by exact Kd.N_mono HO_118000.out (fun _ hk => ⟨hk.1, ⟨hk.2.2.2.2.2.2.1, ⟨hk.2.2.2.2.1, ⟨hk.2.2.2.2.2.1, ⟨hk.2.1, ⟨hk.2.2.1, ⟨hk.2.2.2.2.2.2.2.1, hk.2.2.2.2.2.2.2.2⟩⟩⟩⟩⟩⟩⟩)))
               (case aS => exact (below_size (bw HB)))
               (case aL => have := LMc20.out; omega)
               intro v136 w34 ho hb hg hat
               rw [← Ny135.out] at ho
               have n0_ := Aside0.mk (Kd.R_over' (rk HO_64) (Kd.N_typed HO_118000.out) (by decide) hg)
               have n1_ := Aside0.mk (Kd.N_afterv (ok := (fun k_ => (w.heap.size ≤ k_) ∧ some k_ ≠ (.slice none 0 0 : Value).ownBlock ∧ some k_ ≠ (.slice Ao29 x118002_1.length co29 : Value).ownBlock ∧ some k_ ≠ (.slice Ao99 t123.length co99 : Value).ownBlock ∧ some k_ ≠ (.slice none 0 0 : Value).ownBlock ∧ some k_ ≠ (.slice Ao35 y132.length co35 : Value).ownBlock ∧ k_ ≠ gb110 ∧ k_ ≠ gb117)) (by exact Kd.N_mono HO_118001.out (fun _ hk => ⟨⟨hk.1, ⟨hk.2.2.2.2.2.2.1, ⟨hk.2.2.2.2.2.1, ⟨hk.2.1, ⟨hk.2.2.1, ⟨hk.2.2.2.1, ⟨hk.2.2.2.2.2.2.2.1, hk.2.2.2.2.2.2.2.2⟩⟩⟩⟩⟩⟩⟩, hk.2.2.2.2.1⟩)) hg hat)
               have n2_ := Aside0.mk (Kd.R_over' (rk HO_118002) (Kd.N_typed HO_118000.out) (by decide) hg)
               have n3_ := Aside0.mk (blk_grown (g := gb110) (o := .cells #[.slice none 0 0, .slice none 0 0, .slice none 0 0] 71 (0, 0)) (bk BK110) hg (Kd.N_ne HO_118000.out BK110.out (by decide)))
               have n4_ := Aside0.mk (blk_grown (g := gb117) (o := .cells #[.slice Ao27 x118000_1.length co27, .slice Ao28 x118001_1.length co28, .slice Ao29 x118002_1.length co29] 71 (0, 0)) (bk BK117) hg (Kd.N_ne HO_118000.out BK117.out (by decide)))
               have n5_ := Aside0.mk (Kd.R_over' (rk HO128) (Kd.N_typed HO_118000.out) (by decide) hg)
               have n6_ := Aside0.mk (Kd.R_over' (rk HO131) (Kd.N_typed HO_118000.out) (by decide) hg)
               have n7_ := Aside0.mk (Kd.N_afterv (ok := (fun k_ => (w.heap.size ≤ k_) ∧ some k_ ≠ (.slice none 0 0 : Value).ownBlock ∧ some k_ ≠ (.slice Ao28 x118001_1.length co28 : Value).ownBlock ∧ some k_ ≠ (.slice Ao29 x118002_1.length co29 : Value).ownBlock ∧ some k_ ≠ (.slice Ao99 t123.length co99 : Value).ownBlock ∧ some k_ ≠ (.slice none 0 0 : Value).ownBlock ∧ k_ ≠ gb110 ∧ k_ ≠ gb117)) (by exact Kd.N_mono HO134.out (fun _ hk => ⟨⟨hk.1, ⟨hk.2.2.2.2.2.2.1, ⟨hk.2.2.2.2.1, ⟨hk.2.2.2.2.2.1, ⟨hk.2.1, ⟨hk.2.2.1, ⟨hk.2.2.2.2.2.2.2.1, hk.2.2.2.2.2.2.2.2⟩⟩⟩⟩⟩⟩⟩, hk.2.2.2.1⟩)) hg hat)
               have n8_ := Aside0.mk (hb)
               have n9_ := Aside0.mk (ho)
               clear HO_64
               clear HO_118001
               clear HO_118002
               clear BK110
               clear BK117
               clear HO128
               clear HO131
               clear HO134
               clear HB
               clear HO_118000
               have HO_64 := n0_
               have HO_118001 := n1_
               have HO_118002 := n2_
               have BK110 := n3_
               have BK117 := n4_
               have HO128 := n5_
               have HO131 := n6_
               have HO134 := n7_
               have HB := n8_
               have HO137 := n9_
               clear n0_ n1_ n2_ n3_ n4_ n5_ n6_ n7_ n8_ n9_
               clear ho hb hg hat
               refine hK.out _ _ ⟨bc0 BK117, bc1 BK117, bc2 BK117⟩ (fun hHeld => ?_)
               clear hK K
               refine norm_ (a' := ?_) ?_ ?_; rotate_left; (show Act.put _ (some 32) _ = _; simp only [sqa, sqb, sqc, sqd, i64_w, i32_w]; rfl)
               refine pu 15 43 (bl 21 40191) HT_.out (v := ?_) (a' := ?_) ?_ ?_ ?_
               rotate_left; (intro w'; go_simp; with_reducible rfl); rotate_left; (simp only [sqa, sqb, sqc, sqd, i64_w, i32_w]; rfl)
               exact norm_ (by first | (simp only [putAll, Act.put, List.setIfInBounds_toArray, List.set_cons_zero, List.set_cons_succ]; done) | (simp only [putAll, Act.put, List.setIfInBounds_toArray, List.set_cons_zero, List.set_cons_succ]; rfl)) (hJ3_4 (.slice Ao35 y132.length co35, v136) _ ⟨hHeld, (rk HO128), (rk HO131), (by exact Kd.N_mono HO134.out (fun _ hk => ⟨hk.1.1, ⟨hk.1.2.2.2.2.1, ⟨hk.1.2.2.2.2.2.1, ⟨hk.2, ⟨hk.1.2.2.1, ⟨hk.1.2.2.2.1, ⟨hk.1.2.1, ⟨hk.1.2.2.2.2.2.2.1, hk.1.2.2.2.2.2.2.2⟩⟩⟩⟩⟩⟩⟩⟩)), (by exact Kd.N_mono HO137.out (fun _ hk => ⟨hk.1, ⟨hk.2.2.2.2.1, ⟨hk.2.2.2.2.2.1, ⟨hk.2.2.1, ⟨hk.2.2.2.1, ⟨hk.2.1, ⟨hk.2.2.2.2.2.2.1, hk.2.2.2.2.2.2.2⟩⟩⟩⟩⟩⟩⟩)), (by exact Kd.N_mono HO_118001.out (fun _ hk => ⟨hk.1.1, ⟨hk.1.2.2.2.1, ⟨hk.1.2.2.2.2.1, ⟨hk.1.2.2.2.2.2.1, ⟨hk.2, ⟨hk.1.2.2.1, ⟨hk.1.2.1, ⟨hk.1.2.2.2.2.2.2.1, hk.1.2.2.2.2.2.2.2⟩⟩⟩⟩⟩⟩⟩⟩)), (rk HO_118002), (rk HO_64), (bk BK110), (bk BK117), (bw HB)⟩)
              ·skip
               refine Kd.N_lit_step (Kd.slice 3 (Kd.int .i64)) _ 33 ?hg (N' := 36) ?hd (xs := ([t123] : List (List Int))) (inner := [.slice Ao99 t123.length co99]) (ok := (fun k_ => (w.heap.size ≤ k_) ∧ some k_ ≠ (.slice none 0 0 : Value).ownBlock ∧ some k_ ≠ (.slice Ao27 x118000_1.length co27 : Value).ownBlock ∧ some k_ ≠ (.slice Ao28 x118001_1.length co28 : Value).ownBlock ∧ some k_ ≠ (.slice Ao29 x118002_1.length co29 : Value).ownBlock ∧ some k_ ≠ (.slice none 0 0 : Value).ownBlock ∧ some k_ ≠ ((.slice Ao35 y132.length co35) : Value).ownBlock ∧ k_ ≠ gb110 ∧ k_ ≠ gb117)) (okp := (fun k_ => (w.heap.size ≤ k_) ∧ some k_ ≠ (.slice none 0 0 : Value).ownBlock ∧ some k_ ≠ (.slice Ao27 x118000_1.length co27 : Value).ownBlock ∧ some k_ ≠ (.slice Ao28 x118001_1.length co28 : Value).ownBlock ∧ some k_ ≠ (.slice Ao29 x118002_1.length co29 : Value).ownBlock ∧ some k_ ≠ (.slice none 0 0 : Value).ownBlock ∧ some k_ ≠ ((.slice Ao35 y132.length co35) : Value).ownBlock ∧ k_ ≠ gb110 ∧ k_ ≠ gb117)) ?hr ?hp (fun _ hk => hk) ((show ∀ k_, w33.heap.size ≤ k_ → (fun k_ => (w.heap.size ≤ k_) ∧ some k_ ≠ (.slice none 0 0 : Value).ownBlock ∧ some k_ ≠ (.slice Ao27 x118000_1.length co27 : Value).ownBlock ∧ some k_ ≠ (.slice Ao28 x118001_1.length co28 : Value).ownBlock ∧ some k_ ≠ (.slice Ao29 x118002_1.length co29 : Value).ownBlock ∧ some k_ ≠ (.slice none 0 0 : Value).ownBlock ∧ some k_ ≠ ((.slice Ao35 y132.length co35) : Value).ownBlock ∧ k_ ≠ gb110 ∧ k_ ≠ gb117) k_ from fun k_ hk => ⟨(Nat.le_trans (below_size (bw HB)) hk), Kd.fresh' (Kd.R_lt (rk HO_64)) k_ hk, Kd.fresh' (Kd.N_lt HO_118000.out) k_ hk, Kd.fresh' (Kd.N_lt HO_118001.out) k_ hk, Kd.fresh' (Kd.R_lt (rk HO_118002)) k_ hk, (by simp [Value.ownBlock]), Kd.fresh' (Kd.N_lt HO134.out) k_ hk, Kd.freshB (g := gb110) (o := .cells #[.slice none 0 0, .slice none 0 0, .slice none 0 0] 71 (0, 0)) (bk BK110) k_ hk, Kd.freshB (g := gb117) (o := .cells #[.slice Ao27 x118000_1.length co27, .slice Ao28 x118001_1.length co28, .slice Ao29 x118002_1.length co29] 71 (0, 0)) (bk BK117) k_ hk⟩) _ (Nat.le_refl _)) (Below.refl _ _) (Nat.le_refl _) (by simp) ?_; (case hd => rfl); (case hg => rfl); (case hr => first | (go_simp; done) | (go_simp; rfl)); (case hp => exact (Reps.one (show Kd.FK (Kd.slice 3 (Kd.int .i64)) _ _ t123 [.slice Ao99 t123.length co99] from (Kd.FK_slice_mk (Kd.R_reads' (Kd.R_mono (ok' := (fun k_ => (w.heap.size ≤ k_) ∧ some k_ ≠ (.slice none 0 0 : Value).ownBlock ∧ some k_ ≠ (.slice Ao27 x118000_1.length co27 : Value).ownBlock ∧ some k_ ≠ (.slice Ao28 x118001_1.length co28 : Value).ownBlock ∧ some k_ ≠ (.slice Ao29 x118002_1.length co29 : Value).ownBlock ∧ some k_ ≠ (.slice none 0 0 : Value).ownBlock ∧ some k_ ≠ ((.slice Ao35 y132.length co35) : Value).ownBlock ∧ k_ ≠ gb110 ∧ k_ ≠ gb117)) (Kd.R_types (Kd.R_types (Kd.R_apart' (Kd.R_apart' (Kd.R_apart' (Kd.R_apart' (Kd.R_apart' (HO128.out) (Kd.R_typed HO_64.out) (by decide)) (Kd.N_typed HO_118000.out) (by decide)) (Kd.N_typed HO_118001.out) (by decide)) (Kd.R_typed (Kd.R_nil k30 30 _ 0 (fun _ => True))) (by decide)) (Kd.N_typed HO134.out) (by decide)) BK110.out (by decide)) BK117.out (by decide)) (fun k_ hk => ⟨hk.1.1.1.1.1.1.1.1, ⟨hk.1.1.1.1.1.1.2, ⟨hk.1.1.1.1.1.2, ⟨hk.1.1.1.1.2, ⟨hk.1.1.1.1.1.1.1.2, ⟨hk.1.1.1.2, ⟨hk.1.1.2, ⟨hk.1.2, hk.2⟩⟩⟩⟩⟩⟩⟩⟩))).2.1 (Kd.R_F (Kd.R_mono (ok' := (fun k_ => (w.heap.size ≤ k_) ∧ some k_ ≠ (.slice none 0 0 : Value).ownBlock ∧ some k_ ≠ (.slice Ao27 x118000_1.length co27 : Value).ownBlock ∧ some k_ ≠ (.slice Ao28 x118001_1.length co28 : Value).ownBlock ∧ some k_ ≠ (.slice Ao29 x118002_1.length co29 : Value).ownBlock ∧ some k_ ≠ (.slice none 0 0 : Value).ownBlock ∧ some k_ ≠ ((.slice Ao35 y132.length co35) : Value).ownBlock ∧ k_ ≠ gb110 ∧ k_ ≠ gb117)) (Kd.R_types (Kd.R_types (Kd.R_apart' (Kd.R_apart' (Kd.R_apart' (Kd.R_apart' (Kd.R_apart' (HO128.out) (Kd.R_typed HO_64.out) (by decide)) (Kd.N_typed HO_118000.out) (by decide)) (Kd.N_typed HO_118001.out) (by decide)) (Kd.R_typed (Kd.R_nil k30 30 _ 0 (fun _ => True))) (by decide)) (Kd.N_typed HO134.out) (by decide)) BK110.out (by decide)) BK117.out (by decide)) (fun k_ hk => ⟨hk.1.1.1.1.1.1.1.1, ⟨hk.1.1.1.1.1.1.2, ⟨hk.1.1.1.1.1.2, ⟨hk.1.1.1.1.2, ⟨hk.1.1.1.1.1.1.1.2, ⟨hk.1.1.1.2, ⟨hk.1.1.2, ⟨hk.1.2, hk.2⟩⟩⟩⟩⟩⟩⟩⟩))))) (Reps.none _ _)))
               intro v139 w35 ho36 hb hg_ hnew_
               clear hg_ hnew_
               (first | rw [← Ny138.out] at ho36 | (simp only [Int.reduceToNat] at ho36; rw [← Ny138.out] at ho36))
               have n0_ := rb HO_64 hb
               have n1_ := Aside0.mk (Kd.N_elder' HO_118000.out (Kd.N_base ho36) hb)
               have n2_ := Aside0.mk (Kd.N_elder' HO_118001.out (Kd.N_base ho36) hb)
               have n3_ := rb HO_118002 hb
               have n4_ := rb HO131 hb
               have n5_ := Aside0.mk (Kd.N_elder' HO134.out (Kd.N_base ho36) hb)
               have n6_ := Aside0.mk (Kd.N_lower ho36 (below_size (bw HB)))
               have n7_ := bb BK110 hb
               have n8_ := bb BK117 hb
               have n9_ := bs HB hb
               clear HO_64
               clear HO_118000
               clear HO_118001
               clear HO_118002
               clear HO131
               clear HO134
               clear BK110
               clear BK117
               clear HB
               clear HO128
               have HO_64 := n0_
               have HO_118000 := n1_
               have HO_118001 := n2_
               have HO_118002 := n3_
               have HO131 := n4_
               have HO134 := n5_
               have HO140 := n6_
               have BK110 := n7_
               have BK117 := n8_
               have HB := n9_
               clear n0_ n1_ n2_ n3_ n4_ n5_ n6_ n7_ n8_ n9_
               clear hb ho36
               refine hK.out _ _ ⟨bc0 BK117, bc1 BK117, bc2 BK117⟩ (fun hHeld => ?_)
               clear hK K
               refine norm_ (a' := ?_) ?_ ?_; rotate_left; (show Act.put _ (some 36) _ = _; simp only [sqa, sqb, sqc, sqd, i64_w, i32_w]; rfl)
               exact norm_ (by first | (simp only [putAll, Act.put, List.setIfInBounds_toArray, List.set_cons_zero, List.set_cons_succ]; done) | (simp only [putAll, Act.put, List.setIfInBounds_toArray, List.set_cons_zero, List.set_cons_succ]; rfl)) (hJ3_8 ((.slice Ao35 y132.length co35), v139) _ ⟨hHeld, (rk HO131), (by exact Kd.N_mono HO134.out (fun _ hk => ⟨hk.1.1, ⟨hk.1.2.2.1, ⟨hk.2, ⟨hk.1.2.2.2.1, ⟨hk.1.2.2.2.2.1, ⟨hk.1.2.2.2.2.2.1, ⟨hk.1.2.2.2.2.2.2.1, ⟨hk.1.2.2.2.2.2.2.2.1, hk.1.2.2.2.2.2.2.2.2⟩⟩⟩⟩⟩⟩⟩⟩)), (by exact Kd.N_mono HO140.out (fun _ hk => ⟨hk.1, ⟨hk.2.2.2.2.2.1, ⟨hk.2.2.2.2.2.2.1, ⟨hk.2.2.1, ⟨hk.2.2.2.1, ⟨hk.2.2.2.2.1, ⟨hk.2.1, ⟨hk.2.2.2.2.2.2.2.1, hk.2.2.2.2.2.2.2.2⟩⟩⟩⟩⟩⟩⟩⟩)), (by exact Kd.N_mono HO_118000.out (fun _ hk => ⟨hk.1.1, ⟨hk.1.2.2.1, ⟨hk.1.2.2.2.1, ⟨hk.2, ⟨hk.1.2.2.2.2.1, ⟨hk.1.2.2.2.2.2.1, ⟨hk.1.2.2.2.2.2.2.1, ⟨hk.1.2.2.2.2.2.2.2.1, hk.1.2.2.2.2.2.2.2.2⟩⟩⟩⟩⟩⟩⟩⟩)), (by exact Kd.N_mono HO_118001.out (fun _ hk => ⟨hk.1.1, ⟨hk.1.2.2.1, ⟨hk.1.2.2.2.1, ⟨hk.2, ⟨hk.1.2.2.2.2.1, ⟨hk.1.2.2.2.2.2.1, ⟨hk.1.2.2.2.2.2.2.1, ⟨hk.1.2.2.2.2.2.2.2.1, hk.1.2.2.2.2.2.2.2.2⟩⟩⟩⟩⟩⟩⟩⟩)), (by exact Kd.R_mono HO_118002.out (fun _ hk => hk.1)), (rk HO_64), (bk BK110), (bk BK117), (bw HB)⟩)
              ·skip
               refine Kd.R_lit_step (Kd.int .i64) _ 3 ?hg (N := 41) ?hd (xs := ([t124] : List Int)) (inner := [.int .i64 t124]) (ok := fun _ => True) (okp := fun _ => True) ?hr ?hp (fun _ hk => hk) trivial (Below.refl _ _) (Nat.le_refl _) (by simp) ?_; (case hd => rfl); (case hg => rfl); (case hr => first | (go_simp; done) | (go_simp; rfl)); (case hp => exact (Reps.one (show Kd.M (Kd.int .i64) _ _ _ t124 [.int .i64 t124] from rfl) (Reps.none _ _)))
               intro v145 w34 ho35 hb hg_ hnew_
               clear hg_ hnew_
               (first | rw [← Ny144.out] at ho35 | (simp only [Int.reduceToNat] at ho35; rw [← Ny144.out] at ho35))
               replace HO_64 := rb HO_64 hb
               replace HO_118000 := Aside0.mk (Kd.N_elder' HO_118000.out (Kd.R_base ho35) hb)
               replace HO_118001 := Aside0.mk (Kd.N_elder' HO_118001.out (Kd.R_base ho35) hb)
               replace HO131 := rb HO131 hb
               replace HO134 := Aside0.mk (Kd.N_elder' HO134.out (Kd.R_base ho35) hb)
               have HO146 := Aside0.mk (Kd.R_lower (Kd.R_new' (Kd.R_new' (Kd.R_newM (M := fun k_ => (w.heap.size ≤ k_)) ho35 (below_size (bw HB)) (fun k_ h_ => h_)) (Kd.R_lt (rk HO_118002))) (Kd.R_lt (rk HO128))) (below_size (bw HB)))
               replace HO_118002 := Aside0.mk (Kd.R_elder' (rk HO_118002) (Kd.R_base ho35) hb)
               replace HO128 := Aside0.mk (Kd.R_elder' (rk HO128) (Kd.R_base ho35) hb)
               replace BK110 := bb BK110 hb
               replace BK117 := bb BK117 hb
               replace HB := bs HB hb
               clear hb ho35
               refine hK.out _ _ ⟨bc0 BK117, bc1 BK117, bc2 BK117⟩ (fun hHeld => ?_)
               clear hK K
               refine norm_ (a' := ?_) ?_ ?_; rotate_left; (show Act.put _ (some 41) _ = _; simp only [sqa, sqb, sqc, sqd, i64_w, i32_w]; rfl)
               exact norm_ (by first | (simp only [putAll, Act.put, List.setIfInBounds_toArray, List.set_cons_zero, List.set_cons_succ]; done) | (simp only [putAll, Act.put, List.setIfInBounds_toArray, List.set_cons_zero, List.set_cons_succ]; rfl)) (hJ3_13 ((.slice Ao35 y132.length co35), v145) _ ⟨hHeld, (by exact Kd.R_mono HO128.out (fun _ hk => ⟨hk.1.1, ⟨hk.2, hk.1.2⟩⟩)), (rk HO131), (by exact Kd.N_mono HO134.out (fun _ hk => ⟨hk.1.1, ⟨hk.1.2.1, ⟨hk.1.2.2.1, ⟨hk.2, ⟨hk.1.2.2.2.1, ⟨hk.1.2.2.2.2.1, ⟨hk.1.2.2.2.2.2.1, ⟨hk.1.2.2.2.2.2.2.1, ⟨hk.1.2.2.2.2.2.2.2.1, hk.1.2.2.2.2.2.2.2.2⟩⟩⟩⟩⟩⟩⟩⟩⟩)), (by exact Kd.R_mono HO146.out (fun _ hk => ⟨hk.1.1.1, ⟨hk.2, hk.1.2⟩⟩)), (by exact Kd.N_mono HO_118000.out (fun _ hk => ⟨hk.1.1, ⟨hk.1.2.1, ⟨hk.1.2.2.1, ⟨hk.1.2.2.2.1, ⟨hk.2, ⟨hk.1.2.2.2.2.1, ⟨hk.1.2.2.2.2.2.1, ⟨hk.1.2.2.2.2.2.2.1, ⟨hk.1.2.2.2.2.2.2.2.1, hk.1.2.2.2.2.2.2.2.2⟩⟩⟩⟩⟩⟩⟩⟩⟩)), (by exact Kd.N_mono HO_118001.out (fun _ hk => ⟨hk.1.1, ⟨hk.1.2.1, ⟨hk.1.2.2.1, ⟨hk.1.2.2.2.1, ⟨hk.2, ⟨hk.1.2.2.2.2.1, ⟨hk.1.2.2.2.2.2.1, ⟨hk.1.2.2.2.2.2.2.1, ⟨hk.1.2.2.2.2.2.2.2.1, hk.1.2.2.2.2.2.2.2.2⟩⟩⟩⟩⟩⟩⟩⟩⟩)), (by exact Kd.R_mono HO_118002.out (fun _ hk => ⟨hk.1.1, ⟨hk.1.2, hk.2⟩⟩)), (rk HO_64), (bk BK110), (bk BK117), (bw HB)⟩)
            ·skip
             rintro ⟨v139, v145⟩ w36 ⟨hS_, h0_, h1_, h2_, h3_, h4_, h5_, h6_, h7_, h8_, h9_, h10_⟩
             have n0_ := Aside0.mk h0_
             have n1_ := Aside0.mk h1_
             have n2_ := Aside0.mk h2_
             have n3_ := Aside0.mk h3_
             have n4_ := Aside0.mk h4_
             have n5_ := Aside0.mk h5_
             have n6_ := Aside0.mk h6_
             have n7_ := Aside0.mk h7_
             have n8_ := Aside0.mk h8_
             have n9_ := Aside0.mk h9_
             have n10_ := Aside0.mk h10_
             clear HO_64
             clear HO_118000
             clear HO_118001
             clear HO_118002
             clear HO126
             clear HO128
             clear HO131
             clear BK110
             clear BK117
             clear HB
             clear h0_ h1_ h2_ h3_ h4_ h5_ h6_ h7_ h8_ h9_ h10_
             have HO126 := n0_
             have HO131 := n1_
             have HO140 := n2_
             have HO146 := n3_
             have HO_118000 := n4_
             have HO_118001 := n5_
             have HO_118002 := n6_
             have HO_64 := n7_
             have BK110 := n8_
             have BK117 := n9_
             have HB := n10_
             clear n0_ n1_ n2_ n3_ n4_ n5_ n6_ n7_ n8_ n9_ n10_
             have hHeld : w36.cell? ⟨gb117, 0, none⟩ = some (.slice Ao27 x118000_1.length co27) ∧ w36.cell? ⟨gb117, 1, none⟩ = some (.slice Ao28 x118001_1.length co28) ∧ w36.cell? ⟨gb117, 2, none⟩ = some (.slice Ao29 x118002_1.length co29) := hS_
             refine norm_ (a' := ?_) ?_ ?_
             rotate_left
             ·simp only [putAll, Act.put, List.setIfInBounds_toArray, List.set_cons_zero, List.set_cons_succ]
              rfl
             refine on 3 31 (bl 21 15855) HT_.out (fun K hK => ?_)
             refine Kd.N_lit_step (Kd.slice 30 k30) _ 24 ?hg (N' := 31) ?hd (xs := ([t122] : List (List (S30)))) (inner := [.slice Ao25 t122.length co25]) (ok := (fun k_ => (w.heap.size ≤ k_) ∧ some k_ ≠ (.slice none 0 0 : Value).ownBlock ∧ some k_ ≠ (.slice Ao27 x118000_1.length co27 : Value).ownBlock ∧ some k_ ≠ (.slice Ao28 x118001_1.length co28 : Value).ownBlock ∧ some k_ ≠ (.slice Ao29 x118002_1.length co29 : Value).ownBlock ∧ some k_ ≠ (.slice none 0 0 : Value).ownBlock ∧ some k_ ≠ (v139 : Value).ownBlock ∧ some k_ ≠ (v145 : Value).ownBlock ∧ k_ ≠ gb110 ∧ k_ ≠ gb117)) (okp := (fun k_ => (w.heap.size ≤ k_) ∧ some k_ ≠ (.slice none 0 0 : Value).ownBlock ∧ some k_ ≠ (.slice Ao27 x118000_1.length co27 : Value).ownBlock ∧ some k_ ≠ (.slice Ao28 x118001_1.length co28 : Value).ownBlock ∧ some k_ ≠ (.slice Ao29 x118002_1.length co29 : Value).ownBlock ∧ some k_ ≠ (.slice none 0 0 : Value).ownBlock ∧ some k_ ≠ (v139 : Value).ownBlock ∧ some k_ ≠ (v145 : Value).ownBlock ∧ k_ ≠ gb110 ∧ k_ ≠ gb117)) ?hr ?hp (fun _ hk => hk) ((show ∀ k_, w36.heap.size ≤ k_ → (fun k_ => (w.heap.size ≤ k_) ∧ some k_ ≠ (.slice none 0 0 : Value).ownBlock ∧ some k_ ≠ (.slice Ao27 x118000_1.length co27 : Value).ownBlock ∧ some k_ ≠ (.slice Ao28 x118001_1.length co28 : Value).ownBlock ∧ some k_ ≠ (.slice Ao29 x118002_1.length co29 : Value).ownBlock ∧ some k_ ≠ (.slice none 0 0 : Value).ownBlock ∧ some k_ ≠ (v139 : Value).ownBlock ∧ some k_ ≠ (v145 : Value).ownBlock ∧ k_ ≠ gb110 ∧ k_ ≠ gb117) k_ from fun k_ hk => ⟨(Nat.le_trans (below_size (bw HB)) hk), Kd.fresh' (Kd.R_lt (rk HO_64)) k_ hk, Kd.fresh' (Kd.N_lt HO_118000.out) k_ hk, Kd.fresh' (Kd.N_lt HO_118001.out) k_ hk, Kd.fresh' (Kd.R_lt (rk HO_118002)) k_ hk, (by simp [Value.ownBlock]), Kd.fresh' (Kd.N_lt HO140.out) k_ hk, Kd.fresh' (Kd.R_lt (rk HO146)) k_ hk, Kd.freshB (g := gb110) (o := .cells #[.slice none 0 0, .slice none 0 0, .slice none 0 0] 71 (0, 0)) (bk BK110) k_ hk, Kd.freshB (g := gb117) (o := .cells #[.slice Ao27 x118000_1.length co27, .slice Ao28 x118001_1.length co28, .slice Ao29 x118002_1.length co29] 71 (0, 0)) (bk BK117) k_ hk⟩) _ (Nat.le_refl _)) (Below.refl _ _) (Nat.le_refl _) (by simp) ?_; (case hd => rfl); (case hg => rfl); (case hr => first | (go_simp; done) | (go_simp; rfl)); (case hp => exact (Reps.one (show Kd.FK (Kd.slice 30 k30) _ _ t122 [.slice Ao25 t122.length co25] from (Kd.FK_slice_mk (Kd.R_reads' (Kd.R_mono (ok' := (fun k_ => (w.heap.size ≤ k_) ∧ some k_ ≠ (.slice none 0 0 : Value).ownBlock ∧ some k_ ≠ (.slice Ao27 x118000_1.length co27 : Value).ownBlock ∧ some k_ ≠ (.slice Ao28 x118001_1.length co28 : Value).ownBlock ∧ some k_ ≠ (.slice Ao29 x118002_1.length co29 : Value).ownBlock ∧ some k_ ≠ (.slice none 0 0 : Value).ownBlock ∧ some k_ ≠ (v139 : Value).ownBlock ∧ some k_ ≠ (v145 : Value).ownBlock ∧ k_ ≠ gb110 ∧ k_ ≠ gb117)) (Kd.R_types (Kd.R_types (Kd.R_apart' (Kd.R_apart' (Kd.R_apart' (Kd.R_apart' (Kd.R_apart' (HO126.out) (Kd.N_typed HO_118000.out) (by decide)) (Kd.N_typed HO_118001.out) (by decide)) (Kd.R_typed HO_118002.out) (by decide)) (Kd.N_typed HO140.out) (by decide)) (Kd.R_typed HO146.out) (by decide)) BK110.out (by decide)) BK117.out (by decide)) (fun k_ hk => ⟨hk.1.1.1.1.1.1.1.1, ⟨hk.1.1.1.1.1.1.1.2.2, ⟨hk.1.1.1.1.1.1.2, ⟨hk.1.1.1.1.1.2, ⟨hk.1.1.1.1.2, ⟨hk.1.1.1.1.1.1.1.2.1, ⟨hk.1.1.1.2, ⟨hk.1.1.2, ⟨hk.1.2, hk.2⟩⟩⟩⟩⟩⟩⟩⟩⟩))).2.1 (Kd.R_F (Kd.R_mono (ok' := (fun k_ => (w.heap.size ≤ k_) ∧ some k_ ≠ (.slice none 0 0 : Value).ownBlock ∧ some k_ ≠ (.slice Ao27 x118000_1.length co27 : Value).ownBlock ∧ some k_ ≠ (.slice Ao28 x118001_1.length co28 : Value).ownBlock ∧ some k_ ≠ (.slice Ao29 x118002_1.length co29 : Value).ownBlock ∧ some k_ ≠ (.slice none 0 0 : Value).ownBlock ∧ some k_ ≠ (v139 : Value).ownBlock ∧ some k_ ≠ (v145 : Value).ownBlock ∧ k_ ≠ gb110 ∧ k_ ≠ gb117)) (Kd.R_types (Kd.R_types (Kd.R_apart' (Kd.R_apart' (Kd.R_apart' (Kd.R_apart' (Kd.R_apart' (HO126.out) (Kd.N_typed HO_118000.out) (by decide)) (Kd.N_typed HO_118001.out) (by decide)) (Kd.R_typed HO_118002.out) (by decide)) (Kd.N_typed HO140.out) (by decide)) (Kd.R_typed HO146.out) (by decide)) BK110.out (by decide)) BK117.out (by decide)) (fun k_ hk => ⟨hk.1.1.1.1.1.1.1.1, ⟨hk.1.1.1.1.1.1.1.2.2, ⟨hk.1.1.1.1.1.1.2, ⟨hk.1.1.1.1.1.2, ⟨hk.1.1.1.1.2, ⟨hk.1.1.1.1.1.1.1.2.1, ⟨hk.1.1.1.2, ⟨hk.1.1.2, ⟨hk.1.2, hk.2⟩⟩⟩⟩⟩⟩⟩⟩⟩))))) (Reps.none _ _)))
             intro v133 w37 ho38 hb hg_ hnew_
             clear hg_ hnew_
             (first | rw [← Ny132.out] at ho38 | (simp only [Int.reduceToNat] at ho38; rw [← Ny132.out] at ho38))
             have n0_ := rb HO_64 hb
             have n1_ := Aside0.mk (Kd.N_elder' HO_118000.out (Kd.N_base ho38) hb)
             have n2_ := Aside0.mk (Kd.N_elder' HO_118001.out (Kd.N_base ho38) hb)
             have n3_ := rb HO_118002 hb
             have n4_ := rb HO131 hb
             have n5_ := Aside0.mk (Kd.N_elder' HO140.out (Kd.N_base ho38) hb)
             have n6_ := rb HO146 hb
             have n7_ := Aside0.mk (Kd.N_lower ho38 (below_size (bw HB)))
             have n8_ := bb BK110 hb
             have n9_ := bb BK117 hb
             have n10_ := bs HB hb
             clear HO_64
             clear HO_118000
             clear HO_118001
             clear HO_118002
             clear HO131
             clear HO140
             clear HO146
             clear BK110
             clear BK117
             clear HB
             clear HO126
             have HO_64 := n0_
             have HO_118000 := n1_
             have HO_118001 := n2_
             have HO_118002 := n3_
             have HO131 := n4_
             have HO140 := n5_
             have HO146 := n6_
             have HO134 := n7_
             have BK110 := n8_
             have BK117 := n9_
             have HB := n10_
             clear n0_ n1_ n2_ n3_ n4_ n5_ n6_ n7_ n8_ n9_ n10_
             clear hb ho38
             refine hK.out _ _ ⟨bc0 BK117, bc1 BK117, bc2 BK117⟩ (fun hHeld => ?_)
             clear hK K
             refine norm_ (a' := ?_) ?_ ?_; rotate_left; (show Act.put _ (some 31) _ = _; simp only [sqa, sqb, sqc, sqd, i64_w, i32_w]; rfl)
             exact norm_ (by first | (simp only [putAll, Act.put, List.setIfInBounds_toArray, List.set_cons_zero, List.set_cons_succ]; done) | (simp only [putAll, Act.put, List.setIfInBounds_toArray, List.set_cons_zero, List.set_cons_succ]; rfl)) (hJ3_8_13 (v133, v139, v145) _ ⟨hHeld, (by exact Kd.R_mono HO131.out (fun _ hk => ⟨hk.1, hk.2.2⟩)), (by exact Kd.N_mono HO134.out (fun _ hk => ⟨hk.1, ⟨hk.2.2.2.2.2.1, ⟨hk.2.2.2.2.2.2.1, ⟨hk.2.2.2.2.2.2.2.1, ⟨hk.2.2.1, ⟨hk.2.2.2.1, ⟨hk.2.2.2.2.1, ⟨hk.2.1, ⟨hk.2.2.2.2.2.2.2.2.1, hk.2.2.2.2.2.2.2.2.2⟩⟩⟩⟩⟩⟩⟩⟩⟩)), (by exact Kd.N_mono HO140.out (fun _ hk => ⟨hk.1.1, ⟨hk.1.2.2.1, ⟨hk.2, ⟨hk.1.2.2.2.1, ⟨hk.1.2.2.2.2.1, ⟨hk.1.2.2.2.2.2.1, ⟨hk.1.2.2.2.2.2.2.1, ⟨hk.1.2.2.2.2.2.2.2.1, ⟨hk.1.2.2.2.2.2.2.2.2.1, hk.1.2.2.2.2.2.2.2.2.2⟩⟩⟩⟩⟩⟩⟩⟩⟩)), (rk HO146), (by exact Kd.N_mono HO_118000.out (fun _ hk => ⟨hk.1.1, ⟨hk.1.2.2.1, ⟨hk.2, ⟨hk.1.2.2.2.1, ⟨hk.1.2.2.2.2.1, ⟨hk.1.2.2.2.2.2.1, ⟨hk.1.2.2.2.2.2.2.1, ⟨hk.1.2.2.2.2.2.2.2.1, ⟨hk.1.2.2.2.2.2.2.2.2.1, hk.1.2.2.2.2.2.2.2.2.2⟩⟩⟩⟩⟩⟩⟩⟩⟩)), (by exact Kd.N_mono HO_118001.out (fun _ hk => ⟨hk.1.1, ⟨hk.1.2.2.1, ⟨hk.2, ⟨hk.1.2.2.2.1, ⟨hk.1.2.2.2.2.1, ⟨hk.1.2.2.2.2.2.1, ⟨hk.1.2.2.2.2.2.2.1, ⟨hk.1.2.2.2.2.2.2.2.1, ⟨hk.1.2.2.2.2.2.2.2.2.1, hk.1.2.2.2.2.2.2.2.2.2⟩⟩⟩⟩⟩⟩⟩⟩⟩)), (rk HO_118002), (by exact Kd.R_mono HO_64.out (fun _ hk => ⟨hk.1, hk.2.2⟩)), (bk BK110), (bk BK117), (bw HB)⟩)
           ·skip
            rintro ⟨v133, v145⟩ w35 ⟨hS_, h0_, h1_, h2_, h3_, h4_, h5_, h6_, h7_, h8_, h9_, h10_⟩
            have n0_ := Aside0.mk h0_
            have n1_ := Aside0.mk h1_
            have n2_ := Aside0.mk h2_
            have n3_ := Aside0.mk h3_
            have n4_ := Aside0.mk h4_
            have n5_ := Aside0.mk h5_
            have n6_ := Aside0.mk h6_
            have n7_ := Aside0.mk h7_
            have n8_ := Aside0.mk h8_
            have n9_ := Aside0.mk h9_
            have n10_ := Aside0.mk h10_
            clear HO_64
            clear HO_118000
            clear HO_118001
            clear HO_118002
            clear HO126
            clear HO128
            clear HO131
            clear BK110
            clear BK117
            clear HB
            clear h0_ h1_ h2_ h3_ h4_ h5_ h6_ h7_ h8_ h9_ h10_
            have HO128 := n0_
            have HO131 := n1_
            have HO134 := n2_
            have HO146 := n3_
            have HO_118000 := n4_
            have HO_118001 := n5_
            have HO_118002 := n6_
            have HO_64 := n7_
            have BK110 := n8_
            have BK117 := n9_
            have HB := n10_
            clear n0_ n1_ n2_ n3_ n4_ n5_ n6_ n7_ n8_ n9_ n10_
            have hHeld : w35.cell? ⟨gb117, 0, none⟩ = some (.slice Ao27 x118000_1.length co27) ∧ w35.cell? ⟨gb117, 1, none⟩ = some (.slice Ao28 x118001_1.length co28) ∧ w35.cell? ⟨gb117, 2, none⟩ = some (.slice Ao29 x118002_1.length co29) := hS_
            obtain ⟨Ao37, co37, eo37⟩ := Kd.N_slice HO134.out
            (first | subst eo37 | (injection eo37 with f1_ f2_ f3_; have f4_ := f1_.symm; have f5_ := f3_.symm; clear f1_ f2_ f3_; subst f4_; subst f5_))
            refine norm_ (a' := ?_) ?_ ?_
            rotate_left
            ·simp only [putAll, Act.put, List.setIfInBounds_toArray, List.set_cons_zero, List.set_cons_succ]
             rfl
            refine two_ (i := 4) (j := 8) (Ni := some 32) (Nj := some 36) (bl 21 15615) (bl 21 15855) rfl rfl rfl rfl (two_of HT_.out (by kernel_rfl)) (by decide) (by decide) (fun K hK => ?_) (fun K hK => ?_)
            ·skip
             refine Kd.N_append_rows_step (Kd.slice 30 k30) (w0 := w) w.heap.size (by rfl) (.tmp 29) (.tmp 31) 68 24 (.slice none 0 0) 24 rfl Try.underlying68 info24 rfl (by decide) (by omega) (.slice Ao27 x118000_1.length co27) x118000_1 y132 _ _ _ (fun k_ => (w.heap.size ≤ k_) ∧ some k_ ≠ (.slice none 0 0 : Value).ownBlock ∧ some k_ ≠ (.slice Ao28 x118001_1.length co28 : Value).ownBlock ∧ some k_ ≠ (.slice Ao29 x118002_1.length co29 : Value).ownBlock ∧ some k_ ≠ (.slice Ao99 t123.length co99 : Value).ownBlock ∧ some k_ ≠ (.slice none 0 0 : Value).ownBlock ∧ some k_ ≠ (v145 : Value).ownBlock ∧ k_ ≠ gb110 ∧ k_ ≠ gb117) (fun k_ => ((fun k_ => (w.heap.size ≤ k_) ∧ some k_ ≠ (.slice none 0 0 : Value).ownBlock ∧ some k_ ≠ (.slice Ao28 x118001_1.length co28 : Value).ownBlock ∧ some k_ ≠ (.slice Ao29 x118002_1.length co29 : Value).ownBlock ∧ some k_ ≠ (.slice Ao99 t123.length co99 : Value).ownBlock ∧ some k_ ≠ (.slice none 0 0 : Value).ownBlock ∧ some k_ ≠ (v145 : Value).ownBlock ∧ k_ ≠ gb110 ∧ k_ ≠ gb117)) k_ ∧ some k_ ≠ (.slice Ao27 x118000_1.length co27 : Value).ownBlock) rfl rfl ?aO ?aR (fun _ hk => hk) ?aF ?aB ?aS ?aL ?_
             (case aR => exact (by skip; exact Kd.N_F (Kd.N_mono (ok' := (fun k_ => ((fun k_ => (w.heap.size ≤ k_) ∧ some k_ ≠ (.slice none 0 0 : Value).ownBlock ∧ some k_ ≠ (.slice Ao28 x118001_1.length co28 : Value).ownBlock ∧ some k_ ≠ (.slice Ao29 x118002_1.length co29 : Value).ownBlock ∧ some k_ ≠ (.slice Ao99 t123.length co99 : Value).ownBlock ∧ some k_ ≠ (.slice none 0 0 : Value).ownBlock ∧ some k_ ≠ (v145 : Value).ownBlock ∧ k_ ≠ gb110 ∧ k_ ≠ gb117)) k_ ∧ some k_ ≠ (.slice Ao27 x118000_1.length co27 : Value).ownBlock)) (HO134.out) (fun k_ hk => ⟨⟨hk.1, ⟨hk.2.2.2.2.2.2.2.1, ⟨hk.2.2.2.2.2.1, ⟨hk.2.2.2.2.2.2.1, ⟨hk.2.1, ⟨hk.2.2.1, ⟨hk.2.2.2.1, ⟨hk.2.2.2.2.2.2.2.2.1, hk.2.2.2.2.2.2.2.2.2⟩⟩⟩⟩⟩⟩⟩⟩, hk.2.2.2.2.1⟩))))
             (case aB => exact (bw HB))
             (case aF => exact (fun k_ hk => ⟨(Nat.le_trans (below_size (bw HB)) hk), Kd.fresh' (Kd.R_lt (rk HO_64)) k_ hk, Kd.fresh' (Kd.N_lt HO_118001.out) k_ hk, Kd.fresh' (Kd.R_lt (rk HO_118002)) k_ hk, Kd.fresh' (Kd.R_lt (rk HO128)) k_ hk, (by simp [Value.ownBlock]), Kd.fresh' (Kd.R_lt (rk HO146)) k_ hk, Kd.freshB (g := gb110) (o := .cells #[.slice none 0 0, .slice none 0 0, .slice none 0 0] 71 (0, 0)) (bk BK110) k_ hk, Kd.freshB (g := gb117) (o := .cells #[.slice Ao27 x118000_1.length co27, .slice Ao28 x118001_1.length co28, .slice Ao29 x118002_1.length co29] 71 (0, 0)) (bk BK117) k_ hk⟩))
             (case aO => exact (by exact Kd.N_mono HO_118000.out (fun _ hk => ⟨hk.1, ⟨hk.2.2.2.2.2.2.2.1, ⟨hk.2.2.2.2.2.1, ⟨hk.2.2.2.2.2.2.1, ⟨hk.2.1, ⟨hk.2.2.1, ⟨hk.2.2.2.2.1, ⟨hk.2.2.2.2.2.2.2.2.1, hk.2.2.2.2.2.2.2.2.2⟩⟩⟩⟩⟩⟩⟩⟩)))
             (case aS => exact (below_size (bw HB)))
             (case aL => have := LMc20.out; omega)
             intro v136 w36 ho hb hg hat
             rw [← Ny135.out] at ho
             have n0_ := Aside0.mk (Kd.R_over' (rk HO_64) (Kd.N_typed HO_118000.out) (by decide) hg)
             have n1_ := Aside0.mk (Kd.N_afterv (ok := (fun k_ => (w.heap.size ≤ k_) ∧ some k_ ≠ (.slice none 0 0 : Value).ownBlock ∧ some k_ ≠ (.slice Ao29 x118002_1.length co29 : Value).ownBlock ∧ some k_ ≠ (.slice Ao99 t123.length co99 : Value).ownBlock ∧ some k_ ≠ (.slice none 0 0 : Value).ownBlock ∧ some k_ ≠ (.slice Ao37 y132.length co37 : Value).ownBlock ∧ some k_ ≠ (v145 : Value).ownBlock ∧ k_ ≠ gb110 ∧ k_ ≠ gb117)) (by exact Kd.N_mono HO_118001.out (fun _ hk => ⟨⟨hk.1, ⟨hk.2.2.2.2.2.2.2.1, ⟨hk.2.2.2.2.2.2.1, ⟨hk.2.1, ⟨hk.2.2.1, ⟨hk.2.2.2.1, ⟨hk.2.2.2.2.1, ⟨hk.2.2.2.2.2.2.2.2.1, hk.2.2.2.2.2.2.2.2.2⟩⟩⟩⟩⟩⟩⟩⟩, hk.2.2.2.2.2.1⟩)) hg hat)
             have n2_ := Aside0.mk (Kd.R_over' (rk HO_118002) (Kd.N_typed HO_118000.out) (by decide) hg)
             have n3_ := Aside0.mk (blk_grown (g := gb110) (o := .cells #[.slice none 0 0, .slice none 0 0, .slice none 0 0] 71 (0, 0)) (bk BK110) hg (Kd.N_ne HO_118000.out BK110.out (by decide)))
             have n4_ := Aside0.mk (blk_grown (g := gb117) (o := .cells #[.slice Ao27 x118000_1.length co27, .slice Ao28 x118001_1.length co28, .slice Ao29 x118002_1.length co29] 71 (0, 0)) (bk BK117) hg (Kd.N_ne HO_118000.out BK117.out (by decide)))
             have n5_ := Aside0.mk (Kd.R_over' (rk HO128) (Kd.N_typed HO_118000.out) (by decide) hg)
             have n6_ := Aside0.mk (Kd.R_over' (rk HO131) (Kd.N_typed HO_118000.out) (by decide) hg)
             have n7_ := Aside0.mk (Kd.N_afterv (ok := (fun k_ => (w.heap.size ≤ k_) ∧ some k_ ≠ (.slice none 0 0 : Value).ownBlock ∧ some k_ ≠ (.slice Ao28 x118001_1.length co28 : Value).ownBlock ∧ some k_ ≠ (.slice Ao29 x118002_1.length co29 : Value).ownBlock ∧ some k_ ≠ (.slice Ao99 t123.length co99 : Value).ownBlock ∧ some k_ ≠ (.slice none 0 0 : Value).ownBlock ∧ some k_ ≠ (v145 : Value).ownBlock ∧ k_ ≠ gb110 ∧ k_ ≠ gb117)) (by exact Kd.N_mono HO134.out (fun _ hk => ⟨⟨hk.1, ⟨hk.2.2.2.2.2.2.2.1, ⟨hk.2.2.2.2.2.1, ⟨hk.2.2.2.2.2.2.1, ⟨hk.2.1, ⟨hk.2.2.1, ⟨hk.2.2.2.1, ⟨hk.2.2.2.2.2.2.2.2.1, hk.2.2.2.2.2.2.2.2.2⟩⟩⟩⟩⟩⟩⟩⟩, hk.2.2.2.2.1⟩)) hg hat)
             have n8_ := Aside0.mk (Kd.R_over' (rk HO146) (Kd.N_typed HO_118000.out) (by decide) hg)
             have n9_ := Aside0.mk (hb)
             have n10_ := Aside0.mk (ho)
             clear HO_64
             clear HO_118001
             clear HO_118002
             clear BK110
             clear BK117
             clear HO128
             clear HO131
             clear HO134
             clear HO146
             clear HB
             clear HO_118000
             have HO_64 := n0_
             have HO_118001 := n1_
             have HO_118002 := n2_
             have BK110 := n3_
             have BK117 := n4_
             have HO128 := n5_
             have HO131 := n6_
             have HO134 := n7_
             have HO146 := n8_
             have HB := n9_
             have HO137 := n10_
             clear n0_ n1_ n2_ n3_ n4_ n5_ n6_ n7_ n8_ n9_ n10_
             clear ho hb hg hat
             refine hK.out _ _ ⟨bc0 BK117, bc1 BK117, bc2 BK117⟩ (fun hHeld => ?_)
             clear hK K
             refine norm_ (a' := ?_) ?_ ?_; rotate_left; (show Act.put _ (some 32) _ = _; simp only [sqa, sqb, sqc, sqd, i64_w, i32_w]; rfl)
             refine pu 15 43 (bl 21 48383) HT_.out (v := ?_) (a' := ?_) ?_ ?_ ?_
             rotate_left; (intro w'; go_simp; with_reducible rfl); rotate_left; (simp only [sqa, sqb, sqc, sqd, i64_w, i32_w]; rfl)
             exact norm_ (by first | (simp only [putAll, Act.put, List.setIfInBounds_toArray, List.set_cons_zero, List.set_cons_succ]; done) | (simp only [putAll, Act.put, List.setIfInBounds_toArray, List.set_cons_zero, List.set_cons_succ]; rfl)) (hJ3_4_13 (.slice Ao37 y132.length co37, v136, v145) _ ⟨hHeld, (rk HO128), (rk HO131), (by exact Kd.N_mono HO134.out (fun _ hk => ⟨hk.1.1, ⟨hk.1.2.2.2.2.1, ⟨hk.1.2.2.2.2.2.1, ⟨hk.2, ⟨hk.1.2.2.2.2.2.2.1, ⟨hk.1.2.2.1, ⟨hk.1.2.2.2.1, ⟨hk.1.2.1, ⟨hk.1.2.2.2.2.2.2.2.1, hk.1.2.2.2.2.2.2.2.2⟩⟩⟩⟩⟩⟩⟩⟩⟩)), (by exact Kd.N_mono HO137.out (fun _ hk => ⟨hk.1, ⟨hk.2.2.2.2.1, ⟨hk.2.2.2.2.2.1, ⟨hk.2.2.2.2.2.2.1, ⟨hk.2.2.1, ⟨hk.2.2.2.1, ⟨hk.2.1, ⟨hk.2.2.2.2.2.2.2.1, hk.2.2.2.2.2.2.2.2⟩⟩⟩⟩⟩⟩⟩⟩)), (rk HO146), (by exact Kd.N_mono HO_118001.out (fun _ hk => ⟨hk.1.1, ⟨hk.1.2.2.2.1, ⟨hk.1.2.2.2.2.1, ⟨hk.1.2.2.2.2.2.1, ⟨hk.2, ⟨hk.1.2.2.2.2.2.2.1, ⟨hk.1.2.2.1, ⟨hk.1.2.1, ⟨hk.1.2.2.2.2.2.2.2.1, hk.1.2.2.2.2.2.2.2.2⟩⟩⟩⟩⟩⟩⟩⟩⟩)), (rk HO_118002), (rk HO_64), (bk BK110), (bk BK117), (bw HB)⟩)
            ·skip
             refine Kd.N_lit_step (Kd.slice 3 (Kd.int .i64)) _ 33 ?hg (N' := 36) ?hd (xs := ([t123] : List (List Int))) (inner := [.slice Ao99 t123.length co99]) (ok := (fun k_ => (w.heap.size ≤ k_) ∧ some k_ ≠ (.slice none 0 0 : Value).ownBlock ∧ some k_ ≠ (.slice Ao27 x118000_1.length co27 : Value).ownBlock ∧ some k_ ≠ (.slice Ao28 x118001_1.length co28 : Value).ownBlock ∧ some k_ ≠ (.slice Ao29 x118002_1.length co29 : Value).ownBlock ∧ some k_ ≠ (.slice none 0 0 : Value).ownBlock ∧ some k_ ≠ ((.slice Ao37 y132.length co37) : Value).ownBlock ∧ some k_ ≠ (v145 : Value).ownBlock ∧ k_ ≠ gb110 ∧ k_ ≠ gb117)) (okp := (fun k_ => (w.heap.size ≤ k_) ∧ some k_ ≠ (.slice none 0 0 : Value).ownBlock ∧ some k_ ≠ (.slice Ao27 x118000_1.length co27 : Value).ownBlock ∧ some k_ ≠ (.slice Ao28 x118001_1.length co28 : Value).ownBlock ∧ some k_ ≠ (.slice Ao29 x118002_1.length co29 : Value).ownBlock ∧ some k_ ≠ (.slice none 0 0 : Value).ownBlock ∧ some k_ ≠ ((.slice Ao37 y132.length co37) : Value).ownBlock ∧ some k_ ≠ (v145 : Value).ownBlock ∧ k_ ≠ gb110 ∧ k_ ≠ gb117)) ?hr ?hp (fun _ hk => hk) ((show ∀ k_, w35.heap.size ≤ k_ → (fun k_ => (w.heap.size ≤ k_) ∧ some k_ ≠ (.slice none 0 0 : Value).ownBlock ∧ some k_ ≠ (.slice Ao27 x118000_1.length co27 : Value).ownBlock ∧ some k_ ≠ (.slice Ao28 x118001_1.length co28 : Value).ownBlock ∧ some k_ ≠ (.slice Ao29 x118002_1.length co29 : Value).ownBlock ∧ some k_ ≠ (.slice none 0 0 : Value).ownBlock ∧ some k_ ≠ ((.slice Ao37 y132.length co37) : Value).ownBlock ∧ some k_ ≠ (v145 : Value).ownBlock ∧ k_ ≠ gb110 ∧ k_ ≠ gb117) k_ from fun k_ hk => ⟨(Nat.le_trans (below_size (bw HB)) hk), Kd.fresh' (Kd.R_lt (rk HO_64)) k_ hk, Kd.fresh' (Kd.N_lt HO_118000.out) k_ hk, Kd.fresh' (Kd.N_lt HO_118001.out) k_ hk, Kd.fresh' (Kd.R_lt (rk HO_118002)) k_ hk, (by simp [Value.ownBlock]), Kd.fresh' (Kd.N_lt HO134.out) k_ hk, Kd.fresh' (Kd.R_lt (rk HO146)) k_ hk, Kd.freshB (g := gb110) (o := .cells #[.slice none 0 0, .slice none 0 0, .slice none 0 0] 71 (0, 0)) (bk BK110) k_ hk, Kd.freshB (g := gb117) (o := .cells #[.slice Ao27 x118000_1.length co27, .slice Ao28 x118001_1.length co28, .slice Ao29 x118002_1.length co29] 71 (0, 0)) (bk BK117) k_ hk⟩) _ (Nat.le_refl _)) (Below.refl _ _) (Nat.le_refl _) (by simp) ?_; (case hd => rfl); (case hg => rfl); (case hr => first | (go_simp; done) | (go_simp; rfl)); (case hp => exact (Reps.one (show Kd.FK (Kd.slice 3 (Kd.int .i64)) _ _ t123 [.slice Ao99 t123.length co99] from (Kd.FK_slice_mk (Kd.R_reads' (Kd.R_mono (ok' := (fun k_ => (w.heap.size ≤ k_) ∧ some k_ ≠ (.slice none 0 0 : Value).ownBlock ∧ some k_ ≠ (.slice Ao27 x118000_1.length co27 : Value).ownBlock ∧ some k_ ≠ (.slice Ao28 x118001_1.length co28 : Value).ownBlock ∧ some k_ ≠ (.slice Ao29 x118002_1.length co29 : Value).ownBlock ∧ some k_ ≠ (.slice none 0 0 : Value).ownBlock ∧ some k_ ≠ ((.slice Ao37 y132.length co37) : Value).ownBlock ∧ some k_ ≠ (v145 : Value).ownBlock ∧ k_ ≠ gb110 ∧ k_ ≠ gb117)) (Kd.R_types (Kd.R_types (Kd.R_apart' (Kd.R_apart' (Kd.R_apart' (Kd.R_apart' (Kd.R_apart' (HO128.out) (Kd.R_typed HO_64.out) (by decide)) (Kd.N_typed HO_118000.out) (by decide)) (Kd.N_typed HO_118001.out) (by decide)) (Kd.R_typed (Kd.R_nil k30 30 _ 0 (fun _ => True))) (by decide)) (Kd.N_typed HO134.out) (by decide)) BK110.out (by decide)) BK117.out (by decide)) (fun k_ hk => ⟨hk.1.1.1.1.1.1.1.1, ⟨hk.1.1.1.1.1.1.2, ⟨hk.1.1.1.1.1.2, ⟨hk.1.1.1.1.2, ⟨hk.1.1.1.1.1.1.1.2.2, ⟨hk.1.1.1.2, ⟨hk.1.1.2, ⟨hk.1.1.1.1.1.1.1.2.1, ⟨hk.1.2, hk.2⟩⟩⟩⟩⟩⟩⟩⟩⟩))).2.1 (Kd.R_F (Kd.R_mono (ok' := (fun k_ => (w.heap.size ≤ k_) ∧ some k_ ≠ (.slice none 0 0 : Value).ownBlock ∧ some k_ ≠ (.slice Ao27 x118000_1.length co27 : Value).ownBlock ∧ some k_ ≠ (.slice Ao28 x118001_1.length co28 : Value).ownBlock ∧ some k_ ≠ (.slice Ao29 x118002_1.length co29 : Value).ownBlock ∧ some k_ ≠ (.slice none 0 0 : Value).ownBlock ∧ some k_ ≠ ((.slice Ao37 y132.length co37) : Value).ownBlock ∧ some k_ ≠ (v145 : Value).ownBlock ∧ k_ ≠ gb110 ∧ k_ ≠ gb117)) (Kd.R_types (Kd.R_types (Kd.R_apart' (Kd.R_apart' (Kd.R_apart' (Kd.R_apart' (Kd.R_apart' (HO128.out) (Kd.R_typed HO_64.out) (by decide)) (Kd.N_typed HO_118000.out) (by decide)) (Kd.N_typed HO_118001.out) (by decide)) (Kd.R_typed (Kd.R_nil k30 30 _ 0 (fun _ => True))) (by decide)) (Kd.N_typed HO134.out) (by decide)) BK110.out (by decide)) BK117.out (by decide)) (fun k_ hk => ⟨hk.1.1.1.1.1.1.1.1, ⟨hk.1.1.1.1.1.1.2, ⟨hk.1.1.1.1.1.2, ⟨hk.1.1.1.1.2, ⟨hk.1.1.1.1.1.1.1.2.2, ⟨hk.1.1.1.2, ⟨hk.1.1.2, ⟨hk.1.1.1.1.1.1.1.2.1, ⟨hk.1.2, hk.2⟩⟩⟩⟩⟩⟩⟩⟩⟩))))) (Reps.none _ _)))
             intro v139 w37 ho38 hb hg_ hnew_
             clear hg_ hnew_
             (first | rw [← Ny138.out] at ho38 | (simp only [Int.reduceToNat] at ho38; rw [← Ny138.out] at ho38))
             have n0_ := rb HO_64 hb
             have n1_ := Aside0.mk (Kd.N_elder' HO_118000.out (Kd.N_base ho38) hb)
             have n2_ := Aside0.mk (Kd.N_elder' HO_118001.out (Kd.N_base ho38) hb)
             have n3_ := rb HO_118002 hb
             have n4_ := rb HO131 hb
             have n5_ := Aside0.mk (Kd.N_elder' HO134.out (Kd.N_base ho38) hb)
             have n6_ := rb HO146 hb
             have n7_ := Aside0.mk (Kd.N_lower ho38 (below_size (bw HB)))
             have n8_ := bb BK110 hb
             have n9_ := bb BK117 hb
             have n10_ := bs HB hb
             clear HO_64
             clear HO_118000
             clear HO_118001
             clear HO_118002
             clear HO131
             clear HO134
             clear HO146
             clear BK110
             clear BK117
             clear HB
             clear HO128
             have HO_64 := n0_
             have HO_118000 := n1_
             have HO_118001 := n2_
             have HO_118002 := n3_
             have HO131 := n4_
             have HO134 := n5_
             have HO146 := n6_
             have HO140 := n7_
             have BK110 := n8_
             have BK117 := n9_
             have HB := n10_
             clear n0_ n1_ n2_ n3_ n4_ n5_ n6_ n7_ n8_ n9_ n10_
             clear hb ho38
             refine hK.out _ _ ⟨bc0 BK117, bc1 BK117, bc2 BK117⟩ (fun hHeld => ?_)
             clear hK K
             refine norm_ (a' := ?_) ?_ ?_; rotate_left; (show Act.put _ (some 36) _ = _; simp only [sqa, sqb, sqc, sqd, i64_w, i32_w]; rfl)
             exact norm_ (by first | (simp only [putAll, Act.put, List.setIfInBounds_toArray, List.set_cons_zero, List.set_cons_succ]; done) | (simp only [putAll, Act.put, List.setIfInBounds_toArray, List.set_cons_zero, List.set_cons_succ]; rfl)) (hJ3_8_13 ((.slice Ao37 y132.length co37), v139, v145) _ ⟨hHeld, (rk HO131), (by exact Kd.N_mono HO134.out (fun _ hk => ⟨hk.1.1, ⟨hk.1.2.2.1, ⟨hk.2, ⟨hk.1.2.2.2.1, ⟨hk.1.2.2.2.2.1, ⟨hk.1.2.2.2.2.2.1, ⟨hk.1.2.2.2.2.2.2.1, ⟨hk.1.2.2.2.2.2.2.2.1, ⟨hk.1.2.2.2.2.2.2.2.2.1, hk.1.2.2.2.2.2.2.2.2.2⟩⟩⟩⟩⟩⟩⟩⟩⟩)), (by exact Kd.N_mono HO140.out (fun _ hk => ⟨hk.1, ⟨hk.2.2.2.2.2.1, ⟨hk.2.2.2.2.2.2.1, ⟨hk.2.2.2.2.2.2.2.1, ⟨hk.2.2.1, ⟨hk.2.2.2.1, ⟨hk.2.2.2.2.1, ⟨hk.2.1, ⟨hk.2.2.2.2.2.2.2.2.1, hk.2.2.2.2.2.2.2.2.2⟩⟩⟩⟩⟩⟩⟩⟩⟩)), (by exact Kd.R_mono HO146.out (fun _ hk => ⟨hk.1, hk.2.2⟩)), (by exact Kd.N_mono HO_118000.out (fun _ hk => ⟨hk.1.1, ⟨hk.1.2.2.1, ⟨hk.1.2.2.2.1, ⟨hk.2, ⟨hk.1.2.2.2.2.1, ⟨hk.1.2.2.2.2.2.1, ⟨hk.1.2.2.2.2.2.2.1, ⟨hk.1.2.2.2.2.2.2.2.1, ⟨hk.1.2.2.2.2.2.2.2.2.1, hk.1.2.2.2.2.2.2.2.2.2⟩⟩⟩⟩⟩⟩⟩⟩⟩)), (by exact Kd.N_mono HO_118001.out (fun _ hk => ⟨hk.1.1, ⟨hk.1.2.2.1, ⟨hk.1.2.2.2.1, ⟨hk.2, ⟨hk.1.2.2.2.2.1, ⟨hk.1.2.2.2.2.2.1, ⟨hk.1.2.2.2.2.2.2.1, ⟨hk.1.2.2.2.2.2.2.2.1, ⟨hk.1.2.2.2.2.2.2.2.2.1, hk.1.2.2.2.2.2.2.2.2.2⟩⟩⟩⟩⟩⟩⟩⟩⟩)), (by exact Kd.R_mono HO_118002.out (fun _ hk => ⟨hk.1, hk.2.2⟩)), (rk HO_64), (bk BK110), (bk BK117), (bw HB)⟩)
          ·skip
           rintro ⟨v133, v139⟩ w36 ⟨hS_, h0_, h1_, h2_, h3_, h4_, h5_, h6_, h7_, h8_, h9_⟩
           have n0_ := Aside0.mk h0_
           have n1_ := Aside0.mk h1_
           have n2_ := Aside0.mk h2_
           have n3_ := Aside0.mk h3_
           have n4_ := Aside0.mk h4_
           have n5_ := Aside0.mk h5_
           have n6_ := Aside0.mk h6_
           have n7_ := Aside0.mk h7_
           have n8_ := Aside0.mk h8_
           have n9_ := Aside0.mk h9_
           clear HO_64
           clear HO_118000
           clear HO_118001
           clear HO_118002
           clear HO126
           clear HO128
           clear HO131
           clear BK110
           clear BK117
           clear HB
           clear h0_ h1_ h2_ h3_ h4_ h5_ h6_ h7_ h8_ h9_
           have HO131 := n0_
           have HO134 := n1_
           have HO140 := n2_
           have HO_118000 := n3_
           have HO_118001 := n4_
           have HO_118002 := n5_
           have HO_64 := n6_
           have BK110 := n7_
           have BK117 := n8_
           have HB := n9_
           clear n0_ n1_ n2_ n3_ n4_ n5_ n6_ n7_ n8_ n9_
           have hHeld : w36.cell? ⟨gb117, 0, none⟩ = some (.slice Ao27 x118000_1.length co27) ∧ w36.cell? ⟨gb117, 1, none⟩ = some (.slice Ao28 x118001_1.length co28) ∧ w36.cell? ⟨gb117, 2, none⟩ = some (.slice Ao29 x118002_1.length co29) := hS_
           obtain ⟨Ao38, co38, eo38⟩ := Kd.N_slice HO134.out
           (first | subst eo38 | (injection eo38 with f1_ f2_ f3_; have f4_ := f1_.symm; have f5_ := f3_.symm; clear f1_ f2_ f3_; subst f4_; subst f5_))
           refine norm_ (a' := ?_) ?_ ?_
           rotate_left
           ·simp only [putAll, Act.put, List.setIfInBounds_toArray, List.set_cons_zero, List.set_cons_succ]
            rfl
           refine two_ (i := 4) (j := 13) (Ni := some 32) (Nj := some 41) (bl 21 7679) (bl 21 15855) rfl rfl rfl rfl (two_of HT_.out (by kernel_rfl)) (by decide) (by decide) (fun K hK => ?_) (fun K hK => ?_)
           ·skip
            refine Kd.N_append_rows_step (Kd.slice 30 k30) (w0 := w) w.heap.size (by rfl) (.tmp 29) (.tmp 31) 68 24 (.slice none 0 0) 24 rfl Try.underlying68 info24 rfl (by decide) (by omega) (.slice Ao27 x118000_1.length co27) x118000_1 y132 _ _ _ (fun k_ => (w.heap.size ≤ k_) ∧ some k_ ≠ (.slice none 0 0 : Value).ownBlock ∧ some k_ ≠ (.slice Ao28 x118001_1.length co28 : Value).ownBlock ∧ some k_ ≠ (.slice Ao29 x118002_1.length co29 : Value).ownBlock ∧ some k_ ≠ (.slice none 0 0 : Value).ownBlock ∧ some k_ ≠ (v139 : Value).ownBlock ∧ k_ ≠ gb110 ∧ k_ ≠ gb117) (fun k_ => ((fun k_ => (w.heap.size ≤ k_) ∧ some k_ ≠ (.slice none 0 0 : Value).ownBlock ∧ some k_ ≠ (.slice Ao28 x118001_1.length co28 : Value).ownBlock ∧ some k_ ≠ (.slice Ao29 x118002_1.length co29 : Value).ownBlock ∧ some k_ ≠ (.slice none 0 0 : Value).ownBlock ∧ some k_ ≠ (v139 : Value).ownBlock ∧ k_ ≠ gb110 ∧ k_ ≠ gb117)) k_ ∧ some k_ ≠ (.slice Ao27 x118000_1.length co27 : Value).ownBlock) rfl rfl ?aO ?aR (fun _ hk => hk) ?aF ?aB ?aS ?aL ?_
            (case aR => exact (by skip; exact Kd.N_F (Kd.N_mono (ok' := (fun k_ => ((fun k_ => (w.heap.size ≤ k_) ∧ some k_ ≠ (.slice none 0 0 : Value).ownBlock ∧ some k_ ≠ (.slice Ao28 x118001_1.length co28 : Value).ownBlock ∧ some k_ ≠ (.slice Ao29 x118002_1.length co29 : Value).ownBlock ∧ some k_ ≠ (.slice none 0 0 : Value).ownBlock ∧ some k_ ≠ (v139 : Value).ownBlock ∧ k_ ≠ gb110 ∧ k_ ≠ gb117)) k_ ∧ some k_ ≠ (.slice Ao27 x118000_1.length co27 : Value).ownBlock)) (HO134.out) (fun k_ hk => ⟨⟨hk.1, ⟨hk.2.2.2.2.2.2.1, ⟨hk.2.2.2.2.1, ⟨hk.2.2.2.2.2.1, ⟨hk.2.1, ⟨hk.2.2.1, ⟨hk.2.2.2.2.2.2.2.1, hk.2.2.2.2.2.2.2.2⟩⟩⟩⟩⟩⟩⟩, hk.2.2.2.1⟩))))
            (case aB => exact (bw HB))
            (case aF => exact (fun k_ hk => ⟨(Nat.le_trans (below_size (bw HB)) hk), Kd.fresh' (Kd.R_lt (rk HO_64)) k_ hk, Kd.fresh' (Kd.N_lt HO_118001.out) k_ hk, Kd.fresh' (Kd.R_lt (rk HO_118002)) k_ hk, (by simp [Value.ownBlock]), Kd.fresh' (Kd.N_lt HO140.out) k_ hk, Kd.freshB (g := gb110) (o := .cells #[.slice none 0 0, .slice none 0 0, .slice none 0 0] 71 (0, 0)) (bk BK110) k_ hk, Kd.freshB (g := gb117) (o := .cells #[.slice Ao27 x118000_1.length co27, .slice Ao28 x118001_1.length co28, .slice Ao29 x118002_1.length co29] 71 (0, 0)) (bk BK117) k_ hk⟩))
            (case aO => exact (by exact Kd.N_mono HO_118000.out (fun _ hk => ⟨hk.1, ⟨hk.2.2.2.2.2.2.1, ⟨hk.2.2.2.2.1, ⟨hk.2.2.2.2.2.1, ⟨hk.2.1, ⟨hk.2.2.2.1, ⟨hk.2.2.2.2.2.2.2.1, hk.2.2.2.2.2.2.2.2⟩⟩⟩⟩⟩⟩⟩)))
            (case aS => exact (below_size (bw HB)))
            (case aL => have := LMc20.out; omega)
            intro v136 w37 ho hb hg hat
            rw [← Ny135.out] at ho
            have n0_ := Aside0.mk (Kd.R_over' (rk HO_64) (Kd.N_typed HO_118000.out) (by decide) hg)
            have n1_ := Aside0.mk (Kd.N_afterv (ok := (fun k_ => (w.heap.size ≤ k_) ∧ some k_ ≠ (.slice none 0 0 : Value).ownBlock ∧ some k_ ≠ (.slice Ao29 x118002_1.length co29 : Value).ownBlock ∧ some k_ ≠ (.slice none 0 0 : Value).ownBlock ∧ some k_ ≠ (.slice Ao38 y132.length co38 : Value).ownBlock ∧ some k_ ≠ (v139 : Value).ownBlock ∧ k_ ≠ gb110 ∧ k_ ≠ gb117)) (by exact Kd.N_mono HO_118001.out (fun _ hk => ⟨⟨hk.1, ⟨hk.2.2.2.2.2.2.1, ⟨hk.2.2.2.2.2.1, ⟨hk.2.1, ⟨hk.2.2.1, ⟨hk.2.2.2.1, ⟨hk.2.2.2.2.2.2.2.1, hk.2.2.2.2.2.2.2.2⟩⟩⟩⟩⟩⟩⟩, hk.2.2.2.2.1⟩)) hg hat)
            have n2_ := Aside0.mk (Kd.R_over' (rk HO_118002) (Kd.N_typed HO_118000.out) (by decide) hg)
            have n3_ := Aside0.mk (blk_grown (g := gb110) (o := .cells #[.slice none 0 0, .slice none 0 0, .slice none 0 0] 71 (0, 0)) (bk BK110) hg (Kd.N_ne HO_118000.out BK110.out (by decide)))
            have n4_ := Aside0.mk (blk_grown (g := gb117) (o := .cells #[.slice Ao27 x118000_1.length co27, .slice Ao28 x118001_1.length co28, .slice Ao29 x118002_1.length co29] 71 (0, 0)) (bk BK117) hg (Kd.N_ne HO_118000.out BK117.out (by decide)))
            have n5_ := Aside0.mk (Kd.R_over' (rk HO131) (Kd.N_typed HO_118000.out) (by decide) hg)
            have n6_ := Aside0.mk (Kd.N_afterv (ok := (fun k_ => (w.heap.size ≤ k_) ∧ some k_ ≠ (.slice none 0 0 : Value).ownBlock ∧ some k_ ≠ (.slice Ao28 x118001_1.length co28 : Value).ownBlock ∧ some k_ ≠ (.slice Ao29 x118002_1.length co29 : Value).ownBlock ∧ some k_ ≠ (.slice none 0 0 : Value).ownBlock ∧ some k_ ≠ (v139 : Value).ownBlock ∧ k_ ≠ gb110 ∧ k_ ≠ gb117)) (by exact Kd.N_mono HO134.out (fun _ hk => ⟨⟨hk.1, ⟨hk.2.2.2.2.2.2.1, ⟨hk.2.2.2.2.1, ⟨hk.2.2.2.2.2.1, ⟨hk.2.1, ⟨hk.2.2.1, ⟨hk.2.2.2.2.2.2.2.1, hk.2.2.2.2.2.2.2.2⟩⟩⟩⟩⟩⟩⟩, hk.2.2.2.1⟩)) hg hat)
            have n7_ := Aside0.mk (Kd.N_afterv (ok := (fun k_ => (w.heap.size ≤ k_) ∧ some k_ ≠ (.slice none 0 0 : Value).ownBlock ∧ some k_ ≠ (.slice Ao28 x118001_1.length co28 : Value).ownBlock ∧ some k_ ≠ (.slice Ao29 x118002_1.length co29 : Value).ownBlock ∧ some k_ ≠ (.slice none 0 0 : Value).ownBlock ∧ some k_ ≠ (.slice Ao38 y132.length co38 : Value).ownBlock ∧ k_ ≠ gb110 ∧ k_ ≠ gb117)) (by exact Kd.N_mono HO140.out (fun _ hk => ⟨⟨hk.1, ⟨hk.2.2.2.2.2.2.1, ⟨hk.2.2.2.2.1, ⟨hk.2.2.2.2.2.1, ⟨hk.2.1, ⟨hk.2.2.1, ⟨hk.2.2.2.2.2.2.2.1, hk.2.2.2.2.2.2.2.2⟩⟩⟩⟩⟩⟩⟩, hk.2.2.2.1⟩)) hg hat)
            have n8_ := Aside0.mk (hb)
            have n9_ := Aside0.mk (ho)
            clear HO_64
            clear HO_118001
            clear HO_118002
            clear BK110
            clear BK117
            clear HO131
            clear HO134
            clear HO140
            clear HB
            clear HO_118000
            have HO_64 := n0_
            have HO_118001 := n1_
            have HO_118002 := n2_
            have BK110 := n3_
            have BK117 := n4_
            have HO131 := n5_
            have HO134 := n6_
            have HO140 := n7_
            have HB := n8_
            have HO137 := n9_
            clear n0_ n1_ n2_ n3_ n4_ n5_ n6_ n7_ n8_ n9_
            clear ho hb hg hat
            refine hK.out _ _ ⟨bc0 BK117, bc1 BK117, bc2 BK117⟩ (fun hHeld => ?_)
            clear hK K
            refine norm_ (a' := ?_) ?_ ?_; rotate_left; (show Act.put _ (some 32) _ = _; simp only [sqa, sqb, sqc, sqd, i64_w, i32_w]; rfl)
            refine pu 15 43 (bl 21 40447) HT_.out (v := ?_) (a' := ?_) ?_ ?_ ?_
            rotate_left; (intro w'; go_simp; with_reducible rfl); rotate_left; (simp only [sqa, sqb, sqc, sqd, i64_w, i32_w]; rfl)
            exact norm_ (by first | (simp only [putAll, Act.put, List.setIfInBounds_toArray, List.set_cons_zero, List.set_cons_succ]; done) | (simp only [putAll, Act.put, List.setIfInBounds_toArray, List.set_cons_zero, List.set_cons_succ]; rfl)) (hJ3_4_8 (.slice Ao38 y132.length co38, v136, v139) _ ⟨hHeld, (rk HO131), (by exact Kd.N_mono HO134.out (fun _ hk => ⟨hk.1.1, ⟨hk.1.2.2.2.2.1, ⟨hk.2, ⟨hk.1.2.2.2.2.2.1, ⟨hk.1.2.2.1, ⟨hk.1.2.2.2.1, ⟨hk.1.2.1, ⟨hk.1.2.2.2.2.2.2.1, hk.1.2.2.2.2.2.2.2⟩⟩⟩⟩⟩⟩⟩⟩)), (by exact Kd.N_mono HO137.out (fun _ hk => ⟨hk.1, ⟨hk.2.2.2.2.1, ⟨hk.2.2.2.2.2.1, ⟨hk.2.2.1, ⟨hk.2.2.2.1, ⟨hk.2.1, ⟨hk.2.2.2.2.2.2.1, hk.2.2.2.2.2.2.2⟩⟩⟩⟩⟩⟩⟩)), (by exact Kd.N_mono HO140.out (fun _ hk => ⟨hk.1.1, ⟨hk.1.2.2.2.2.1, ⟨hk.1.2.2.2.2.2.1, ⟨hk.2, ⟨hk.1.2.2.1, ⟨hk.1.2.2.2.1, ⟨hk.1.2.1, ⟨hk.1.2.2.2.2.2.2.1, hk.1.2.2.2.2.2.2.2⟩⟩⟩⟩⟩⟩⟩⟩)), (by exact Kd.N_mono HO_118001.out (fun _ hk => ⟨hk.1.1, ⟨hk.1.2.2.2.1, ⟨hk.1.2.2.2.2.1, ⟨hk.2, ⟨hk.1.2.2.2.2.2.1, ⟨hk.1.2.2.1, ⟨hk.1.2.1, ⟨hk.1.2.2.2.2.2.2.1, hk.1.2.2.2.2.2.2.2⟩⟩⟩⟩⟩⟩⟩⟩)), (rk HO_118002), (rk HO_64), (bk BK110), (bk BK117), (bw HB)⟩)
           ·skip
            refine Kd.R_lit_step (Kd.int .i64) _ 3 ?hg (N := 41) ?hd (xs := ([t124] : List Int)) (inner := [.int .i64 t124]) (ok := fun _ => True) (okp := fun _ => True) ?hr ?hp (fun _ hk => hk) trivial (Below.refl _ _) (Nat.le_refl _) (by simp) ?_; (case hd => rfl); (case hg => rfl); (case hr => first | (go_simp; done) | (go_simp; rfl)); (case hp => exact (Reps.one (show Kd.M (Kd.int .i64) _ _ _ t124 [.int .i64 t124] from rfl) (Reps.none _ _)))
            intro v145 w37 ho38 hb hg_ hnew_
            clear hg_ hnew_
            (first | rw [← Ny144.out] at ho38 | (simp only [Int.reduceToNat] at ho38; rw [← Ny144.out] at ho38))
            replace HO_64 := rb HO_64 hb
            replace HO_118000 := Aside0.mk (Kd.N_elder' HO_118000.out (Kd.R_base ho38) hb)
            replace HO_118001 := Aside0.mk (Kd.N_elder' HO_118001.out (Kd.R_base ho38) hb)
            replace HO131 := rb HO131 hb
            replace HO134 := Aside0.mk (Kd.N_elder' HO134.out (Kd.R_base ho38) hb)
            replace HO140 := Aside0.mk (Kd.N_elder' HO140.out (Kd.R_base ho38) hb)
            have HO146 := Aside0.mk (Kd.R_lower (Kd.R_new' (Kd.R_newM (M := fun k_ => (w.heap.size ≤ k_)) ho38 (below_size (bw HB)) (fun k_ h_ => h_)) (Kd.R_lt (rk HO_118002))) (below_size (bw HB)))
            replace HO_118002 := Aside0.mk (Kd.R_elder' (rk HO_118002) (Kd.R_base ho38) hb)
            replace BK110 := bb BK110 hb
            replace BK117 := bb BK117 hb
            replace HB := bs HB hb
            clear hb ho38
            refine hK.out _ _ ⟨bc0 BK117, bc1 BK117, bc2 BK117⟩ (fun hHeld => ?_)
            clear hK K
            refine norm_ (a' := ?_) ?_ ?_; rotate_left; (show Act.put _ (some 41) _ = _; simp only [sqa, sqb, sqc, sqd, i64_w, i32_w]; rfl)
            exact norm_ (by first | (simp only [putAll, Act.put, List.setIfInBounds_toArray, List.set_cons_zero, List.set_cons_succ]; done) | (simp only [putAll, Act.put, List.setIfInBounds_toArray, List.set_cons_zero, List.set_cons_succ]; rfl)) (hJ3_8_13 ((.slice Ao38 y132.length co38), v139, v145) _ ⟨hHeld, (rk HO131), (by exact Kd.N_mono HO134.out (fun _ hk => ⟨hk.1.1, ⟨hk.1.2.1, ⟨hk.1.2.2.1, ⟨hk.2, ⟨hk.1.2.2.2.1, ⟨hk.1.2.2.2.2.1, ⟨hk.1.2.2.2.2.2.1, ⟨hk.1.2.2.2.2.2.2.1, ⟨hk.1.2.2.2.2.2.2.2.1, hk.1.2.2.2.2.2.2.2.2⟩⟩⟩⟩⟩⟩⟩⟩⟩)), (by exact Kd.N_mono HO140.out (fun _ hk => ⟨hk.1.1, ⟨hk.1.2.1, ⟨hk.1.2.2.1, ⟨hk.2, ⟨hk.1.2.2.2.1, ⟨hk.1.2.2.2.2.1, ⟨hk.1.2.2.2.2.2.1, ⟨hk.1.2.2.2.2.2.2.1, ⟨hk.1.2.2.2.2.2.2.2.1, hk.1.2.2.2.2.2.2.2.2⟩⟩⟩⟩⟩⟩⟩⟩⟩)), (by exact Kd.R_mono HO146.out (fun _ hk => ⟨hk.1.1, hk.2⟩)), (by exact Kd.N_mono HO_118000.out (fun _ hk => ⟨hk.1.1, ⟨hk.1.2.1, ⟨hk.1.2.2.1, ⟨hk.1.2.2.2.1, ⟨hk.2, ⟨hk.1.2.2.2.2.1, ⟨hk.1.2.2.2.2.2.1, ⟨hk.1.2.2.2.2.2.2.1, ⟨hk.1.2.2.2.2.2.2.2.1, hk.1.2.2.2.2.2.2.2.2⟩⟩⟩⟩⟩⟩⟩⟩⟩)), (by exact Kd.N_mono HO_118001.out (fun _ hk => ⟨hk.1.1, ⟨hk.1.2.1, ⟨hk.1.2.2.1, ⟨hk.1.2.2.2.1, ⟨hk.2, ⟨hk.1.2.2.2.2.1, ⟨hk.1.2.2.2.2.2.1, ⟨hk.1.2.2.2.2.2.2.1, ⟨hk.1.2.2.2.2.2.2.2.1, hk.1.2.2.2.2.2.2.2.2⟩⟩⟩⟩⟩⟩⟩⟩⟩)), (rk HO_118002), (rk HO_64), (bk BK110), (bk BK117), (bw HB)⟩)
         ·skip
          rintro ⟨v133, v136⟩ w35 ⟨hS_, h0_, h1_, h2_, h3_, h4_, h5_, h6_, h7_, h8_, h9_⟩
          have n0_ := Aside0.mk h0_
          have n1_ := Aside0.mk h1_
          have n2_ := Aside0.mk h2_
          have n3_ := Aside0.mk h3_
          have n4_ := Aside0.mk h4_
          have n5_ := Aside0.mk h5_
          have n6_ := Aside0.mk h6_
          have n7_ := Aside0.mk h7_
          have n8_ := Aside0.mk h8_
          have n9_ := Aside0.mk h9_
          clear HO_64
          clear HO_118000
          clear HO_118001
          clear HO_118002
          clear HO126
          clear HO128
          clear HO131
          clear BK110
          clear BK117
          clear HB
          clear h0_ h1_ h2_ h3_ h4_ h5_ h6_ h7_ h8_ h9_
          have HO128 := n0_
          have HO131 := n1_
          have HO134 := n2_
          have HO137 := n3_
          have HO_118001 := n4_
          have HO_118002 := n5_
          have HO_64 := n6_
          have BK110 := n7_
          have BK117 := n8_
          have HB := n9_
          clear n0_ n1_ n2_ n3_ n4_ n5_ n6_ n7_ n8_ n9_
          have hHeld : w35.cell? ⟨gb117, 0, none⟩ = some (.slice Ao27 x118000_1.length co27) ∧ w35.cell? ⟨gb117, 1, none⟩ = some (.slice Ao28 x118001_1.length co28) ∧ w35.cell? ⟨gb117, 2, none⟩ = some (.slice Ao29 x118002_1.length co29) := hS_
          skip
          skip
          refine norm_ (a' := ?_) ?_ ?_
          rotate_left
          ·simp only [putAll, Act.put, List.setIfInBounds_toArray, List.set_cons_zero, List.set_cons_succ]
           rfl
          refine two_ (i := 8) (j := 13) (Ni := some 36) (Nj := some 41) (bl 21 40447) (bl 21 48383) rfl rfl rfl rfl (two_of HT_.out (by kernel_rfl)) (by decide) (by decide) (fun K hK => ?_) (fun K hK => ?_)
          ·skip
           refine Kd.N_lit_step (Kd.slice 3 (Kd.int .i64)) _ 33 ?hg (N' := 36) ?hd (xs := ([t123] : List (List Int))) (inner := [.slice Ao99 t123.length co99]) (ok := (fun k_ => (w.heap.size ≤ k_) ∧ some k_ ≠ (.slice none 0 0 : Value).ownBlock ∧ some k_ ≠ (.slice Ao28 x118001_1.length co28 : Value).ownBlock ∧ some k_ ≠ (.slice Ao29 x118002_1.length co29 : Value).ownBlock ∧ some k_ ≠ (.slice none 0 0 : Value).ownBlock ∧ some k_ ≠ (v133 : Value).ownBlock ∧ some k_ ≠ (v136 : Value).ownBlock ∧ k_ ≠ gb110 ∧ k_ ≠ gb117)) (okp := (fun k_ => (w.heap.size ≤ k_) ∧ some k_ ≠ (.slice none 0 0 : Value).ownBlock ∧ some k_ ≠ (.slice Ao28 x118001_1.length co28 : Value).ownBlock ∧ some k_ ≠ (.slice Ao29 x118002_1.length co29 : Value).ownBlock ∧ some k_ ≠ (.slice none 0 0 : Value).ownBlock ∧ some k_ ≠ (v133 : Value).ownBlock ∧ some k_ ≠ (v136 : Value).ownBlock ∧ k_ ≠ gb110 ∧ k_ ≠ gb117)) ?hr ?hp (fun _ hk => hk) ((show ∀ k_, w35.heap.size ≤ k_ → (fun k_ => (w.heap.size ≤ k_) ∧ some k_ ≠ (.slice none 0 0 : Value).ownBlock ∧ some k_ ≠ (.slice Ao28 x118001_1.length co28 : Value).ownBlock ∧ some k_ ≠ (.slice Ao29 x118002_1.length co29 : Value).ownBlock ∧ some k_ ≠ (.slice none 0 0 : Value).ownBlock ∧ some k_ ≠ (v133 : Value).ownBlock ∧ some k_ ≠ (v136 : Value).ownBlock ∧ k_ ≠ gb110 ∧ k_ ≠ gb117) k_ from fun k_ hk => ⟨(Nat.le_trans (below_size (bw HB)) hk), Kd.fresh' (Kd.R_lt (rk HO_64)) k_ hk, Kd.fresh' (Kd.N_lt HO_118001.out) k_ hk, Kd.fresh' (Kd.R_lt (rk HO_118002)) k_ hk, (by simp [Value.ownBlock]), Kd.fresh' (Kd.N_lt HO134.out) k_ hk, Kd.fresh' (Kd.N_lt HO137.out) k_ hk, Kd.freshB (g := gb110) (o := .cells #[.slice none 0 0, .slice none 0 0, .slice none 0 0] 71 (0, 0)) (bk BK110) k_ hk, Kd.freshB (g := gb117) (o := .cells #[.slice Ao27 x118000_1.length co27, .slice Ao28 x118001_1.length co28, .slice Ao29 x118002_1.length co29] 71 (0, 0)) (bk BK117) k_ hk⟩) _ (Nat.le_refl _)) (Below.refl _ _) (Nat.le_refl _) (by simp) ?_; (case hd => rfl); (case hg => rfl); (case hr => first | (go_simp; done) | (go_simp; rfl)); (case hp => exact (Reps.one (show Kd.FK (Kd.slice 3 (Kd.int .i64)) _ _ t123 [.slice Ao99 t123.length co99] from (Kd.FK_slice_mk (Kd.R_reads' (Kd.R_mono (ok' := (fun k_ => (w.heap.size ≤ k_) ∧ some k_ ≠ (.slice none 0 0 : Value).ownBlock ∧ some k_ ≠ (.slice Ao28 x118001_1.length co28 : Value).ownBlock ∧ some k_ ≠ (.slice Ao29 x118002_1.length co29 : Value).ownBlock ∧ some k_ ≠ (.slice none 0 0 : Value).ownBlock ∧ some k_ ≠ (v133 : Value).ownBlock ∧ some k_ ≠ (v136 : Value).ownBlock ∧ k_ ≠ gb110 ∧ k_ ≠ gb117)) (Kd.R_types (Kd.R_types (Kd.R_apart' (Kd.R_apart' (Kd.R_apart' (Kd.R_apart' (Kd.R_apart' (HO128.out) (Kd.R_typed HO_64.out) (by decide)) (Kd.N_typed HO_118001.out) (by decide)) (Kd.R_typed (Kd.R_nil k30 30 _ 0 (fun _ => True))) (by decide)) (Kd.N_typed HO134.out) (by decide)) (Kd.N_typed HO137.out) (by decide)) BK110.out (by decide)) BK117.out (by decide)) (fun k_ hk => ⟨hk.1.1.1.1.1.1.1.1, ⟨hk.1.1.1.1.1.1.2, ⟨hk.1.1.1.1.1.2, ⟨hk.1.1.1.1.1.1.1.2, ⟨hk.1.1.1.1.2, ⟨hk.1.1.1.2, ⟨hk.1.1.2, ⟨hk.1.2, hk.2⟩⟩⟩⟩⟩⟩⟩⟩))).2.1 (Kd.R_F (Kd.R_mono (ok' := (fun k_ => (w.heap.size ≤ k_) ∧ some k_ ≠ (.slice none 0 0 : Value).ownBlock ∧ some k_ ≠ (.slice Ao28 x118001_1.length co28 : Value).ownBlock ∧ some k_ ≠ (.slice Ao29 x118002_1.length co29 : Value).ownBlock ∧ some k_ ≠ (.slice none 0 0 : Value).ownBlock ∧ some k_ ≠ (v133 : Value).ownBlock ∧ some k_ ≠ (v136 : Value).ownBlock ∧ k_ ≠ gb110 ∧ k_ ≠ gb117)) (Kd.R_types (Kd.R_types (Kd.R_apart' (Kd.R_apart' (Kd.R_apart' (Kd.R_apart' (Kd.R_apart' (HO128.out) (Kd.R_typed HO_64.out) (by decide)) (Kd.N_typed HO_118001.out) (by decide)) (Kd.R_typed (Kd.R_nil k30 30 _ 0 (fun _ => True))) (by decide)) (Kd.N_typed HO134.out) (by decide)) (Kd.N_typed HO137.out) (by decide)) BK110.out (by decide)) BK117.out (by decide)) (fun k_ hk => ⟨hk.1.1.1.1.1.1.1.1, ⟨hk.1.1.1.1.1.1.2, ⟨hk.1.1.1.1.1.2, ⟨hk.1.1.1.1.1.1.1.2, ⟨hk.1.1.1.1.2, ⟨hk.1.1.1.2, ⟨hk.1.1.2, ⟨hk.1.2, hk.2⟩⟩⟩⟩⟩⟩⟩⟩))))) (Reps.none _ _)))
           intro v139 w37 ho38 hb hg_ hnew_
           clear hg_ hnew_
           (first | rw [← Ny138.out] at ho38 | (simp only [Int.reduceToNat] at ho38; rw [← Ny138.out] at ho38))
           have n0_ := rb HO_64 hb
           have n1_ := Aside0.mk (Kd.N_elder' HO_118001.out (Kd.N_base ho38) hb)
           have n2_ := rb HO_118002 hb
           have n3_ := rb HO131 hb
           have n4_ := Aside0.mk (Kd.N_elder' HO134.out (Kd.N_base ho38) hb)
           have n5_ := Aside0.mk (Kd.N_elder' HO137.out (Kd.N_base ho38) hb)
           have n6_ := Aside0.mk (Kd.N_lower ho38 (below_size (bw HB)))
           have n7_ := bb BK110 hb
           have n8_ := bb BK117 hb
           have n9_ := bs HB hb
           clear HO_64
           clear HO_118001
           clear HO_118002
           clear HO131
           clear HO134
           clear HO137
           clear BK110
           clear BK117
           clear HB
           clear HO128
           have HO_64 := n0_
           have HO_118001 := n1_
           have HO_118002 := n2_
           have HO131 := n3_
           have HO134 := n4_
           have HO137 := n5_
           have HO140 := n6_
           have BK110 := n7_
           have BK117 := n8_
           have HB := n9_
           clear n0_ n1_ n2_ n3_ n4_ n5_ n6_ n7_ n8_ n9_
           clear hb ho38
           refine hK.out _ _ ⟨bc0 BK117, bc1 BK117, bc2 BK117⟩ (fun hHeld => ?_)
           clear hK K
           refine norm_ (a' := ?_) ?_ ?_; rotate_left; (show Act.put _ (some 36) _ = _; simp only [sqa, sqb, sqc, sqd, i64_w, i32_w]; rfl)
           exact norm_ (by first | (simp only [putAll, Act.put, List.setIfInBounds_toArray, List.set_cons_zero, List.set_cons_succ]; done) | (simp only [putAll, Act.put, List.setIfInBounds_toArray, List.set_cons_zero, List.set_cons_succ]; rfl)) (hJ3_4_8 (v133, v136, v139) _ ⟨hHeld, (rk HO131), (by exact Kd.N_mono HO134.out (fun _ hk => ⟨hk.1.1, ⟨hk.1.2.2.1, ⟨hk.1.2.2.2.1, ⟨hk.2, ⟨hk.1.2.2.2.2.1, ⟨hk.1.2.2.2.2.2.1, ⟨hk.1.2.2.2.2.2.2.1, ⟨hk.1.2.2.2.2.2.2.2.1, hk.1.2.2.2.2.2.2.2.2⟩⟩⟩⟩⟩⟩⟩⟩)), (by exact Kd.N_mono HO137.out (fun _ hk => ⟨hk.1.1, ⟨hk.1.2.2.1, ⟨hk.2, ⟨hk.1.2.2.2.1, ⟨hk.1.2.2.2.2.1, ⟨hk.1.2.2.2.2.2.1, ⟨hk.1.2.2.2.2.2.2.1, hk.1.2.2.2.2.2.2.2⟩⟩⟩⟩⟩⟩⟩)), (by exact Kd.N_mono HO140.out (fun _ hk => ⟨hk.1, ⟨hk.2.2.2.2.1, ⟨hk.2.2.2.2.2.1, ⟨hk.2.2.2.2.2.2.1, ⟨hk.2.2.1, ⟨hk.2.2.2.1, ⟨hk.2.1, ⟨hk.2.2.2.2.2.2.2.1, hk.2.2.2.2.2.2.2.2⟩⟩⟩⟩⟩⟩⟩⟩)), (by exact Kd.N_mono HO_118001.out (fun _ hk => ⟨hk.1.1, ⟨hk.1.2.2.1, ⟨hk.1.2.2.2.1, ⟨hk.1.2.2.2.2.1, ⟨hk.2, ⟨hk.1.2.2.2.2.2.1, ⟨hk.1.2.2.2.2.2.2.1, ⟨hk.1.2.2.2.2.2.2.2.1, hk.1.2.2.2.2.2.2.2.2⟩⟩⟩⟩⟩⟩⟩⟩)), (by exact Kd.R_mono HO_118002.out (fun _ hk => hk.1)), (rk HO_64), (bk BK110), (bk BK117), (bw HB)⟩)
          ·skip
           refine Kd.R_lit_step (Kd.int .i64) _ 3 ?hg (N := 41) ?hd (xs := ([t124] : List Int)) (inner := [.int .i64 t124]) (ok := fun _ => True) (okp := fun _ => True) ?hr ?hp (fun _ hk => hk) trivial (Below.refl _ _) (Nat.le_refl _) (by simp) ?_; (case hd => rfl); (case hg => rfl); (case hr => first | (go_simp; done) | (go_simp; rfl)); (case hp => exact (Reps.one (show Kd.M (Kd.int .i64) _ _ _ t124 [.int .i64 t124] from rfl) (Reps.none _ _)))
           intro v145 w36 ho37 hb hg_ hnew_
           clear hg_ hnew_
           (first | rw [← Ny144.out] at ho37 | (simp only [Int.reduceToNat] at ho37; rw [← Ny144.out] at ho37))
           replace HO_64 := rb HO_64 hb
           replace HO_118001 := Aside0.mk (Kd.N_elder' HO_118001.out (Kd.R_base ho37) hb)
           replace HO131 := rb HO131 hb
           replace HO134 := Aside0.mk (Kd.N_elder' HO134.out (Kd.R_base ho37) hb)
           replace HO137 := Aside0.mk (Kd.N_elder' HO137.out (Kd.R_base ho37) hb)
           have HO146 := Aside0.mk (Kd.R_lower (Kd.R_new' (Kd.R_new' (Kd.R_newM (M := fun k_ => (w.heap.size ≤ k_)) ho37 (below_size (bw HB)) (fun k_ h_ => h_)) (Kd.R_lt (rk HO_118002))) (Kd.R_lt (rk HO128))) (below_size (bw HB)))
           replace HO_118002 := Aside0.mk (Kd.R_elder' (rk HO_118002) (Kd.R_base ho37) hb)
           replace HO128 := Aside0.mk (Kd.R_elder' (rk HO128) (Kd.R_base ho37) hb)
           replace BK110 := bb BK110 hb
           replace BK117 := bb BK117 hb
           replace HB := bs HB hb
           clear hb ho37
           refine hK.out _ _ ⟨bc0 BK117, bc1 BK117, bc2 BK117⟩ (fun hHeld => ?_)
           clear hK K
           refine norm_ (a' := ?_) ?_ ?_; rotate_left; (show Act.put _ (some 41) _ = _; simp only [sqa, sqb, sqc, sqd, i64_w, i32_w]; rfl)
           exact norm_ (by first | (simp only [putAll, Act.put, List.setIfInBounds_toArray, List.set_cons_zero, List.set_cons_succ]; done) | (simp only [putAll, Act.put, List.setIfInBounds_toArray, List.set_cons_zero, List.set_cons_succ]; rfl)) (hJ3_4_13 (v133, v136, v145) _ ⟨hHeld, (by exact Kd.R_mono HO128.out (fun _ hk => ⟨hk.1.1, ⟨hk.2, hk.1.2⟩⟩)), (rk HO131), (by exact Kd.N_mono HO134.out (fun _ hk => ⟨hk.1.1, ⟨hk.1.2.1, ⟨hk.1.2.2.1, ⟨hk.1.2.2.2.1, ⟨hk.2, ⟨hk.1.2.2.2.2.1, ⟨hk.1.2.2.2.2.2.1, ⟨hk.1.2.2.2.2.2.2.1, ⟨hk.1.2.2.2.2.2.2.2.1, hk.1.2.2.2.2.2.2.2.2⟩⟩⟩⟩⟩⟩⟩⟩⟩)), (by exact Kd.N_mono HO137.out (fun _ hk => ⟨hk.1.1, ⟨hk.1.2.1, ⟨hk.1.2.2.1, ⟨hk.2, ⟨hk.1.2.2.2.1, ⟨hk.1.2.2.2.2.1, ⟨hk.1.2.2.2.2.2.1, ⟨hk.1.2.2.2.2.2.2.1, hk.1.2.2.2.2.2.2.2⟩⟩⟩⟩⟩⟩⟩⟩)), (by exact Kd.R_mono HO146.out (fun _ hk => ⟨hk.1.1.1, ⟨hk.2, hk.1.2⟩⟩)), (by exact Kd.N_mono HO_118001.out (fun _ hk => ⟨hk.1.1, ⟨hk.1.2.1, ⟨hk.1.2.2.1, ⟨hk.1.2.2.2.1, ⟨hk.1.2.2.2.2.1, ⟨hk.2, ⟨hk.1.2.2.2.2.2.1, ⟨hk.1.2.2.2.2.2.2.1, ⟨hk.1.2.2.2.2.2.2.2.1, hk.1.2.2.2.2.2.2.2.2⟩⟩⟩⟩⟩⟩⟩⟩⟩)), (by exact Kd.R_mono HO_118002.out (fun _ hk => ⟨hk.1.1, ⟨hk.1.2, hk.2⟩⟩)), (rk HO_64), (bk BK110), (bk BK117), (bw HB)⟩)
        ·skip
         rintro ⟨v133, v139, v145⟩ w38 ⟨hS_, h0_, h1_, h2_, h3_, h4_, h5_, h6_, h7_, h8_, h9_, h10_⟩
         have n0_ := Aside0.mk h0_
         have n1_ := Aside0.mk h1_
         have n2_ := Aside0.mk h2_
         have n3_ := Aside0.mk h3_
         have n4_ := Aside0.mk h4_
         have n5_ := Aside0.mk h5_
         have n6_ := Aside0.mk h6_
         have n7_ := Aside0.mk h7_
         have n8_ := Aside0.mk h8_
         have n9_ := Aside0.mk h9_
         have n10_ := Aside0.mk h10_
         clear HO_64
         clear HO_118000
         clear HO_118001
         clear HO_118002
         clear HO126
         clear HO128
         clear HO131
         clear BK110
         clear BK117
         clear HB
         clear h0_ h1_ h2_ h3_ h4_ h5_ h6_ h7_ h8_ h9_ h10_
         have HO131 := n0_
         have HO134 := n1_
         have HO140 := n2_
         have HO146 := n3_
         have HO_118000 := n4_
         have HO_118001 := n5_
         have HO_118002 := n6_
         have HO_64 := n7_
         have BK110 := n8_
         have BK117 := n9_
         have HB := n10_
         clear n0_ n1_ n2_ n3_ n4_ n5_ n6_ n7_ n8_ n9_ n10_
         have hHeld : w38.cell? ⟨gb117, 0, none⟩ = some (.slice Ao27 x118000_1.length co27) ∧ w38.cell? ⟨gb117, 1, none⟩ = some (.slice Ao28 x118001_1.length co28) ∧ w38.cell? ⟨gb117, 2, none⟩ = some (.slice Ao29 x118002_1.length co29) := hS_
         obtain ⟨Ao40, co40, eo40⟩ := Kd.N_slice HO134.out
         (first | subst eo40 | (injection eo40 with f1_ f2_ f3_; have f4_ := f1_.symm; have f5_ := f3_.symm; clear f1_ f2_ f3_; subst f4_; subst f5_))
         refine norm_ (a' := ?_) ?_ ?_
         rotate_left
         ·simp only [putAll, Act.put, List.setIfInBounds_toArray, List.set_cons_zero, List.set_cons_succ]
          rfl
         refine on 4 32 (bl 21 15871) HT_.out (fun K hK => ?_)
         refine Kd.N_append_rows_step (Kd.slice 30 k30) (w0 := w) w.heap.size (by rfl) (.tmp 29) (.tmp 31) 68 24 (.slice none 0 0) 24 rfl Try.underlying68 info24 rfl (by decide) (by omega) (.slice Ao27 x118000_1.length co27) x118000_1 y132 _ _ _ (fun k_ => (w.heap.size ≤ k_) ∧ some k_ ≠ (.slice none 0 0 : Value).ownBlock ∧ some k_ ≠ (.slice Ao28 x118001_1.length co28 : Value).ownBlock ∧ some k_ ≠ (.slice Ao29 x118002_1.length co29 : Value).ownBlock ∧ some k_ ≠ (.slice none 0 0 : Value).ownBlock ∧ some k_ ≠ (v139 : Value).ownBlock ∧ some k_ ≠ (v145 : Value).ownBlock ∧ k_ ≠ gb110 ∧ k_ ≠ gb117) (fun k_ => ((fun k_ => (w.heap.size ≤ k_) ∧ some k_ ≠ (.slice none 0 0 : Value).ownBlock ∧ some k_ ≠ (.slice Ao28 x118001_1.length co28 : Value).ownBlock ∧ some k_ ≠ (.slice Ao29 x118002_1.length co29 : Value).ownBlock ∧ some k_ ≠ (.slice none 0 0 : Value).ownBlock ∧ some k_ ≠ (v139 : Value).ownBlock ∧ some k_ ≠ (v145 : Value).ownBlock ∧ k_ ≠ gb110 ∧ k_ ≠ gb117)) k_ ∧ some k_ ≠ (.slice Ao27 x118000_1.length co27 : Value).ownBlock) rfl rfl ?aO ?aR (fun _ hk => hk) ?aF ?aB ?aS ?aL ?_
         (case aR => exact (by skip; exact Kd.N_F (Kd.N_mono (ok' := (fun k_ => ((fun k_ => (w.heap.size ≤ k_) ∧ some k_ ≠ (.slice none 0 0 : Value).ownBlock ∧ some k_ ≠ (.slice Ao28 x118001_1.length co28 : Value).ownBlock ∧ some k_ ≠ (.slice Ao29 x118002_1.length co29 : Value).ownBlock ∧ some k_ ≠ (.slice none 0 0 : Value).ownBlock ∧ some k_ ≠ (v139 : Value).ownBlock ∧ some k_ ≠ (v145 : Value).ownBlock ∧ k_ ≠ gb110 ∧ k_ ≠ gb117)) k_ ∧ some k_ ≠ (.slice Ao27 x118000_1.length co27 : Value).ownBlock)) (HO134.out) (fun k_ hk => ⟨⟨hk.1, ⟨hk.2.2.2.2.2.2.2.1, ⟨hk.2.2.2.2.2.1, ⟨hk.2.2.2.2.2.2.1, ⟨hk.2.1, ⟨hk.2.2.1, ⟨hk.2.2.2.1, ⟨hk.2.2.2.2.2.2.2.2.1, hk.2.2.2.2.2.2.2.2.2⟩⟩⟩⟩⟩⟩⟩⟩, hk.2.2.2.2.1⟩))))
         (case aB => exact (bw HB))
         (case aF => exact (fun k_ hk => ⟨(Nat.le_trans (below_size (bw HB)) hk), Kd.fresh' (Kd.R_lt (rk HO_64)) k_ hk, Kd.fresh' (Kd.N_lt HO_118001.out) k_ hk, Kd.fresh' (Kd.R_lt (rk HO_118002)) k_ hk, (by simp [Value.ownBlock]), Kd.fresh' (Kd.N_lt HO140.out) k_ hk, Kd.fresh' (Kd.R_lt (rk HO146)) k_ hk, Kd.freshB (g := gb110) (o := .cells #[.slice none 0 0, .slice none 0 0, .slice none 0 0] 71 (0, 0)) (bk BK110) k_ hk, Kd.freshB (g := gb117) (o := .cells #[.slice Ao27 x118000_1.length co27, .slice Ao28 x118001_1.length co28, .slice Ao29 x118002_1.length co29] 71 (0, 0)) (bk BK117) k_ hk⟩))
         (case aO => exact (by exact Kd.N_mono HO_118000.out (fun _ hk => ⟨hk.1, ⟨hk.2.2.2.2.2.2.2.1, ⟨hk.2.2.2.2.2.1, ⟨hk.2.2.2.2.2.2.1, ⟨hk.2.1, ⟨hk.2.2.2.1, ⟨hk.2.2.2.2.1, ⟨hk.2.2.2.2.2.2.2.2.1, hk.2.2.2.2.2.2.2.2.2⟩⟩⟩⟩⟩⟩⟩⟩)))
         (case aS => exact (below_size (bw HB)))
         (case aL => have := LMc20.out; omega)
         intro v136 w39 ho hb hg hat
         rw [← Ny135.out] at ho
         have n0_ := Aside0.mk (Kd.R_over' (rk HO_64) (Kd.N_typed HO_118000.out) (by decide) hg)
         have n1_ := Aside0.mk (Kd.N_afterv (ok := (fun k_ => (w.heap.size ≤ k_) ∧ some k_ ≠ (.slice none 0 0 : Value).ownBlock ∧ some k_ ≠ (.slice Ao29 x118002_1.length co29 : Value).ownBlock ∧ some k_ ≠ (.slice none 0 0 : Value).ownBlock ∧ some k_ ≠ (.slice Ao40 y132.length co40 : Value).ownBlock ∧ some k_ ≠ (v139 : Value).ownBlock ∧ some k_ ≠ (v145 : Value).ownBlock ∧ k_ ≠ gb110 ∧ k_ ≠ gb117)) (by exact Kd.N_mono HO_118001.out (fun _ hk => ⟨⟨hk.1, ⟨hk.2.2.2.2.2.2.2.1, ⟨hk.2.2.2.2.2.2.1, ⟨hk.2.1, ⟨hk.2.2.1, ⟨hk.2.2.2.1, ⟨hk.2.2.2.2.1, ⟨hk.2.2.2.2.2.2.2.2.1, hk.2.2.2.2.2.2.2.2.2⟩⟩⟩⟩⟩⟩⟩⟩, hk.2.2.2.2.2.1⟩)) hg hat)
         have n2_ := Aside0.mk (Kd.R_over' (rk HO_118002) (Kd.N_typed HO_118000.out) (by decide) hg)
         have n3_ := Aside0.mk (blk_grown (g := gb110) (o := .cells #[.slice none 0 0, .slice none 0 0, .slice none 0 0] 71 (0, 0)) (bk BK110) hg (Kd.N_ne HO_118000.out BK110.out (by decide)))
         have n4_ := Aside0.mk (blk_grown (g := gb117) (o := .cells #[.slice Ao27 x118000_1.length co27, .slice Ao28 x118001_1.length co28, .slice Ao29 x118002_1.length co29] 71 (0, 0)) (bk BK117) hg (Kd.N_ne HO_118000.out BK117.out (by decide)))
         have n5_ := Aside0.mk (Kd.R_over' (rk HO131) (Kd.N_typed HO_118000.out) (by decide) hg)
         have n6_ := Aside0.mk (Kd.N_afterv (ok := (fun k_ => (w.heap.size ≤ k_) ∧ some k_ ≠ (.slice none 0 0 : Value).ownBlock ∧ some k_ ≠ (.slice Ao28 x118001_1.length co28 : Value).ownBlock ∧ some k_ ≠ (.slice Ao29 x118002_1.length co29 : Value).ownBlock ∧ some k_ ≠ (.slice none 0 0 : Value).ownBlock ∧ some k_ ≠ (v139 : Value).ownBlock ∧ some k_ ≠ (v145 : Value).ownBlock ∧ k_ ≠ gb110 ∧ k_ ≠ gb117)) (by exact Kd.N_mono HO134.out (fun _ hk => ⟨⟨hk.1, ⟨hk.2.2.2.2.2.2.2.1, ⟨hk.2.2.2.2.2.1, ⟨hk.2.2.2.2.2.2.1, ⟨hk.2.1, ⟨hk.2.2.1, ⟨hk.2.2.2.1, ⟨hk.2.2.2.2.2.2.2.2.1, hk.2.2.2.2.2.2.2.2.2⟩⟩⟩⟩⟩⟩⟩⟩, hk.2.2.2.2.1⟩)) hg hat)
         have n7_ := Aside0.mk (Kd.N_afterv (ok := (fun k_ => (w.heap.size ≤ k_) ∧ some k_ ≠ (.slice none 0 0 : Value).ownBlock ∧ some k_ ≠ (.slice Ao28 x118001_1.length co28 : Value).ownBlock ∧ some k_ ≠ (.slice Ao29 x118002_1.length co29 : Value).ownBlock ∧ some k_ ≠ (.slice none 0 0 : Value).ownBlock ∧ some k_ ≠ (.slice Ao40 y132.length co40 : Value).ownBlock ∧ some k_ ≠ (v145 : Value).ownBlock ∧ k_ ≠ gb110 ∧ k_ ≠ gb117)) (by exact Kd.N_mono HO140.out (fun _ hk => ⟨⟨hk.1, ⟨hk.2.2.2.2.2.2.2.1, ⟨hk.2.2.2.2.2.1, ⟨hk.2.2.2.2.2.2.1, ⟨hk.2.1, ⟨hk.2.2.1, ⟨hk.2.2.2.1, ⟨hk.2.2.2.2.2.2.2.2.1, hk.2.2.2.2.2.2.2.2.2⟩⟩⟩⟩⟩⟩⟩⟩, hk.2.2.2.2.1⟩)) hg hat)
         have n8_ := Aside0.mk (Kd.R_over' (rk HO146) (Kd.N_typed HO_118000.out) (by decide) hg)
         have n9_ := Aside0.mk (hb)
         have n10_ := Aside0.mk (ho)
         clear HO_64
         clear HO_118001
         clear HO_118002
         clear BK110
         clear BK117
         clear HO131
         clear HO134
         clear HO140
         clear HO146
         clear HB
         clear HO_118000
         have HO_64 := n0_
         have HO_118001 := n1_
         have HO_118002 := n2_
         have BK110 := n3_
         have BK117 := n4_
         have HO131 := n5_
         have HO134 := n6_
         have HO140 := n7_
         have HO146 := n8_
         have HB := n9_
         have HO137 := n10_
         clear n0_ n1_ n2_ n3_ n4_ n5_ n6_ n7_ n8_ n9_ n10_
         clear ho hb hg hat
         refine hK.out _ _ ⟨bc0 BK117, bc1 BK117, bc2 BK117⟩ (fun hHeld => ?_)
         clear hK K
         refine norm_ (a' := ?_) ?_ ?_; rotate_left; (show Act.put _ (some 32) _ = _; simp only [sqa, sqb, sqc, sqd, i64_w, i32_w]; rfl)
         refine pu 15 43 (bl 21 48639) HT_.out (v := ?_) (a' := ?_) ?_ ?_ ?_
         rotate_left; (intro w'; go_simp; with_reducible rfl); rotate_left; (simp only [sqa, sqb, sqc, sqd, i64_w, i32_w]; rfl)
         exact norm_ (by first | (simp only [putAll, Act.put, List.setIfInBounds_toArray, List.set_cons_zero, List.set_cons_succ]; done) | (simp only [putAll, Act.put, List.setIfInBounds_toArray, List.set_cons_zero, List.set_cons_succ]; rfl)) (hJ3_4_8_13 (.slice Ao40 y132.length co40, v136, v139, v145) _ ⟨hHeld, (rk HO131), (by exact Kd.N_mono HO134.out (fun _ hk => ⟨hk.1.1, ⟨hk.1.2.2.2.2.1, ⟨hk.2, ⟨hk.1.2.2.2.2.2.1, ⟨hk.1.2.2.2.2.2.2.1, ⟨hk.1.2.2.1, ⟨hk.1.2.2.2.1, ⟨hk.1.2.1, ⟨hk.1.2.2.2.2.2.2.2.1, hk.1.2.2.2.2.2.2.2.2⟩⟩⟩⟩⟩⟩⟩⟩⟩)), (by exact Kd.N_mono HO137.out (fun _ hk => ⟨hk.1, ⟨hk.2.2.2.2.1, ⟨hk.2.2.2.2.2.1, ⟨hk.2.2.2.2.2.2.1, ⟨hk.2.2.1, ⟨hk.2.2.2.1, ⟨hk.2.1, ⟨hk.2.2.2.2.2.2.2.1, hk.2.2.2.2.2.2.2.2⟩⟩⟩⟩⟩⟩⟩⟩)), (by exact Kd.N_mono HO140.out (fun _ hk => ⟨hk.1.1, ⟨hk.1.2.2.2.2.1, ⟨hk.1.2.2.2.2.2.1, ⟨hk.2, ⟨hk.1.2.2.2.2.2.2.1, ⟨hk.1.2.2.1, ⟨hk.1.2.2.2.1, ⟨hk.1.2.1, ⟨hk.1.2.2.2.2.2.2.2.1, hk.1.2.2.2.2.2.2.2.2⟩⟩⟩⟩⟩⟩⟩⟩⟩)), (rk HO146), (by exact Kd.N_mono HO_118001.out (fun _ hk => ⟨hk.1.1, ⟨hk.1.2.2.2.1, ⟨hk.1.2.2.2.2.1, ⟨hk.2, ⟨hk.1.2.2.2.2.2.1, ⟨hk.1.2.2.2.2.2.2.1, ⟨hk.1.2.2.1, ⟨hk.1.2.1, ⟨hk.1.2.2.2.2.2.2.2.1, hk.1.2.2.2.2.2.2.2.2⟩⟩⟩⟩⟩⟩⟩⟩⟩)), (rk HO_118002), (rk HO_64), (bk BK110), (bk BK117), (bw HB)⟩)
       ·skip
        rintro ⟨v133, v136, v145⟩ w37 ⟨hS_, h0_, h1_, h2_, h3_, h4_, h5_, h6_, h7_, h8_, h9_, h10_⟩
        have n0_ := Aside0.mk h0_
        have n1_ := Aside0.mk h1_
        have n2_ := Aside0.mk h2_
        have n3_ := Aside0.mk h3_
        have n4_ := Aside0.mk h4_
        have n5_ := Aside0.mk h5_
        have n6_ := Aside0.mk h6_
        have n7_ := Aside0.mk h7_
        have n8_ := Aside0.mk h8_
        have n9_ := Aside0.mk h9_
        have n10_ := Aside0.mk h10_
        clear HO_64
        clear HO_118000
        clear HO_118001
        clear HO_118002
        clear HO126
        clear HO128
        clear HO131
        clear BK110
        clear BK117
        clear HB
        clear h0_ h1_ h2_ h3_ h4_ h5_ h6_ h7_ h8_ h9_ h10_
        have HO128 := n0_
        have HO131 := n1_
        have HO134 := n2_
        have HO137 := n3_
        have HO146 := n4_
        have HO_118001 := n5_
        have HO_118002 := n6_
        have HO_64 := n7_
        have BK110 := n8_
        have BK117 := n9_
        have HB := n10_
        clear n0_ n1_ n2_ n3_ n4_ n5_ n6_ n7_ n8_ n9_ n10_
        have hHeld : w37.cell? ⟨gb117, 0, none⟩ = some (.slice Ao27 x118000_1.length co27) ∧ w37.cell? ⟨gb117, 1, none⟩ = some (.slice Ao28 x118001_1.length co28) ∧ w37.cell? ⟨gb117, 2, none⟩ = some (.slice Ao29 x118002_1.length co29) := hS_
        skip
        skip
        refine norm_ (a' := ?_) ?_ ?_
        rotate_left
        ·simp only [putAll, Act.put, List.setIfInBounds_toArray, List.set_cons_zero, List.set_cons_succ]
         rfl
        refine on 8 36 (bl 21 48639) HT_.out (fun K hK => ?_)
        refine Kd.N_lit_step (Kd.slice 3 (Kd.int .i64)) _ 33 ?hg (N' := 36) ?hd (xs := ([t123] : List (List Int))) (inner := [.slice Ao99 t123.length co99]) (ok := (fun k_ => (w.heap.size ≤ k_) ∧ some k_ ≠ (.slice none 0 0 : Value).ownBlock ∧ some k_ ≠ (.slice Ao28 x118001_1.length co28 : Value).ownBlock ∧ some k_ ≠ (.slice Ao29 x118002_1.length co29 : Value).ownBlock ∧ some k_ ≠ (.slice none 0 0 : Value).ownBlock ∧ some k_ ≠ (v133 : Value).ownBlock ∧ some k_ ≠ (v136 : Value).ownBlock ∧ some k_ ≠ (v145 : Value).ownBlock ∧ k_ ≠ gb110 ∧ k_ ≠ gb117)) (okp := (fun k_ => (w.heap.size ≤ k_) ∧ some k_ ≠ (.slice none 0 0 : Value).ownBlock ∧ some k_ ≠ (.slice Ao28 x118001_1.length co28 : Value).ownBlock ∧ some k_ ≠ (.slice Ao29 x118002_1.length co29 : Value).ownBlock ∧ some k_ ≠ (.slice none 0 0 : Value).ownBlock ∧ some k_ ≠ (v133 : Value).ownBlock ∧ some k_ ≠ (v136 : Value).ownBlock ∧ some k_ ≠ (v145 : Value).ownBlock ∧ k_ ≠ gb110 ∧ k_ ≠ gb117)) ?hr ?hp (fun _ hk => hk) ((show ∀ k_, w37.heap.size ≤ k_ → (fun k_ => (w.heap.size ≤ k_) ∧ some k_ ≠ (.slice none 0 0 : Value).ownBlock ∧ some k_ ≠ (.slice Ao28 x118001_1.length co28 : Value).ownBlock ∧ some k_ ≠ (.slice Ao29 x118002_1.length co29 : Value).ownBlock ∧ some k_ ≠ (.slice none 0 0 : Value).ownBlock ∧ some k_ ≠ (v133 : Value).ownBlock ∧ some k_ ≠ (v136 : Value).ownBlock ∧ some k_ ≠ (v145 : Value).ownBlock ∧ k_ ≠ gb110 ∧ k_ ≠ gb117) k_ from fun k_ hk => ⟨(Nat.le_trans (below_size (bw HB)) hk), Kd.fresh' (Kd.R_lt (rk HO_64)) k_ hk, Kd.fresh' (Kd.N_lt HO_118001.out) k_ hk, Kd.fresh' (Kd.R_lt (rk HO_118002)) k_ hk, (by simp [Value.ownBlock]), Kd.fresh' (Kd.N_lt HO134.out) k_ hk, Kd.fresh' (Kd.N_lt HO137.out) k_ hk, Kd.fresh' (Kd.R_lt (rk HO146)) k_ hk, Kd.freshB (g := gb110) (o := .cells #[.slice none 0 0, .slice none 0 0, .slice none 0 0] 71 (0, 0)) (bk BK110) k_ hk, Kd.freshB (g := gb117) (o := .cells #[.slice Ao27 x118000_1.length co27, .slice Ao28 x118001_1.length co28, .slice Ao29 x118002_1.length co29] 71 (0, 0)) (bk BK117) k_ hk⟩) _ (Nat.le_refl _)) (Below.refl _ _) (Nat.le_refl _) (by simp) ?_; (case hd => rfl); (case hg => rfl); (case hr => first | (go_simp; done) | (go_simp; rfl)); (case hp => exact (Reps.one (show Kd.FK (Kd.slice 3 (Kd.int .i64)) _ _ t123 [.slice Ao99 t123.length co99] from (Kd.FK_slice_mk (Kd.R_reads' (Kd.R_mono (ok' := (fun k_ => (w.heap.size ≤ k_) ∧ some k_ ≠ (.slice none 0 0 : Value).ownBlock ∧ some k_ ≠ (.slice Ao28 x118001_1.length co28 : Value).ownBlock ∧ some k_ ≠ (.slice Ao29 x118002_1.length co29 : Value).ownBlock ∧ some k_ ≠ (.slice none 0 0 : Value).ownBlock ∧ some k_ ≠ (v133 : Value).ownBlock ∧ some k_ ≠ (v136 : Value).ownBlock ∧ some k_ ≠ (v145 : Value).ownBlock ∧ k_ ≠ gb110 ∧ k_ ≠ gb117)) (Kd.R_types (Kd.R_types (Kd.R_apart' (Kd.R_apart' (Kd.R_apart' (Kd.R_apart' (Kd.R_apart' (HO128.out) (Kd.R_typed HO_64.out) (by decide)) (Kd.N_typed HO_118001.out) (by decide)) (Kd.R_typed (Kd.R_nil k30 30 _ 0 (fun _ => True))) (by decide)) (Kd.N_typed HO134.out) (by decide)) (Kd.N_typed HO137.out) (by decide)) BK110.out (by decide)) BK117.out (by decide)) (fun k_ hk => ⟨hk.1.1.1.1.1.1.1.1, ⟨hk.1.1.1.1.1.1.2, ⟨hk.1.1.1.1.1.2, ⟨hk.1.1.1.1.1.1.1.2.2, ⟨hk.1.1.1.1.2, ⟨hk.1.1.1.2, ⟨hk.1.1.2, ⟨hk.1.1.1.1.1.1.1.2.1, ⟨hk.1.2, hk.2⟩⟩⟩⟩⟩⟩⟩⟩⟩))).2.1 (Kd.R_F (Kd.R_mono (ok' := (fun k_ => (w.heap.size ≤ k_) ∧ some k_ ≠ (.slice none 0 0 : Value).ownBlock ∧ some k_ ≠ (.slice Ao28 x118001_1.length co28 : Value).ownBlock ∧ some k_ ≠ (.slice Ao29 x118002_1.length co29 : Value).ownBlock ∧ some k_ ≠ (.slice none 0 0 : Value).ownBlock ∧ some k_ ≠ (v133 : Value).ownBlock ∧ some k_ ≠ (v136 : Value).ownBlock ∧ some k_ ≠ (v145 : Value).ownBlock ∧ k_ ≠ gb110 ∧ k_ ≠ gb117)) (Kd.R_types (Kd.R_types (Kd.R_apart' (Kd.R_apart' (Kd.R_apart' (Kd.R_apart' (Kd.R_apart' (HO128.out) (Kd.R_typed HO_64.out) (by decide)) (Kd.N_typed HO_118001.out) (by decide)) (Kd.R_typed (Kd.R_nil k30 30 _ 0 (fun _ => True))) (by decide)) (Kd.N_typed HO134.out) (by decide)) (Kd.N_typed HO137.out) (by decide)) BK110.out (by decide)) BK117.out (by decide)) (fun k_ hk => ⟨hk.1.1.1.1.1.1.1.1, ⟨hk.1.1.1.1.1.1.2, ⟨hk.1.1.1.1.1.2, ⟨hk.1.1.1.1.1.1.1.2.2, ⟨hk.1.1.1.1.2, ⟨hk.1.1.1.2, ⟨hk.1.1.2, ⟨hk.1.1.1.1.1.1.1.2.1, ⟨hk.1.2, hk.2⟩⟩⟩⟩⟩⟩⟩⟩⟩))))) (Reps.none _ _)))
        intro v139 w39 ho40 hb hg_ hnew_
        clear hg_ hnew_
        (first | rw [← Ny138.out] at ho40 | (simp only [Int.reduceToNat] at ho40; rw [← Ny138.out] at ho40))
        have n0_ := rb HO_64 hb
        have n1_ := Aside0.mk (Kd.N_elder' HO_118001.out (Kd.N_base ho40) hb)
        have n2_ := rb HO_118002 hb
        have n3_ := rb HO131 hb
        have n4_ := Aside0.mk (Kd.N_elder' HO134.out (Kd.N_base ho40) hb)
        have n5_ := Aside0.mk (Kd.N_elder' HO137.out (Kd.N_base ho40) hb)
        have n6_ := rb HO146 hb
        have n7_ := Aside0.mk (Kd.N_lower ho40 (below_size (bw HB)))
        have n8_ := bb BK110 hb
        have n9_ := bb BK117 hb
        have n10_ := bs HB hb
        clear HO_64
        clear HO_118001
        clear HO_118002
        clear HO131
        clear HO134
        clear HO137
        clear HO146
        clear BK110
        clear BK117
        clear HB
        clear HO128
        have HO_64 := n0_
        have HO_118001 := n1_
        have HO_118002 := n2_
        have HO131 := n3_
        have HO134 := n4_
        have HO137 := n5_
        have HO146 := n6_
        have HO140 := n7_
        have BK110 := n8_
        have BK117 := n9_
        have HB := n10_
        clear n0_ n1_ n2_ n3_ n4_ n5_ n6_ n7_ n8_ n9_ n10_
        clear hb ho40
        refine hK.out _ _ ⟨bc0 BK117, bc1 BK117, bc2 BK117⟩ (fun hHeld => ?_)
        clear hK K
        refine norm_ (a' := ?_) ?_ ?_; rotate_left; (show Act.put _ (some 36) _ = _; simp only [sqa, sqb, sqc, sqd, i64_w, i32_w]; rfl)
        exact norm_ (by first | (simp only [putAll, Act.put, List.setIfInBounds_toArray, List.set_cons_zero, List.set_cons_succ]; done) | (simp only [putAll, Act.put, List.setIfInBounds_toArray, List.set_cons_zero, List.set_cons_succ]; rfl)) (hJ3_4_8_13 (v133, v136, v139, v145) _ ⟨hHeld, (rk HO131), (by exact Kd.N_mono HO134.out (fun _ hk => ⟨hk.1.1, ⟨hk.1.2.2.1, ⟨hk.1.2.2.2.1, ⟨hk.2, ⟨hk.1.2.2.2.2.1, ⟨hk.1.2.2.2.2.2.1, ⟨hk.1.2.2.2.2.2.2.1, ⟨hk.1.2.2.2.2.2.2.2.1, ⟨hk.1.2.2.2.2.2.2.2.2.1, hk.1.2.2.2.2.2.2.2.2.2⟩⟩⟩⟩⟩⟩⟩⟩⟩)), (by exact Kd.N_mono HO137.out (fun _ hk => ⟨hk.1.1, ⟨hk.1.2.2.1, ⟨hk.2, ⟨hk.1.2.2.2.1, ⟨hk.1.2.2.2.2.1, ⟨hk.1.2.2.2.2.2.1, ⟨hk.1.2.2.2.2.2.2.1, ⟨hk.1.2.2.2.2.2.2.2.1, hk.1.2.2.2.2.2.2.2.2⟩⟩⟩⟩⟩⟩⟩⟩)), (by exact Kd.N_mono HO140.out (fun _ hk => ⟨hk.1, ⟨hk.2.2.2.2.1, ⟨hk.2.2.2.2.2.1, ⟨hk.2.2.2.2.2.2.1, ⟨hk.2.2.2.2.2.2.2.1, ⟨hk.2.2.1, ⟨hk.2.2.2.1, ⟨hk.2.1, ⟨hk.2.2.2.2.2.2.2.2.1, hk.2.2.2.2.2.2.2.2.2⟩⟩⟩⟩⟩⟩⟩⟩⟩)), (by exact Kd.R_mono HO146.out (fun _ hk => ⟨hk.1, hk.2.2⟩)), (by exact Kd.N_mono HO_118001.out (fun _ hk => ⟨hk.1.1, ⟨hk.1.2.2.1, ⟨hk.1.2.2.2.1, ⟨hk.1.2.2.2.2.1, ⟨hk.2, ⟨hk.1.2.2.2.2.2.1, ⟨hk.1.2.2.2.2.2.2.1, ⟨hk.1.2.2.2.2.2.2.2.1, ⟨hk.1.2.2.2.2.2.2.2.2.1, hk.1.2.2.2.2.2.2.2.2.2⟩⟩⟩⟩⟩⟩⟩⟩⟩)), (by exact Kd.R_mono HO_118002.out (fun _ hk => ⟨hk.1, hk.2.2⟩)), (rk HO_64), (bk BK110), (bk BK117), (bw HB)⟩)
      ·skip
       rintro ⟨v133, v136, v139⟩ w38 ⟨hS_, h0_, h1_, h2_, h3_, h4_, h5_, h6_, h7_, h8_, h9_⟩
       have n0_ := Aside0.mk h0_
       have n1_ := Aside0.mk h1_
       have n2_ := Aside0.mk h2_
       have n3_ := Aside0.mk h3_
       have n4_ := Aside0.mk h4_
       have n5_ := Aside0.mk h5_
       have n6_ := Aside0.mk h6_
       have n7_ := Aside0.mk h7_
       have n8_ := Aside0.mk h8_
       have n9_ := Aside0.mk h9_
       clear HO_64
       clear HO_118000
       clear HO_118001
       clear HO_118002
       clear HO126
       clear HO128
       clear HO131
       clear BK110
       clear BK117
       clear HB
       clear h0_ h1_ h2_ h3_ h4_ h5_ h6_ h7_ h8_ h9_
       have HO131 := n0_
       have HO134 := n1_
       have HO137 := n2_
       have HO140 := n3_
       have HO_118001 := n4_
       have HO_118002 := n5_
       have HO_64 := n6_
       have BK110 := n7_
       have BK117 := n8_
       have HB := n9_
       clear n0_ n1_ n2_ n3_ n4_ n5_ n6_ n7_ n8_ n9_
       have hHeld : w38.cell? ⟨gb117, 0, none⟩ = some (.slice Ao27 x118000_1.length co27) ∧ w38.cell? ⟨gb117, 1, none⟩ = some (.slice Ao28 x118001_1.length co28) ∧ w38.cell? ⟨gb117, 2, none⟩ = some (.slice Ao29 x118002_1.length co29) := hS_
       obtain ⟨Ao40, co40, eo40⟩ := Kd.N_slice HO140.out
       (first | subst eo40 | (injection eo40 with f1_ f2_ f3_; have f4_ := f1_.symm; have f5_ := f3_.symm; clear f1_ f2_ f3_; subst f4_; subst f5_))
       refine norm_ (a' := ?_) ?_ ?_
       rotate_left
       ·simp only [putAll, Act.put, List.setIfInBounds_toArray, List.set_cons_zero, List.set_cons_succ]
        rfl
       refine two_ (i := 9) (j := 13) (Ni := some 37) (Nj := some 41) (bl 21 40959) (bl 21 48639) rfl rfl rfl rfl (two_of HT_.out (by kernel_rfl)) (by decide) (by decide) (fun K hK => ?_) (fun K hK => ?_)
       ·skip
        refine Kd.N_append_rows_step (Kd.slice 3 (Kd.int .i64)) (w0 := w) w.heap.size (by rfl) (.tmp 34) (.tmp 36) 69 33 (.slice none 0 0) 24 rfl Try.underlying69 info33 rfl (by decide) (by omega) (.slice Ao28 x118001_1.length co28) x118001_1 y138 _ _ _ (fun k_ => (w.heap.size ≤ k_) ∧ some k_ ≠ (.slice none 0 0 : Value).ownBlock ∧ some k_ ≠ (.slice Ao29 x118002_1.length co29 : Value).ownBlock ∧ some k_ ≠ (.slice none 0 0 : Value).ownBlock ∧ some k_ ≠ (v133 : Value).ownBlock ∧ some k_ ≠ (v136 : Value).ownBlock ∧ k_ ≠ gb110 ∧ k_ ≠ gb117) (fun k_ => ((fun k_ => (w.heap.size ≤ k_) ∧ some k_ ≠ (.slice none 0 0 : Value).ownBlock ∧ some k_ ≠ (.slice Ao29 x118002_1.length co29 : Value).ownBlock ∧ some k_ ≠ (.slice none 0 0 : Value).ownBlock ∧ some k_ ≠ (v133 : Value).ownBlock ∧ some k_ ≠ (v136 : Value).ownBlock ∧ k_ ≠ gb110 ∧ k_ ≠ gb117)) k_ ∧ some k_ ≠ (.slice Ao28 x118001_1.length co28 : Value).ownBlock) rfl rfl ?aO ?aR (fun _ hk => hk) ?aF ?aB ?aS ?aL ?_
        (case aR => exact (by skip; exact Kd.N_F (Kd.N_mono (ok' := (fun k_ => ((fun k_ => (w.heap.size ≤ k_) ∧ some k_ ≠ (.slice none 0 0 : Value).ownBlock ∧ some k_ ≠ (.slice Ao29 x118002_1.length co29 : Value).ownBlock ∧ some k_ ≠ (.slice none 0 0 : Value).ownBlock ∧ some k_ ≠ (v133 : Value).ownBlock ∧ some k_ ≠ (v136 : Value).ownBlock ∧ k_ ≠ gb110 ∧ k_ ≠ gb117)) k_ ∧ some k_ ≠ (.slice Ao28 x118001_1.length co28 : Value).ownBlock)) (HO140.out) (fun k_ hk => ⟨⟨hk.1, ⟨hk.2.2.2.2.2.2.1, ⟨hk.2.2.2.2.2.1, ⟨hk.2.1, ⟨hk.2.2.1, ⟨hk.2.2.2.1, ⟨hk.2.2.2.2.2.2.2.1, hk.2.2.2.2.2.2.2.2⟩⟩⟩⟩⟩⟩⟩, hk.2.2.2.2.1⟩))))
        (case aB => exact (bw HB))
        (case aF => exact (fun k_ hk => ⟨(Nat.le_trans (below_size (bw HB)) hk), Kd.fresh' (Kd.R_lt (rk HO_64)) k_ hk, Kd.fresh' (Kd.R_lt (rk HO_118002)) k_ hk, (by simp [Value.ownBlock]), Kd.fresh' (Kd.N_lt HO134.out) k_ hk, Kd.fresh' (Kd.N_lt HO137.out) k_ hk, Kd.freshB (g := gb110) (o := .cells #[.slice none 0 0, .slice none 0 0, .slice none 0 0] 71 (0, 0)) (bk BK110) k_ hk, Kd.freshB (g := gb117) (o := .cells #[.slice Ao27 x118000_1.length co27, .slice Ao28 x118001_1.length co28, .slice Ao29 x118002_1.length co29] 71 (0, 0)) (bk BK117) k_ hk⟩))
        (case aO => exact (by exact Kd.N_mono HO_118001.out (fun _ hk => ⟨hk.1, ⟨hk.2.2.2.2.2.2.1, ⟨hk.2.2.2.2.2.1, ⟨hk.2.1, ⟨hk.2.2.1, ⟨hk.2.2.2.1, ⟨hk.2.2.2.2.2.2.2.1, hk.2.2.2.2.2.2.2.2⟩⟩⟩⟩⟩⟩⟩)))
        (case aS => exact (below_size (bw HB)))
        (case aL => have := LMc21.out; omega)
        intro v142 w39 ho hb hg hat
        rw [← Ny141.out] at ho
        have n0_ := Aside0.mk (Kd.R_over' (rk HO_64) (Kd.N_typed HO_118001.out) (by decide) hg)
        have n1_ := Aside0.mk (Kd.R_over' (rk HO_118002) (Kd.N_typed HO_118001.out) (by decide) hg)
        have n2_ := Aside0.mk (blk_grown (g := gb110) (o := .cells #[.slice none 0 0, .slice none 0 0, .slice none 0 0] 71 (0, 0)) (bk BK110) hg (Kd.N_ne HO_118001.out BK110.out (by decide)))
        have n3_ := Aside0.mk (blk_grown (g := gb117) (o := .cells #[.slice Ao27 x118000_1.length co27, .slice Ao28 x118001_1.length co28, .slice Ao29 x118002_1.length co29] 71 (0, 0)) (bk BK117) hg (Kd.N_ne HO_118001.out BK117.out (by decide)))
        have n4_ := Aside0.mk (Kd.R_over' (rk HO131) (Kd.N_typed HO_118001.out) (by decide) hg)
        have n5_ := Aside0.mk (Kd.N_afterv (ok := (fun k_ => (w.heap.size ≤ k_) ∧ some k_ ≠ (.slice none 0 0 : Value).ownBlock ∧ some k_ ≠ (.slice Ao29 x118002_1.length co29 : Value).ownBlock ∧ some k_ ≠ (.slice none 0 0 : Value).ownBlock ∧ some k_ ≠ (v136 : Value).ownBlock ∧ some k_ ≠ (.slice Ao40 y138.length co40 : Value).ownBlock ∧ k_ ≠ gb110 ∧ k_ ≠ gb117)) (by exact Kd.N_mono HO134.out (fun _ hk => ⟨⟨hk.1, ⟨hk.2.2.2.2.2.2.1, ⟨hk.2.2.2.2.2.1, ⟨hk.2.1, ⟨hk.2.2.1, ⟨hk.2.2.2.1, ⟨hk.2.2.2.2.2.2.2.1, hk.2.2.2.2.2.2.2.2⟩⟩⟩⟩⟩⟩⟩, hk.2.2.2.2.1⟩)) hg hat)
        have n6_ := Aside0.mk (Kd.N_afterv (ok := (fun k_ => (w.heap.size ≤ k_) ∧ some k_ ≠ (.slice none 0 0 : Value).ownBlock ∧ some k_ ≠ (.slice Ao29 x118002_1.length co29 : Value).ownBlock ∧ some k_ ≠ (.slice none 0 0 : Value).ownBlock ∧ some k_ ≠ (.slice Ao40 y138.length co40 : Value).ownBlock ∧ k_ ≠ gb110 ∧ k_ ≠ gb117)) (by exact Kd.N_mono HO137.out (fun _ hk => ⟨⟨hk.1, ⟨hk.2.2.2.2.2.1, ⟨hk.2.2.2.2.1, ⟨hk.2.1, ⟨hk.2.2.1, ⟨hk.2.2.2.2.2.2.1, hk.2.2.2.2.2.2.2⟩⟩⟩⟩⟩⟩, hk.2.2.2.1⟩)) hg hat)
        have n7_ := Aside0.mk (Kd.N_afterv (ok := (fun k_ => (w.heap.size ≤ k_) ∧ some k_ ≠ (.slice none 0 0 : Value).ownBlock ∧ some k_ ≠ (.slice Ao29 x118002_1.length co29 : Value).ownBlock ∧ some k_ ≠ (.slice none 0 0 : Value).ownBlock ∧ some k_ ≠ (v133 : Value).ownBlock ∧ some k_ ≠ (v136 : Value).ownBlock ∧ k_ ≠ gb110 ∧ k_ ≠ gb117)) (by exact Kd.N_mono HO140.out (fun _ hk => ⟨⟨hk.1, ⟨hk.2.2.2.2.2.2.1, ⟨hk.2.2.2.2.2.1, ⟨hk.2.1, ⟨hk.2.2.1, ⟨hk.2.2.2.1, ⟨hk.2.2.2.2.2.2.2.1, hk.2.2.2.2.2.2.2.2⟩⟩⟩⟩⟩⟩⟩, hk.2.2.2.2.1⟩)) hg hat)
        have n8_ := Aside0.mk (hb)
        have n9_ := Aside0.mk (ho)
        clear HO_64
        clear HO_118002
        clear BK110
        clear BK117
        clear HO131
        clear HO134
        clear HO137
        clear HO140
        clear HB
        clear HO_118001
        have HO_64 := n0_
        have HO_118002 := n1_
        have BK110 := n2_
        have BK117 := n3_
        have HO131 := n4_
        have HO134 := n5_
        have HO137 := n6_
        have HO140 := n7_
        have HB := n8_
        have HO143 := n9_
        clear n0_ n1_ n2_ n3_ n4_ n5_ n6_ n7_ n8_ n9_
        clear ho hb hg hat
        refine hK.out _ _ ⟨bc0 BK117, bc1 BK117, bc2 BK117⟩ (fun hHeld => ?_)
        clear hK K
        refine norm_ (a' := ?_) ?_ ?_; rotate_left; (show Act.put _ (some 37) _ = _; simp only [sqa, sqb, sqc, sqd, i64_w, i32_w]; rfl)
        exact norm_ (by first | (simp only [putAll, Act.put, List.setIfInBounds_toArray, List.set_cons_zero, List.set_cons_succ]; done) | (simp only [putAll, Act.put, List.setIfInBounds_toArray, List.set_cons_zero, List.set_cons_succ]; rfl)) (hJ3_4_8_9 (v133, v136, .slice Ao40 y138.length co40, v142) _ ⟨hHeld, (rk HO131), (by exact Kd.N_mono HO134.out (fun _ hk => ⟨hk.1.1, ⟨hk.1.2.2.2.1, ⟨hk.1.2.2.2.2.1, ⟨hk.1.2.2.2.2.2.1, ⟨hk.2, ⟨hk.1.2.2.1, ⟨hk.1.2.1, ⟨hk.1.2.2.2.2.2.2.1, hk.1.2.2.2.2.2.2.2⟩⟩⟩⟩⟩⟩⟩⟩)), (by exact Kd.N_mono HO137.out (fun _ hk => ⟨hk.1.1, ⟨hk.1.2.2.2.1, ⟨hk.1.2.2.2.2.1, ⟨hk.2, ⟨hk.1.2.2.1, ⟨hk.1.2.1, ⟨hk.1.2.2.2.2.2.1, hk.1.2.2.2.2.2.2⟩⟩⟩⟩⟩⟩⟩)), (by exact Kd.N_mono HO140.out (fun _ hk => ⟨hk.1.1, ⟨hk.1.2.2.2.1, ⟨hk.1.2.2.2.2.1, ⟨hk.1.2.2.2.2.2.1, ⟨hk.2, ⟨hk.1.2.2.1, ⟨hk.1.2.1, ⟨hk.1.2.2.2.2.2.2.1, hk.1.2.2.2.2.2.2.2⟩⟩⟩⟩⟩⟩⟩⟩)), (by exact Kd.N_mono HO143.out (fun _ hk => ⟨hk.1, ⟨hk.2.2.2.1, ⟨hk.2.2.2.2.1, ⟨hk.2.2.2.2.2.1, ⟨hk.2.2.1, ⟨hk.2.1, ⟨hk.2.2.2.2.2.2.1, hk.2.2.2.2.2.2.2⟩⟩⟩⟩⟩⟩⟩)), (rk HO_118002), (rk HO_64), (bk BK110), (bk BK117), (bw HB)⟩)
       ·skip
        refine Kd.R_lit_step (Kd.int .i64) _ 3 ?hg (N := 41) ?hd (xs := ([t124] : List Int)) (inner := [.int .i64 t124]) (ok := fun _ => True) (okp := fun _ => True) ?hr ?hp (fun _ hk => hk) trivial (Below.refl _ _) (Nat.le_refl _) (by simp) ?_; (case hd => rfl); (case hg => rfl); (case hr => first | (go_simp; done) | (go_simp; rfl)); (case hp => exact (Reps.one (show Kd.M (Kd.int .i64) _ _ _ t124 [.int .i64 t124] from rfl) (Reps.none _ _)))
        intro v145 w39 ho40 hb hg_ hnew_
        clear hg_ hnew_
        (first | rw [← Ny144.out] at ho40 | (simp only [Int.reduceToNat] at ho40; rw [← Ny144.out] at ho40))
        replace HO_64 := rb HO_64 hb
        replace HO_118001 := Aside0.mk (Kd.N_elder' HO_118001.out (Kd.R_base ho40) hb)
        replace HO131 := rb HO131 hb
        replace HO134 := Aside0.mk (Kd.N_elder' HO134.out (Kd.R_base ho40) hb)
        replace HO137 := Aside0.mk (Kd.N_elder' HO137.out (Kd.R_base ho40) hb)
        replace HO140 := Aside0.mk (Kd.N_elder' HO140.out (Kd.R_base ho40) hb)
        have HO146 := Aside0.mk (Kd.R_lower (Kd.R_new' (Kd.R_newM (M := fun k_ => (w.heap.size ≤ k_)) ho40 (below_size (bw HB)) (fun k_ h_ => h_)) (Kd.R_lt (rk HO_118002))) (below_size (bw HB)))
        replace HO_118002 := Aside0.mk (Kd.R_elder' (rk HO_118002) (Kd.R_base ho40) hb)
        replace BK110 := bb BK110 hb
        replace BK117 := bb BK117 hb
        replace HB := bs HB hb
        clear hb ho40
        refine hK.out _ _ ⟨bc0 BK117, bc1 BK117, bc2 BK117⟩ (fun hHeld => ?_)
        clear hK K
        refine norm_ (a' := ?_) ?_ ?_; rotate_left; (show Act.put _ (some 41) _ = _; simp only [sqa, sqb, sqc, sqd, i64_w, i32_w]; rfl)
        exact norm_ (by first | (simp only [putAll, Act.put, List.setIfInBounds_toArray, List.set_cons_zero, List.set_cons_succ]; done) | (simp only [putAll, Act.put, List.setIfInBounds_toArray, List.set_cons_zero, List.set_cons_succ]; rfl)) (hJ3_4_8_13 (v133, v136, (.slice Ao40 y138.length co40), v145) _ ⟨hHeld, (rk HO131), (by exact Kd.N_mono HO134.out (fun _ hk => ⟨hk.1.1, ⟨hk.1.2.1, ⟨hk.1.2.2.1, ⟨hk.1.2.2.2.1, ⟨hk.2, ⟨hk.1.2.2.2.2.1, ⟨hk.1.2.2.2.2.2.1, ⟨hk.1.2.2.2.2.2.2.1, ⟨hk.1.2.2.2.2.2.2.2.1, hk.1.2.2.2.2.2.2.2.2⟩⟩⟩⟩⟩⟩⟩⟩⟩)), (by exact Kd.N_mono HO137.out (fun _ hk => ⟨hk.1.1, ⟨hk.1.2.1, ⟨hk.1.2.2.1, ⟨hk.2, ⟨hk.1.2.2.2.1, ⟨hk.1.2.2.2.2.1, ⟨hk.1.2.2.2.2.2.1, ⟨hk.1.2.2.2.2.2.2.1, hk.1.2.2.2.2.2.2.2⟩⟩⟩⟩⟩⟩⟩⟩)), (by exact Kd.N_mono HO140.out (fun _ hk => ⟨hk.1.1, ⟨hk.1.2.1, ⟨hk.1.2.2.1, ⟨hk.1.2.2.2.1, ⟨hk.2, ⟨hk.1.2.2.2.2.1, ⟨hk.1.2.2.2.2.2.1, ⟨hk.1.2.2.2.2.2.2.1, ⟨hk.1.2.2.2.2.2.2.2.1, hk.1.2.2.2.2.2.2.2.2⟩⟩⟩⟩⟩⟩⟩⟩⟩)), (by exact Kd.R_mono HO146.out (fun _ hk => ⟨hk.1.1, hk.2⟩)), (by exact Kd.N_mono HO_118001.out (fun _ hk => ⟨hk.1.1, ⟨hk.1.2.1, ⟨hk.1.2.2.1, ⟨hk.1.2.2.2.1, ⟨hk.1.2.2.2.2.1, ⟨hk.2, ⟨hk.1.2.2.2.2.2.1, ⟨hk.1.2.2.2.2.2.2.1, ⟨hk.1.2.2.2.2.2.2.2.1, hk.1.2.2.2.2.2.2.2.2⟩⟩⟩⟩⟩⟩⟩⟩⟩)), (rk HO_118002), (rk HO_64), (bk BK110), (bk BK117), (bw HB)⟩)
     ·skip
      rintro ⟨v133, v136, v139, v145⟩ w40 ⟨hS_, h0_, h1_, h2_, h3_, h4_, h5_, h6_, h7_, h8_, h9_, h10_⟩
      have n0_ := Aside0.mk h0_
      have n1_ := Aside0.mk h1_
      have n2_ := Aside0.mk h2_
      have n3_ := Aside0.mk h3_
      have n4_ := Aside0.mk h4_
      have n5_ := Aside0.mk h5_
      have n6_ := Aside0.mk h6_
      have n7_ := Aside0.mk h7_
      have n8_ := Aside0.mk h8_
      have n9_ := Aside0.mk h9_
      have n10_ := Aside0.mk h10_
      clear HO_64
      clear HO_118000
      clear HO_118001
      clear HO_118002
      clear HO126
      clear HO128
      clear HO131
      clear BK110
      clear BK117
      clear HB
      clear h0_ h1_ h2_ h3_ h4_ h5_ h6_ h7_ h8_ h9_ h10_
      have HO131 := n0_
      have HO134 := n1_
      have HO137 := n2_
      have HO140 := n3_
      have HO146 := n4_
      have HO_118001 := n5_
      have HO_118002 := n6_
      have HO_64 := n7_
      have BK110 := n8_
      have BK117 := n9_
      have HB := n10_
      clear n0_ n1_ n2_ n3_ n4_ n5_ n6_ n7_ n8_ n9_ n10_
      have hHeld : w40.cell? ⟨gb117, 0, none⟩ = some (.slice Ao27 x118000_1.length co27) ∧ w40.cell? ⟨gb117, 1, none⟩ = some (.slice Ao28 x118001_1.length co28) ∧ w40.cell? ⟨gb117, 2, none⟩ = some (.slice Ao29 x118002_1.length co29) := hS_
      obtain ⟨Ao42, co42, eo42⟩ := Kd.N_slice HO140.out
      (first | subst eo42 | (injection eo42 with f1_ f2_ f3_; have f4_ := f1_.symm; have f5_ := f3_.symm; clear f1_ f2_ f3_; subst f4_; subst f5_))
      refine norm_ (a' := ?_) ?_ ?_
      rotate_left
      ·simp only [putAll, Act.put, List.setIfInBounds_toArray, List.set_cons_zero, List.set_cons_succ]
       rfl
      refine on 9 37 (bl 21 49151) HT_.out (fun K hK => ?_)
      refine Kd.N_append_rows_step (Kd.slice 3 (Kd.int .i64)) (w0 := w) w.heap.size (by rfl) (.tmp 34) (.tmp 36) 69 33 (.slice none 0 0) 24 rfl Try.underlying69 info33 rfl (by decide) (by omega) (.slice Ao28 x118001_1.length co28) x118001_1 y138 _ _ _ (fun k_ => (w.heap.size ≤ k_) ∧ some k_ ≠ (.slice none 0 0 : Value).ownBlock ∧ some k_ ≠ (.slice Ao29 x118002_1.length co29 : Value).ownBlock ∧ some k_ ≠ (.slice none 0 0 : Value).ownBlock ∧ some k_ ≠ (v133 : Value).ownBlock ∧ some k_ ≠ (v136 : Value).ownBlock ∧ some k_ ≠ (v145 : Value).ownBlock ∧ k_ ≠ gb110 ∧ k_ ≠ gb117) (fun k_ => ((fun k_ => (w.heap.size ≤ k_) ∧ some k_ ≠ (.slice none 0 0 : Value).ownBlock ∧ some k_ ≠ (.slice Ao29 x118002_1.length co29 : Value).ownBlock ∧ some k_ ≠ (.slice none 0 0 : Value).ownBlock ∧ some k_ ≠ (v133 : Value).ownBlock ∧ some k_ ≠ (v136 : Value).ownBlock ∧ some k_ ≠ (v145 : Value).ownBlock ∧ k_ ≠ gb110 ∧ k_ ≠ gb117)) k_ ∧ some k_ ≠ (.slice Ao28 x118001_1.length co28 : Value).ownBlock) rfl rfl ?aO ?aR (fun _ hk => hk) ?aF ?aB ?aS ?aL ?_
      (case aR => exact (by skip; exact Kd.N_F (Kd.N_mono (ok' := (fun k_ => ((fun k_ => (w.heap.size ≤ k_) ∧ some k_ ≠ (.slice none 0 0 : Value).ownBlock ∧ some k_ ≠ (.slice Ao29 x118002_1.length co29 : Value).ownBlock ∧ some k_ ≠ (.slice none 0 0 : Value).ownBlock ∧ some k_ ≠ (v133 : Value).ownBlock ∧ some k_ ≠ (v136 : Value).ownBlock ∧ some k_ ≠ (v145 : Value).ownBlock ∧ k_ ≠ gb110 ∧ k_ ≠ gb117)) k_ ∧ some k_ ≠ (.slice Ao28 x118001_1.length co28 : Value).ownBlock)) (HO140.out) (fun k_ hk => ⟨⟨hk.1, ⟨hk.2.2.2.2.2.2.2.1, ⟨hk.2.2.2.2.2.2.1, ⟨hk.2.1, ⟨hk.2.2.1, ⟨hk.2.2.2.1, ⟨hk.2.2.2.2.1, ⟨hk.2.2.2.2.2.2.2.2.1, hk.2.2.2.2.2.2.2.2.2⟩⟩⟩⟩⟩⟩⟩⟩, hk.2.2.2.2.2.1⟩))))
      (case aB => exact (bw HB))
      (case aF => exact (fun k_ hk => ⟨(Nat.le_trans (below_size (bw HB)) hk), Kd.fresh' (Kd.R_lt (rk HO_64)) k_ hk, Kd.fresh' (Kd.R_lt (rk HO_118002)) k_ hk, (by simp [Value.ownBlock]), Kd.fresh' (Kd.N_lt HO134.out) k_ hk, Kd.fresh' (Kd.N_lt HO137.out) k_ hk, Kd.fresh' (Kd.R_lt (rk HO146)) k_ hk, Kd.freshB (g := gb110) (o := .cells #[.slice none 0 0, .slice none 0 0, .slice none 0 0] 71 (0, 0)) (bk BK110) k_ hk, Kd.freshB (g := gb117) (o := .cells #[.slice Ao27 x118000_1.length co27, .slice Ao28 x118001_1.length co28, .slice Ao29 x118002_1.length co29] 71 (0, 0)) (bk BK117) k_ hk⟩))
      (case aO => exact (by exact Kd.N_mono HO_118001.out (fun _ hk => ⟨hk.1, ⟨hk.2.2.2.2.2.2.2.1, ⟨hk.2.2.2.2.2.2.1, ⟨hk.2.1, ⟨hk.2.2.1, ⟨hk.2.2.2.1, ⟨hk.2.2.2.2.2.1, ⟨hk.2.2.2.2.2.2.2.2.1, hk.2.2.2.2.2.2.2.2.2⟩⟩⟩⟩⟩⟩⟩⟩)))
      (case aS => exact (below_size (bw HB)))
      (case aL => have := LMc21.out; omega)
      intro v142 w41 ho hb hg hat
      rw [← Ny141.out] at ho
      have n0_ := Aside0.mk (Kd.R_over' (rk HO_64) (Kd.N_typed HO_118001.out) (by decide) hg)
      have n1_ := Aside0.mk (Kd.R_over' (rk HO_118002) (Kd.N_typed HO_118001.out) (by decide) hg)
      have n2_ := Aside0.mk (blk_grown (g := gb110) (o := .cells #[.slice none 0 0, .slice none 0 0, .slice none 0 0] 71 (0, 0)) (bk BK110) hg (Kd.N_ne HO_118001.out BK110.out (by decide)))
      have n3_ := Aside0.mk (blk_grown (g := gb117) (o := .cells #[.slice Ao27 x118000_1.length co27, .slice Ao28 x118001_1.length co28, .slice Ao29 x118002_1.length co29] 71 (0, 0)) (bk BK117) hg (Kd.N_ne HO_118001.out BK117.out (by decide)))
      have n4_ := Aside0.mk (Kd.R_over' (rk HO131) (Kd.N_typed HO_118001.out) (by decide) hg)
      have n5_ := Aside0.mk (Kd.N_afterv (ok := (fun k_ => (w.heap.size ≤ k_) ∧ some k_ ≠ (.slice none 0 0 : Value).ownBlock ∧ some k_ ≠ (.slice Ao29 x118002_1.length co29 : Value).ownBlock ∧ some k_ ≠ (.slice none 0 0 : Value).ownBlock ∧ some k_ ≠ (v136 : Value).ownBlock ∧ some k_ ≠ (.slice Ao42 y138.length co42 : Value).ownBlock ∧ some k_ ≠ (v145 : Value).ownBlock ∧ k_ ≠ gb110 ∧ k_ ≠ gb117)) (by exact Kd.N_mono HO134.out (fun _ hk => ⟨⟨hk.1, ⟨hk.2.2.2.2.2.2.2.1, ⟨hk.2.2.2.2.2.2.1, ⟨hk.2.1, ⟨hk.2.2.1, ⟨hk.2.2.2.1, ⟨hk.2.2.2.2.1, ⟨hk.2.2.2.2.2.2.2.2.1, hk.2.2.2.2.2.2.2.2.2⟩⟩⟩⟩⟩⟩⟩⟩, hk.2.2.2.2.2.1⟩)) hg hat)
      have n6_ := Aside0.mk (Kd.N_afterv (ok := (fun k_ => (w.heap.size ≤ k_) ∧ some k_ ≠ (.slice none 0 0 : Value).ownBlock ∧ some k_ ≠ (.slice Ao29 x118002_1.length co29 : Value).ownBlock ∧ some k_ ≠ (.slice none 0 0 : Value).ownBlock ∧ some k_ ≠ (.slice Ao42 y138.length co42 : Value).ownBlock ∧ some k_ ≠ (v145 : Value).ownBlock ∧ k_ ≠ gb110 ∧ k_ ≠ gb117)) (by exact Kd.N_mono HO137.out (fun _ hk => ⟨⟨hk.1, ⟨hk.2.2.2.2.2.2.1, ⟨hk.2.2.2.2.2.1, ⟨hk.2.1, ⟨hk.2.2.1, ⟨hk.2.2.2.1, ⟨hk.2.2.2.2.2.2.2.1, hk.2.2.2.2.2.2.2.2⟩⟩⟩⟩⟩⟩⟩, hk.2.2.2.2.1⟩)) hg hat)
      have n7_ := Aside0.mk (Kd.N_afterv (ok := (fun k_ => (w.heap.size ≤ k_) ∧ some k_ ≠ (.slice none 0 0 : Value).ownBlock ∧ some k_ ≠ (.slice Ao29 x118002_1.length co29 : Value).ownBlock ∧ some k_ ≠ (.slice none 0 0 : Value).ownBlock ∧ some k_ ≠ (v133 : Value).ownBlock ∧ some k_ ≠ (v136 : Value).ownBlock ∧ some k_ ≠ (v145 : Value).ownBlock ∧ k_ ≠ gb110 ∧ k_ ≠ gb117)) (by exact Kd.N_mono HO140.out (fun _ hk => ⟨⟨hk.1, ⟨hk.2.2.2.2.2.2.2.1, ⟨hk.2.2.2.2.2.2.1, ⟨hk.2.1, ⟨hk.2.2.1, ⟨hk.2.2.2.1, ⟨hk.2.2.2.2.1, ⟨hk.2.2.2.2.2.2.2.2.1, hk.2.2.2.2.2.2.2.2.2⟩⟩⟩⟩⟩⟩⟩⟩, hk.2.2.2.2.2.1⟩)) hg hat)
      have n8_ := Aside0.mk (Kd.R_over' (rk HO146) (Kd.N_typed HO_118001.out) (by decide) hg)
      have n9_ := Aside0.mk (hb)
      have n10_ := Aside0.mk (ho)
      clear HO_64
      clear HO_118002
      clear BK110
      clear BK117
      clear HO131
      clear HO134
      clear HO137
      clear HO140
      clear HO146
      clear HB
      clear HO_118001
      have HO_64 := n0_
      have HO_118002 := n1_
      have BK110 := n2_
      have BK117 := n3_
      have HO131 := n4_
      have HO134 := n5_
      have HO137 := n6_
      have HO140 := n7_
      have HO146 := n8_
      have HB := n9_
      have HO143 := n10_
      clear n0_ n1_ n2_ n3_ n4_ n5_ n6_ n7_ n8_ n9_ n10_
      clear ho hb hg hat
      refine hK.out _ _ ⟨bc0 BK117, bc1 BK117, bc2 BK117⟩ (fun hHeld => ?_)
      clear hK K
      refine norm_ (a' := ?_) ?_ ?_; rotate_left; (show Act.put _ (some 37) _ = _; simp only [sqa, sqb, sqc, sqd, i64_w, i32_w]; rfl)
      exact norm_ (by first | (simp only [putAll, Act.put, List.setIfInBounds_toArray, List.set_cons_zero, List.set_cons_succ]; done) | (simp only [putAll, Act.put, List.setIfInBounds_toArray, List.set_cons_zero, List.set_cons_succ]; rfl)) (hJ3_4_8_9_13 (v133, v136, .slice Ao42 y138.length co42, v142, v145) _ ⟨hHeld, (rk HO131), (by exact Kd.N_mono HO134.out (fun _ hk => ⟨hk.1.1, ⟨hk.1.2.2.2.1, ⟨hk.1.2.2.2.2.1, ⟨hk.1.2.2.2.2.2.1, ⟨hk.2, ⟨hk.1.2.2.2.2.2.2.1, ⟨hk.1.2.2.1, ⟨hk.1.2.1, ⟨hk.1.2.2.2.2.2.2.2.1, hk.1.2.2.2.2.2.2.2.2⟩⟩⟩⟩⟩⟩⟩⟩⟩)), (by exact Kd.N_mono HO137.out (fun _ hk => ⟨hk.1.1, ⟨hk.1.2.2.2.1, ⟨hk.1.2.2.2.2.1, ⟨hk.2, ⟨hk.1.2.2.2.2.2.1, ⟨hk.1.2.2.1, ⟨hk.1.2.1, ⟨hk.1.2.2.2.2.2.2.1, hk.1.2.2.2.2.2.2.2⟩⟩⟩⟩⟩⟩⟩⟩)), (by exact Kd.N_mono HO140.out (fun _ hk => ⟨hk.1.1, ⟨hk.1.2.2.2.1, ⟨hk.1.2.2.2.2.1, ⟨hk.1.2.2.2.2.2.1, ⟨hk.2, ⟨hk.1.2.2.2.2.2.2.1, ⟨hk.1.2.2.1, ⟨hk.1.2.1, ⟨hk.1.2.2.2.2.2.2.2.1, hk.1.2.2.2.2.2.2.2.2⟩⟩⟩⟩⟩⟩⟩⟩⟩)), (by exact Kd.N_mono HO143.out (fun _ hk => ⟨hk.1, ⟨hk.2.2.2.1, ⟨hk.2.2.2.2.1, ⟨hk.2.2.2.2.2.1, ⟨hk.2.2.2.2.2.2.1, ⟨hk.2.2.1, ⟨hk.2.1, ⟨hk.2.2.2.2.2.2.2.1, hk.2.2.2.2.2.2.2.2⟩⟩⟩⟩⟩⟩⟩⟩)), (rk HO146), (rk HO_118002), (rk HO_64), (bk BK110), (bk BK117), (bw HB)⟩)
    ·skip
     rintro ⟨v133, v136, v139, v142⟩ w40 ⟨hS_, h0_, h1_, h2_, h3_, h4_, h5_, h6_, h7_, h8_, h9_⟩
     have n0_ := Aside0.mk h0_
     have n1_ := Aside0.mk h1_
     have n2_ := Aside0.mk h2_
     have n3_ := Aside0.mk h3_
     have n4_ := Aside0.mk h4_
     have n5_ := Aside0.mk h5_
     have n6_ := Aside0.mk h6_
     have n7_ := Aside0.mk h7_
     have n8_ := Aside0.mk h8_
     have n9_ := Aside0.mk h9_
     clear HO_64
     clear HO_118000
     clear HO_118001
     clear HO_118002
     clear HO126
     clear HO128
     clear HO131
     clear BK110
     clear BK117
     clear HB
     clear h0_ h1_ h2_ h3_ h4_ h5_ h6_ h7_ h8_ h9_
     have HO131 := n0_
     have HO134 := n1_
     have HO137 := n2_
     have HO140 := n3_
     have HO143 := n4_
     have HO_118002 := n5_
     have HO_64 := n6_
     have BK110 := n7_
     have BK117 := n8_
     have HB := n9_
     clear n0_ n1_ n2_ n3_ n4_ n5_ n6_ n7_ n8_ n9_
     have hHeld : w40.cell? ⟨gb117, 0, none⟩ = some (.slice Ao27 x118000_1.length co27) ∧ w40.cell? ⟨gb117, 1, none⟩ = some (.slice Ao28 x118001_1.length co28) ∧ w40.cell? ⟨gb117, 2, none⟩ = some (.slice Ao29 x118002_1.length co29) := hS_
     refine norm_ (a' := ?_) ?_ ?_
     rotate_left
     ·simp only [putAll, Act.put, List.setIfInBounds_toArray, List.set_cons_zero, List.set_cons_succ]
      rfl
     refine on 13 41 (bl 21 49151) HT_.out (fun K hK => ?_)
     refine Kd.R_lit_step (Kd.int .i64) _ 3 ?hg (N := 41) ?hd (xs := ([t124] : List Int)) (inner := [.int .i64 t124]) (ok := fun _ => True) (okp := fun _ => True) ?hr ?hp (fun _ hk => hk) trivial (Below.refl _ _) (Nat.le_refl _) (by simp) ?_; (case hd => rfl); (case hg => rfl); (case hr => first | (go_simp; done) | (go_simp; rfl)); (case hp => exact (Reps.one (show Kd.M (Kd.int .i64) _ _ _ t124 [.int .i64 t124] from rfl) (Reps.none _ _)))
     intro v145 w41 ho42 hb hg_ hnew_
     clear hg_ hnew_
     (first | rw [← Ny144.out] at ho42 | (simp only [Int.reduceToNat] at ho42; rw [← Ny144.out] at ho42))
     replace HO_64 := rb HO_64 hb
     replace HO131 := rb HO131 hb
     replace HO134 := Aside0.mk (Kd.N_elder' HO134.out (Kd.R_base ho42) hb)
     replace HO137 := Aside0.mk (Kd.N_elder' HO137.out (Kd.R_base ho42) hb)
     replace HO140 := Aside0.mk (Kd.N_elder' HO140.out (Kd.R_base ho42) hb)
     replace HO143 := Aside0.mk (Kd.N_elder' HO143.out (Kd.R_base ho42) hb)
     have HO146 := Aside0.mk (Kd.R_lower (Kd.R_new' (Kd.R_newM (M := fun k_ => (w.heap.size ≤ k_)) ho42 (below_size (bw HB)) (fun k_ h_ => h_)) (Kd.R_lt (rk HO_118002))) (below_size (bw HB)))
     replace HO_118002 := Aside0.mk (Kd.R_elder' (rk HO_118002) (Kd.R_base ho42) hb)
     replace BK110 := bb BK110 hb
     replace BK117 := bb BK117 hb
     replace HB := bs HB hb
     clear hb ho42
     refine hK.out _ _ ⟨bc0 BK117, bc1 BK117, bc2 BK117⟩ (fun hHeld => ?_)
     clear hK K
     refine norm_ (a' := ?_) ?_ ?_; rotate_left; (show Act.put _ (some 41) _ = _; simp only [sqa, sqb, sqc, sqd, i64_w, i32_w]; rfl)
     exact norm_ (by first | (simp only [putAll, Act.put, List.setIfInBounds_toArray, List.set_cons_zero, List.set_cons_succ]; done) | (simp only [putAll, Act.put, List.setIfInBounds_toArray, List.set_cons_zero, List.set_cons_succ]; rfl)) (hJ3_4_8_9_13 (v133, v136, v139, v142, v145) _ ⟨hHeld, (rk HO131), (by exact Kd.N_mono HO134.out (fun _ hk => ⟨hk.1.1, ⟨hk.1.2.1, ⟨hk.1.2.2.1, ⟨hk.1.2.2.2.1, ⟨hk.1.2.2.2.2.1, ⟨hk.2, ⟨hk.1.2.2.2.2.2.1, ⟨hk.1.2.2.2.2.2.2.1, ⟨hk.1.2.2.2.2.2.2.2.1, hk.1.2.2.2.2.2.2.2.2⟩⟩⟩⟩⟩⟩⟩⟩⟩)), (by exact Kd.N_mono HO137.out (fun _ hk => ⟨hk.1.1, ⟨hk.1.2.1, ⟨hk.1.2.2.1, ⟨hk.1.2.2.2.1, ⟨hk.2, ⟨hk.1.2.2.2.2.1, ⟨hk.1.2.2.2.2.2.1, ⟨hk.1.2.2.2.2.2.2.1, hk.1.2.2.2.2.2.2.2⟩⟩⟩⟩⟩⟩⟩⟩)), (by exact Kd.N_mono HO140.out (fun _ hk => ⟨hk.1.1, ⟨hk.1.2.1, ⟨hk.1.2.2.1, ⟨hk.1.2.2.2.1, ⟨hk.1.2.2.2.2.1, ⟨hk.2, ⟨hk.1.2.2.2.2.2.1, ⟨hk.1.2.2.2.2.2.2.1, ⟨hk.1.2.2.2.2.2.2.2.1, hk.1.2.2.2.2.2.2.2.2⟩⟩⟩⟩⟩⟩⟩⟩⟩)), (by exact Kd.N_mono HO143.out (fun _ hk => ⟨hk.1.1, ⟨hk.1.2.1, ⟨hk.1.2.2.1, ⟨hk.1.2.2.2.1, ⟨hk.2, ⟨hk.1.2.2.2.2.1, ⟨hk.1.2.2.2.2.2.1, ⟨hk.1.2.2.2.2.2.2.1, hk.1.2.2.2.2.2.2.2⟩⟩⟩⟩⟩⟩⟩⟩)), (by exact Kd.R_mono HO146.out (fun _ hk => ⟨hk.1.1, hk.2⟩)), (rk HO_118002), (rk HO_64), (bk BK110), (bk BK117), (bw HB)⟩)
   rintro ⟨v133, v136, v139, v142, v145⟩ w42 ⟨hS_, h0_, h1_, h2_, h3_, h4_, h5_, h6_, h7_, h8_, h9_, h10_⟩
   have n0_ := Aside0.mk h0_
   have n1_ := Aside0.mk h1_
   have n2_ := Aside0.mk h2_
   have n3_ := Aside0.mk h3_
   have n4_ := Aside0.mk h4_
   have n5_ := Aside0.mk h5_
   have n6_ := Aside0.mk h6_
   have n7_ := Aside0.mk h7_
   have n8_ := Aside0.mk h8_
   have n9_ := Aside0.mk h9_
   have n10_ := Aside0.mk h10_
   clear HO_64
   clear HO_118000
   clear HO_118001
   clear HO_118002
   clear HO126
   clear HO128
   clear HO131
   clear BK110
   clear BK117
   clear HB
   clear h0_ h1_ h2_ h3_ h4_ h5_ h6_ h7_ h8_ h9_ h10_
   have HO131 := n0_
   have HO134 := n1_
   have HO137 := n2_
   have HO140 := n3_
   have HO143 := n4_
   have HO146 := n5_
   have HO_118002 := n6_
   have HO_64 := n7_
   have BK110 := n8_
   have BK117 := n9_
   have HB := n10_
   clear n0_ n1_ n2_ n3_ n4_ n5_ n6_ n7_ n8_ n9_ n10_
   have hHeld : w42.cell? ⟨gb117, 0, none⟩ = some (.slice Ao27 x118000_1.length co27) ∧ w42.cell? ⟨gb117, 1, none⟩ = some (.slice Ao28 x118001_1.length co28) ∧ w42.cell? ⟨gb117, 2, none⟩ = some (.slice Ao29 x118002_1.length co29) := hS_
   obtain ⟨Ao44, co44, eo44⟩ := Kd.R_slice HO146.out
   (first | subst eo44 | (injection eo44 with f1_ f2_ f3_; have f4_ := f1_.symm; have f5_ := f3_.symm; clear f1_ f2_ f3_; subst f4_; subst f5_))
   refine norm_ (a' := ?_) ?_ ?_
   rotate_left
   ·simp only [putAll, Act.put, List.setIfInBounds_toArray, List.set_cons_zero, List.set_cons_succ]
    rfl
   refine on 14 42 (bl 21 65535) HT_.out (fun K hK => ?_)
   refine Kd.R_append_rows_step (Kd.int .i64) (w0 := w) w.heap.size (by rfl) (.tmp 39) (.tmp 41) 33 3 (.int .i64 0) 8 rfl Try.underlying33 info3 rfl (by decide) (by omega) (.slice Ao29 x118002_1.length co29) x118002_1 y144 _ _ _ (fun k_ => (w.heap.size ≤ k_) ∧ some k_ ≠ (.slice Ao44 y144.length co44 : Value).ownBlock) (fun _ => False) rfl rfl ?aO ?aR (fun _ _ h => h) (fun _ h => h.elim) ?aF ?aB ?aS ?aL ?_
   (case aR => exact cr HO146)
   (case aB => exact (bw HB))
   (case aF => exact (fun k_ hk => ⟨(Nat.le_trans (below_size (bw HB)) hk), Kd.fresh' (Kd.R_lt (rk HO146)) k_ hk⟩))
   (case aO => exact (rk HO_118002))
   (case aS => exact (below_size (bw HB)))
   (case aL => have := LMc22.out; omega)
   intro v148 w43 ho hb hg hat
   rw [← Ny147.out] at ho
   have n0_ := Aside0.mk (Kd.R_over' (rk HO_64) (Kd.R_typed (rk HO_118002)) (by decide) hg)
   have n1_ := Aside0.mk (blk_grown (g := gb110) (o := .cells #[.slice none 0 0, .slice none 0 0, .slice none 0 0] 71 (0, 0)) (bk BK110) hg (Kd.R_ne HO_118002.out BK110.out (by decide)))
   have n2_ := Aside0.mk (blk_grown (g := gb117) (o := .cells #[.slice Ao27 x118000_1.length co27, .slice Ao28 x118001_1.length co28, .slice Ao29 x118002_1.length co29] 71 (0, 0)) (bk BK117) hg (Kd.R_ne HO_118002.out BK117.out (by decide)))
   have n3_ := Aside0.mk (Kd.R_over' (rk HO131) (Kd.R_typed (rk HO_118002)) (by decide) hg)
   have n4_ := Aside0.mk (Kd.N_afterv (ok := (fun k_ => (w.heap.size ≤ k_) ∧ some k_ ≠ (.slice none 0 0 : Value).ownBlock ∧ some k_ ≠ (.slice none 0 0 : Value).ownBlock ∧ some k_ ≠ (v136 : Value).ownBlock ∧ some k_ ≠ (v139 : Value).ownBlock ∧ some k_ ≠ (v142 : Value).ownBlock ∧ some k_ ≠ (.slice Ao44 y144.length co44 : Value).ownBlock ∧ k_ ≠ gb110 ∧ k_ ≠ gb117)) (by exact Kd.N_mono HO134.out (fun _ hk => ⟨⟨hk.1, ⟨hk.2.2.2.2.2.2.2.1, ⟨hk.2.1, ⟨hk.2.2.1, ⟨hk.2.2.2.1, ⟨hk.2.2.2.2.1, ⟨hk.2.2.2.2.2.1, ⟨hk.2.2.2.2.2.2.2.2.1, hk.2.2.2.2.2.2.2.2.2⟩⟩⟩⟩⟩⟩⟩⟩, hk.2.2.2.2.2.2.1⟩)) hg hat)
   have n5_ := Aside0.mk (Kd.N_afterv (ok := (fun k_ => (w.heap.size ≤ k_) ∧ some k_ ≠ (.slice none 0 0 : Value).ownBlock ∧ some k_ ≠ (.slice none 0 0 : Value).ownBlock ∧ some k_ ≠ (v139 : Value).ownBlock ∧ some k_ ≠ (v142 : Value).ownBlock ∧ some k_ ≠ (.slice Ao44 y144.length co44 : Value).ownBlock ∧ k_ ≠ gb110 ∧ k_ ≠ gb117)) (by exact Kd.N_mono HO137.out (fun _ hk => ⟨⟨hk.1, ⟨hk.2.2.2.2.2.2.1, ⟨hk.2.1, ⟨hk.2.2.1, ⟨hk.2.2.2.1, ⟨hk.2.2.2.2.1, ⟨hk.2.2.2.2.2.2.2.1, hk.2.2.2.2.2.2.2.2⟩⟩⟩⟩⟩⟩⟩, hk.2.2.2.2.2.1⟩)) hg hat)
   have n6_ := Aside0.mk (Kd.N_afterv (ok := (fun k_ => (w.heap.size ≤ k_) ∧ some k_ ≠ (.slice none 0 0 : Value).ownBlock ∧ some k_ ≠ (.slice none 0 0 : Value).ownBlock ∧ some k_ ≠ (v133 : Value).ownBlock ∧ some k_ ≠ (v136 : Value).ownBlock ∧ some k_ ≠ (v142 : Value).ownBlock ∧ some k_ ≠ (.slice Ao44 y144.length co44 : Value).ownBlock ∧ k_ ≠ gb110 ∧ k_ ≠ gb117)) (by exact Kd.N_mono HO140.out (fun _ hk => ⟨⟨hk.1, ⟨hk.2.2.2.2.2.2.2.1, ⟨hk.2.1, ⟨hk.2.2.1, ⟨hk.2.2.2.1, ⟨hk.2.2.2.2.1, ⟨hk.2.2.2.2.2.1, ⟨hk.2.2.2.2.2.2.2.2.1, hk.2.2.2.2.2.2.2.2.2⟩⟩⟩⟩⟩⟩⟩⟩, hk.2.2.2.2.2.2.1⟩)) hg hat)
   have n7_ := Aside0.mk (Kd.N_afterv (ok := (fun k_ => (w.heap.size ≤ k_) ∧ some k_ ≠ (.slice none 0 0 : Value).ownBlock ∧ some k_ ≠ (.slice none 0 0 : Value).ownBlock ∧ some k_ ≠ (v133 : Value).ownBlock ∧ some k_ ≠ (v136 : Value).ownBlock ∧ some k_ ≠ (.slice Ao44 y144.length co44 : Value).ownBlock ∧ k_ ≠ gb110 ∧ k_ ≠ gb117)) (by exact Kd.N_mono HO143.out (fun _ hk => ⟨⟨hk.1, ⟨hk.2.2.2.2.2.2.1, ⟨hk.2.1, ⟨hk.2.2.1, ⟨hk.2.2.2.1, ⟨hk.2.2.2.2.1, ⟨hk.2.2.2.2.2.2.2.1, hk.2.2.2.2.2.2.2.2⟩⟩⟩⟩⟩⟩⟩, hk.2.2.2.2.2.1⟩)) hg hat)
   have n8_ := Aside0.mk (Kd.R_after (ok := (fun k_ => (w.heap.size ≤ k_))) (rk HO146) hg hat)
   have n9_ := Aside0.mk (hb)
   have n10_ := Aside0.mk (ho)
   clear HO_64
   clear BK110
   clear BK117
   clear HO131
   clear HO134
   clear HO137
   clear HO140
   clear HO143
   clear HO146
   clear HB
   clear HO_118002
   have HO_64 := n0_
   have BK110 := n1_
   have BK117 := n2_
   have HO131 := n3_
   have HO134 := n4_
   have HO137 := n5_
   have HO140 := n6_
   have HO143 := n7_
   have HO146 := n8_
   have HB := n9_
   have HO149 := n10_
   clear n0_ n1_ n2_ n3_ n4_ n5_ n6_ n7_ n8_ n9_ n10_
   clear ho hb hg hat
   obtain ⟨Ao45, co45, eo45⟩ := Kd.N_slice HO137.out
   (first | subst eo45 | (injection eo45 with f1_ f2_ f3_; have f4_ := f1_.symm; have f5_ := f3_.symm; clear f1_ f2_ f3_; subst f4_; subst f5_))
   obtain ⟨Ao47, co47, eo47⟩ := Kd.N_slice HO143.out
   (first | subst eo47 | (injection eo47 with f1_ f2_ f3_; have f4_ := f1_.symm; have f5_ := f3_.symm; clear f1_ f2_ f3_; subst f4_; subst f5_))
   obtain ⟨Ao49, co49, eo49⟩ := Kd.R_slice HO149.out
   (first | subst eo49 | (injection eo49 with f1_ f2_ f3_; have f4_ := f1_.symm; have f5_ := f3_.symm; clear f1_ f2_ f3_; subst f4_; subst f5_))
   refine hK.out _ _ ⟨bc0 BK117, bc1 BK117, bc2 BK117⟩ (fun hHeld => ?_)
   clear hK K
   refine norm_ (a' := ?_) ?_ ?_; rotate_left; (show Act.put _ (some 42) _ = _; simp only [sqa, sqb, sqc, sqd, i64_w, i32_w]; rfl)
   refine last_ (i := 16) (N := none) (bl 21 131071) rfl rfl (one_of HT_.out (by kernel_rfl)) (by decide) (fun K hK => ?_)
   have hs46 : w43.cell? ⟨gb117, 0, none⟩ = some (.slice Ao27 x118000_1.length co27) := bc0 BK117
   have hfs46 := blk_frozen BK117.out 0
   have hns46_0 := NB110_117.out
   have hms46_0 := NB117_110.out
   refine skip_ (w1 := ?_) (by rfl) rfl ?_ ?_
   rotate_left
   ·go_simp
    rfl
   refine hK.out _ _ ?_
   clear hK K
   refine pu 17 44 (bl 21 262143) HT_.out (v := ?_) (a' := ?_) ?_ ?_ ?_
   rotate_left; (intro w'; go_simp; with_reducible rfl); rotate_left; (simp only [sqa, sqb, sqc, sqd, i64_w, i32_w]; rfl)
   refine last_ (i := 18) (N := none) (bl 21 524287) rfl rfl (one_of HT_.out (by kernel_rfl)) (by decide) (fun K hK => ?_)
   have hs48 : w43.cell? ⟨gb117, 1, none⟩ = some (.slice Ao28 x118001_1.length co28) := bc1 BK117
   have hfs48 := blk_frozen BK117.out 1
   have hns48_0 := NB110_117.out
   have hms48_0 := NB117_110.out
   refine skip_ (w1 := ?_) (by rfl) rfl ?_ ?_
   rotate_left
   ·go_simp
    rfl
   refine hK.out _ _ ?_
   clear hK K
   refine pu 19 45 (bl 21 1048575) HT_.out (v := ?_) (a' := ?_) ?_ ?_ ?_
   rotate_left; (intro w'; go_simp; with_reducible rfl); rotate_left; (simp only [sqa, sqb, sqc, sqd, i64_w, i32_w]; rfl)
   refine last_ (i := 20) (N := none) (bl 21 2097151) rfl rfl (one_of HT_.out (by kernel_rfl)) (by decide) (fun K hK => ?_)
   have hs50 : w43.cell? ⟨gb117, 2, none⟩ = some (.slice Ao29 x118002_1.length co29) := bc2 BK117
   have hfs50 := blk_frozen BK117.out 2
   have hns50_0 := NB110_117.out
   have hms50_0 := NB117_110.out
   refine skip_ (w1 := ?_) (by rfl) rfl ?_ ?_
   rotate_left
   ·go_simp
    rfl
   refine hK.out _ _ ?_
   clear hK K
   refine done_ (done_of HT_.out (by kernel_rfl)) ?_
   try go_wp2
   go_roundg k1
   case measure => have := HK1.out; omega
   case rel => exact ⟨(wrap64 (x17_1 + 1)), (t122), (y135), (y141), (y147), (.slice Ao45 y135.length co45), (.slice Ao47 y141.length co47), (.slice Ao49 y147.length co49), (by first | rfl | (simp; done) | (simp [*]; done)), H', ⟨by have := HK1.out; omega⟩, (by have h_ := Kd.R_mono (ok' := fun _ => True) (Kd.R_far (p := ⟨gb117, 2, none⟩) (Kd.R_far (p := ⟨gb117, 1, none⟩) (Kd.R_far (p := ⟨gb117, 0, none⟩) (Kd.R_types HO131.out BK117.out (by decide)) (fun _ hk => hk.2) (.slice Ao45 y135.length co45)) (fun _ hk => hk.2) (.slice Ao47 y141.length co47)) (fun _ hk => hk.2) (.slice Ao49 y147.length co49)) (fun _ hk => trivial); (try rw [HV_.out] at h_); exact ⟨Ao25, co25, rfl, (Kd.R_reads' h_).2.1, by (with_reducible repeat (first | refine Kd.C_alloc ?_ _ | refine Kd.C_drewN ?_ _ | refine Kd.C_drew ?_)); exact (Kd.R_reads' h_).2.2⟩), ⟨by exact Kd.N_mono (Kd.N_far (p := ⟨gb117, 2, none⟩) (Kd.N_far (p := ⟨gb117, 1, none⟩) (Kd.N_far (p := ⟨gb117, 0, none⟩) (Kd.N_mono HO137.out (fun k_ hk => (⟨hk, hk.1.2.2.2.2.2.2.2⟩ : _ ∧ k_ ≠ gb117))) (fun _ hk => hk.2) (.slice Ao45 y135.length co45)) (fun _ hk => hk.2) (.slice Ao47 y141.length co47)) (fun _ hk => hk.2) (.slice Ao49 y147.length co49)) (fun _ hk => ⟨hk.1.1.1, ⟨hk.1.1.2.2.1, ⟨hk.1.1.2.2.2.2.1, ⟨hk.1.2, ⟨hk.1.1.2.2.2.2.2.2.1, hk.1.1.2.2.2.2.2.2.2⟩⟩⟩⟩⟩)⟩, ⟨by exact Kd.N_mono (Kd.N_far (p := ⟨gb117, 2, none⟩) (Kd.N_far (p := ⟨gb117, 1, none⟩) (Kd.N_far (p := ⟨gb117, 0, none⟩) (Kd.N_mono HO143.out (fun k_ hk => (⟨hk, hk.1.2.2.2.2.2.2.2⟩ : _ ∧ k_ ≠ gb117))) (fun _ hk => hk.2) (.slice Ao45 y135.length co45)) (fun _ hk => hk.2) (.slice Ao47 y141.length co47)) (fun _ hk => hk.2) (.slice Ao49 y147.length co49)) (fun _ hk => ⟨hk.1.1.1, ⟨hk.1.1.2.2.1, ⟨hk.1.1.2.2.2.2.1, ⟨hk.1.2, ⟨hk.1.1.2.2.2.2.2.2.1, hk.1.1.2.2.2.2.2.2.2⟩⟩⟩⟩⟩)⟩, ⟨by exact Kd.R_mono (Kd.R_far (p := ⟨gb117, 2, none⟩) (Kd.R_far (p := ⟨gb117, 1, none⟩) (Kd.R_far (p := ⟨gb117, 0, none⟩) (Kd.R_types HO149.out BK117.out (by decide)) (fun _ hk => hk.2) (.slice Ao45 y135.length co45)) (fun _ hk => hk.2) (.slice Ao47 y141.length co47)) (fun _ hk => hk.2) (.slice Ao49 y147.length co49)) (fun _ hk => hk.1.1)⟩, ⟨bk BK110⟩, ⟨by refine blk_put (cs := #[.slice Ao45 y135.length co45, .slice Ao47 y141.length co47, .slice Ao29 x118002_1.length co29]) ?_ 2 _ rfl; refine blk_put (cs := #[.slice Ao45 y135.length co45, .slice Ao28 x118001_1.length co28, .slice Ao29 x118002_1.length co29]) ?_ 1 _ rfl; refine blk_put (cs := #[.slice Ao27 x118000_1.length co27, .slice Ao28 x118001_1.length co28, .slice Ao29 x118002_1.length co29]) ?_ 0 _ rfl; exact bk BK117⟩, ⟨bw HB⟩⟩
def impl_RowAfter.f (k : Nat) (l0 : List (S30)) (l1 : List Int) : Option ((List (S30)) × Bool) := (impl_IsRow.f l0).bind fun t150 => (if t150 = true then ((impl_AreFlows.f l1).bind fun t151 => (if t151 = true then ((impl_runRow.f k l0 l1).bind fun bt152 => (if 0 ≤ (l1.length : Int) then (if (l1.length : Int) < (bt152.1.length : Int) then (some (rd_L3 bt152.1 (l1.length : Int), true)) else (none)) else (none))) else (some (([] : List (S30)), false)))) else (some (([] : List (S30)), false)))
set_option maxHeartbeats 8000000 in
set_option maxRecDepth 100000 in
theorem impl_RowAfter.calls (k : Nat) (A0 : Option Addr) (c0 : Nat) (l0 : List (S30)) (A1 : Option Addr) (c1 : Nat) (l1 : List Int) (r1 : List (S30)) (r2 : Bool) (w : World) (hr0 : Kd.C k30 w A0 l0.length l0) (hc0 : l0.length ≤ c0) (hr1 : Kd.C (Kd.int .i64) w A1 l1.length l1) (hc1 : l1.length ≤ c1) (h : impl_RowAfter.f k l0 l1 = some (r1, r2)) :
  Calls Try.prog 13 #[.slice A0 l0.length c0, .slice A1 l1.length c1] w fun e w' => ∃ v0_ : Value, e = .returned (.tuple #[v0_, .bool r2]) ∧ Kd.V k30 30 w' w.heap.size (fun k_ => (w.heap.size ≤ k_)) v0_ r1 ∧ Below w.heap.size w w' := by
 have hfd71_0 : ∀ (x0 x1 x2 : Value) (W : World), (Instr.field 71 (.agg #[x0, x1, x2]) 0).run Try.prog W = .ok (x0) W := fun x0 x1 x2 W => by rfl
 have HR0 := Aside0.mk hr0
 have HC0 := Aside0.mk hc0
 clear hr0 hc0
 have HR1 := Aside0.mk hr1
 have HC1 := Aside0.mk hc1
 clear hr1 hc1
 have HB := Aside0.mk (Below.refl w.heap.size w)
 have H : ((impl_IsRow.f l0).bind fun t150 => (if t150 = true then ((impl_AreFlows.f l1).bind fun t151 => (if t151 = true then ((impl_runRow.f k l0 l1).bind fun bt152 => (if 0 ≤ (l1.length : Int) then (if (l1.length : Int) < (bt152.1.length : Int) then (some (rd_L3 bt152.1 (l1.length : Int), true)) else (none)) else (none))) else (some (([] : List (S30)), false)))) else (some (([] : List (S30)), false)))) = some (r1, r2) := h
 clear h
 replace H := Option.bind_eq_some_iff.mp H
 obtain ⟨t150, A30, H⟩ := H
 (try dsimp only at H)
 have A3 := Aside0.mk A30
 clear A30
 by_cases c4 : t150 = true
 rotate_left
 ·replace c4 := Bool.eq_false_iff.mpr c4
  subst c4
  have H1 : (some (([] : List (S30)), false)) = some (r1, r2) := by rw [if_neg (show ¬ (false = true) by decide)] at H; exact H
  clear H
  have H := H1
  clear H1
  simp only [Option.some.injEq, Prod.mk.injEq] at H
  obtain ⟨rfl, rfl⟩ := H
  go_enter Try.func13, Try.ntmps13
  go_wp2_with (first | ((with_reducible refine gate_callee (f := 11) rfl ?_); refine gl 7 Try.func11 #[.slice A0 l0.length c0] ?_; (with_reducible refine (impl_IsRow.calls _ _ l0 false _ ?side1 ?side2 A3.out).mono ?_); (case side1 => repeat (first | exact HR0.out | (with_reducible refine Kd.C_alloc ?_ _) | (with_reducible refine Kd.C_drewN ?_ _) | (with_reducible refine Kd.C_drew ?_))); (case side2 => exact HC0.out); rintro e w16 ⟨rfl, hb⟩; refine ⟨_, rfl, ?_⟩; replace HB := bs HB hb; (try clear hb)))
  go_ret2
  exact ⟨_, by first | rfl | (simp [errW_none, errW_some] <;> rfl) | (simp [*, errW_none, errW_some] <;> rfl), Kd.V_nil _ _ _ _ _, bw HB⟩
 subst c4
 have H1 : ((impl_AreFlows.f l1).bind fun t151 => (if t151 = true then ((impl_runRow.f k l0 l1).bind fun bt152 => (if 0 ≤ (l1.length : Int) then (if (l1.length : Int) < (bt152.1.length : Int) then (some (rd_L3 bt152.1 (l1.length : Int), true)) else (none)) else (none))) else (some (([] : List (S30)), false)))) = some (r1, r2) := by rw [if_pos rfl] at H; exact H
 clear H
 have H := H1
 clear H1
 replace H := Option.bind_eq_some_iff.mp H
 obtain ⟨t151, A50, H⟩ := H
 (try dsimp only at H)
 have A5 := Aside0.mk A50
 clear A50
 by_cases c6 : t151 = true
 rotate_left
 ·replace c6 := Bool.eq_false_iff.mpr c6
  subst c6
  have H1 : (some (([] : List (S30)), false)) = some (r1, r2) := by rw [if_neg (show ¬ (false = true) by decide)] at H; exact H
  clear H
  have H := H1
  clear H1
  simp only [Option.some.injEq, Prod.mk.injEq] at H
  obtain ⟨rfl, rfl⟩ := H
  go_enter Try.func13, Try.ntmps13
  go_wp2_with (first | ((with_reducible refine gate_callee (f := 11) rfl ?_); refine gl 7 Try.func11 #[.slice A0 l0.length c0] ?_; (with_reducible refine (impl_IsRow.calls _ _ l0 true _ ?side1 ?side2 A3.out).mono ?_); (case side1 => repeat (first | exact HR0.out | (with_reducible refine Kd.C_alloc ?_ _) | (with_reducible refine Kd.C_drewN ?_ _) | (with_reducible refine Kd.C_drew ?_))); (case side2 => exact HC0.out); rintro e w14 ⟨rfl, hb⟩; refine ⟨_, rfl, ?_⟩; replace HB := bs HB hb; (try clear hb)) | (go_at_call 39; (with_reducible refine (impl_AreFlows.calls _ _ l1 false _ ?side1 ?side2 A5.out).mono ?_); (case side1 => exact ck HR1 HB); (case side2 => exact HC1.out); rintro e w15 ⟨rfl, hb⟩; replace HB := bs HB hb; (try clear hb)))
  go_ret2
  exact ⟨_, by first | rfl | (simp [errW_none, errW_some] <;> rfl) | (simp [*, errW_none, errW_some] <;> rfl), Kd.V_nil _ _ _ _ _, bw HB⟩
 subst c6
 have H1 : ((impl_runRow.f k l0 l1).bind fun bt152 => (if 0 ≤ (l1.length : Int) then (if (l1.length : Int) < (bt152.1.length : Int) then (some (rd_L3 bt152.1 (l1.length : Int), true)) else (none)) else (none))) = some (r1, r2) := by rw [if_pos rfl] at H; exact H
 clear H
 have H := H1
 clear H1
 replace H := Option.bind_eq_some_iff.mp H
 obtain ⟨⟨t152, t155, t158⟩, A70, H⟩ := H
 (try dsimp only at H)
 have A7 := Aside0.mk A70
 clear A70
 by_cases c8 : 0 ≤ (l1.length : Int)
 rotate_left
 ·rw [if_neg c8] at H
  exact absurd H (by simp)
 rw [if_pos c8] at H
 have c8b0 : decide (0 ≤ (l1.length : Int)) = true := decide_eq_true c8
 have c8b1 : decide (0 ≤ l1.length) = true := decide_eq_true (by omega)
 clear c8
 by_cases c9 : (l1.length : Int) < (t152.length : Int)
 rotate_left
 ·rw [if_neg c9] at H
  exact absurd H (by simp)
 rw [if_pos c9] at H
 have c9b0 : decide ((l1.length : Int) < (t152.length : Int)) = true := decide_eq_true c9
 have c9b1 : decide (l1.length < t152.length) = true := decide_eq_true (Int.ofNat_lt.mp c9)
 clear c9
 simp only [Option.some.injEq, Prod.mk.injEq] at H
 obtain ⟨rfl, rfl⟩ := H
 go_enter Try.func13, Try.ntmps13
 go_wp2_with (first | ((with_reducible refine gate_callee (f := 11) rfl ?_); refine gl 7 Try.func11 #[.slice A0 l0.length c0] ?_; (with_reducible refine (impl_IsRow.calls _ _ l0 true _ ?side1 ?side2 A3.out).mono ?_); (case side1 => repeat (first | exact HR0.out | (with_reducible refine Kd.C_alloc ?_ _) | (with_reducible refine Kd.C_drewN ?_ _) | (with_reducible refine Kd.C_drew ?_))); (case side2 => exact HC0.out); rintro e w10 ⟨rfl, hb⟩; refine ⟨_, rfl, ?_⟩; replace HB := bs HB hb; (try clear hb)) | (go_at_call 39; (with_reducible refine (impl_AreFlows.calls _ _ l1 true _ ?side1 ?side2 A5.out).mono ?_); (case side1 => exact ck HR1 HB); (case side2 => exact HC1.out); rintro e w11 ⟨rfl, hb⟩; replace HB := bs HB hb; (try clear hb)) | ((with_reducible refine gate_callee (f := 58) rfl ?_); refine gl 16 Try.func58 #[.slice A0 l0.length c0, .slice A1 l1.length c1] ?_; (with_reducible refine (impl_runRow.calls k _ _ l0 _ _ l1 t152 t155 t158 _ ?side1 ?side2 ?side3 ?side4 A7.out).mono ?_); (case side1 => exact ck HR0 HB); (case side2 => exact HC0.out); (case side3 => exact ck HR1 HB); (case side4 => exact HC1.out); rintro e w12 ⟨v153, v156, v159, rfl, ho0, ho1, ho2, hb⟩; refine ⟨_, rfl, ?_⟩; have HO154 := Aside0.mk (Kd.N_lower (Kd.N_mono (ok' := fun k_ => (w.heap.size ≤ k_) ∧ some k_ ≠ (v156 : Value).ownBlock ∧ some k_ ≠ (v159 : Value).ownBlock) ho0 (fun k_ hk_ => ⟨(Nat.le_trans (below_size (bw HB)) hk_.1), hk_.2.1, hk_.2.2⟩)) (below_size (bw HB))); have HO157 := Aside0.mk (Kd.N_lower (Kd.N_mono (ok' := fun k_ => (w.heap.size ≤ k_) ∧ some k_ ≠ (v153 : Value).ownBlock ∧ some k_ ≠ (v159 : Value).ownBlock) ho1 (fun k_ hk_ => ⟨(Nat.le_trans (below_size (bw HB)) hk_.1), hk_.2.1, hk_.2.2⟩)) (below_size (bw HB))); have HO160 := Aside0.mk (Kd.R_lower (Kd.R_newM (M := fun k_ => (w.heap.size ≤ k_)) (Kd.R_mono (ok' := fun k_ => True) ho2 (fun _ hk_ => trivial)) (below_size (bw HB)) (fun k_ h_ => h_)) (below_size (bw HB))); replace HB := bs HB hb; (try clear hb); (try clear ho0); (try clear ho1); (try clear ho2); obtain ⟨Ao13, co13, eo13⟩ := Kd.N_slice HO154.out; subst eo13; have p161 : 0 ≤ ((l1.length : Int) : Int) := of_decide_eq_true ‹_›; have q161 : (l1.length : Int) < (t152.length : Int) := of_decide_eq_true ‹_›; obtain ⟨ad161, A161_0, c161_0, e161, hx161_0, hl161_0, hi161_0⟩ := at_L3 (Kd.N_reads' HO154.out).2.2 (l1.length : Int) p161 q161; cases e161; obtain ⟨ce161, hce161, hMe161, hcc161⟩ := Kd.N_get HO154.out [] (l1.length : Int) p161 (by first | exact q161 | exact of_decide_eq_true ‹_› | (have e_ := (Kd.N_reads' HO154.out).1; omega)); obtain ⟨ua161_0, uc161_0, rfl, ul161_0, ge161_0⟩ := Kd.FK_slice_open hMe161; have hv161_0 := hcc161 0 _ rfl; rw [Nat.add_zero, show ((Kd.slice 30 k30)).sz = 1 from rfl, Nat.mul_one] at hv161_0; replace hv161_0 := Option.some.inj (hv161_0.symm.trans hx161_0); injection hv161_0 with hva_ hvn_ hvc_; rw [hva_] at ge161_0; rw [hvc_] at ul161_0; have HL161_0 := Aside0.mk (show Kd.V k30 30 _ w.heap.size _ _ (rd_L3 t152 (l1.length : Int)) from Kd.V_mk ul161_0 ge161_0); clear hva_ hvn_ hvc_ ge161_0 ul161_0; clear hcc161 hce161; have HR161_0 := Aside0.mk hi161_0; have HC161_0 := Aside0.mk hl161_0; clear hi161_0 hl161_0; (try simp only [Go.IntWalk.toNatUp] at hx161_0); replace p161 := eq_true p161; replace q161 := eq_true q161))
 go_ret2
 exact ⟨_, by first | rfl | (simp [errW_none, errW_some] <;> rfl) | (simp [*, errW_none, errW_some] <;> rfl), by exact Kd.V_mono HL161_0.out (fun _ hk => hk.1.1), bw HB⟩
end Go.Proofs.Ytflbcikfphfkdaa.R
