/- spec.plAsked, and what a call of plAll or plAsked gives, told row by row. -/
import Derived.Test.YtieioddimkafbaaTbVplA
namespace Go.Proofs.Ytieioddimkafbaa.V
open Go.RowKit Go.Proofs.YtieioddimkafbaaW.PrintWords Go.Proofs.YtieioddimkafbaaW.PrintLast Go.Proofs.YtieioddimkafbaaW.PrintMore Go.Proofs.Ytieioddimkafbaa.Sq Go.Proofs.Ytieioddimkafbaa.Sep
attribute [local go_sem] max2_int min2_int max_two min_two max_three min_three max_four min_four
set_option linter.unusedVariables false
set_option linter.unusedSimpArgs false
theorem nl' {w W : World} {g g' : Nat} {t : TypeId} {cs : Array Value} (h : Aside0 (w.heap[g]? = some (.cells cs t (0, 0)))) (hg : W.heap.size ≤ g') [u : Ug g w W] : NeC g g' := ⟨Nat.ne_of_lt (Nat.lt_of_lt_of_le (blk_lt (bk (W := W) h)) hg)⟩
theorem nr' {w W : World} {g g' : Nat} {t : TypeId} {cs : Array Value} (h : Aside0 (w.heap[g]? = some (.cells cs t (0, 0)))) (hg : W.heap.size ≤ g') [u : Ug g w W] : NeC g' g := ⟨Nat.ne_of_gt (Nat.lt_of_lt_of_le (blk_lt (bk (W := W) h)) hg)⟩
theorem ge' {w0 w W : World} {g : Nat} (h : Aside0 (Below w0.heap.size w0 w)) (hg : W.heap.size ≤ g) [u : Ub w0.heap.size w W] : GeC w0.heap.size g := ⟨Nat.le_trans (below_size (bw (W := W) h)) hg⟩
theorem leO {w0 w W w1 : World} (h : Aside0 (Below w0.heap.size w0 w)) (hb : Below W.heap.size W w1) [u : Ub w0.heap.size w W] : w0.heap.size ≤ W.heap.size := below_size (bw (W := W) h)
/-- The rows that the pointer leads to. -/
def PlR (F0 : Nat → Prop) (b : Nat) (w : World) (g : Nat) (v0 v1 v2 v3 v4 : Value) (x0 : List S35) (x1 : List Int) (x2 : List S55) (x3 x4 : List Int) : Prop :=
  w.heap[g]? = some (.cells #[v0, v1, v2, v3, v4] 62 (0, 0)) ∧
  Kd.N k35 35 w b (fun k_ => (F0 k_ ∨ b ≤ k_) ∧ some k_ ≠ (v1 : Value).ownBlock ∧ some k_ ≠ (v2 : Value).ownBlock ∧ some k_ ≠ (v3 : Value).ownBlock ∧ some k_ ≠ (v4 : Value).ownBlock ∧ k_ ≠ g) v0 x0 ∧
  Kd.R (Kd.int .i64) 3 w b (fun k_ => (F0 k_ ∨ b ≤ k_) ∧ some k_ ≠ (v3 : Value).ownBlock ∧ some k_ ≠ (v4 : Value).ownBlock) v1 x1 ∧
  Kd.R k55 55 w b (fun k_ => (F0 k_ ∨ b ≤ k_)) v2 x2 ∧
  Kd.R (Kd.int .i64) 3 w b (fun k_ => (F0 k_ ∨ b ≤ k_) ∧ some k_ ≠ (v1 : Value).ownBlock ∧ some k_ ≠ (v4 : Value).ownBlock) v3 x3 ∧
  Kd.R (Kd.int .i64) 3 w b (fun k_ => (F0 k_ ∨ b ≤ k_) ∧ some k_ ≠ (v1 : Value).ownBlock ∧ some k_ ≠ (v3 : Value).ownBlock) v4 x4
theorem PlR.of {F0 : Nat → Prop} {b : Nat} {w : World} {g : Nat} {v0 v1 v2 v3 v4 : Value} {x0 : List S35} {x1 : List Int} {x2 : List S55} {x3 x4 : List Int} (h : Sep (fun k => F0 k ∨ b ≤ k) w (plC b g v0 v1 v2 v3 v4 x0 x1 x2 x3 x4)) : PlR F0 b w g v0 v1 v2 v3 v4 x0 x1 x2 x3 x4 := by
  have hn : ∀ i j : Nat, ∀ c, j ≠ i → (plC b g v0 v1 v2 v3 v4 x0 x1 x2 x3 x4)[j]? = some c → ∀ k, okOf (plC b g v0 v1 v2 v3 v4 x0 x1 x2 x3 x4) i k → some k ≠ c.own := fun i j c hj hc k hk => hk j c hj hc
  have o1 : ∀ i k, 1 ≠ i → okOf (plC b g v0 v1 v2 v3 v4 x0 x1 x2 x3 x4) i k → some k ≠ (v1 : Value).ownBlock := fun i k h1 h2 => hn i 1 _ h1 rfl k h2
  have o2 : ∀ i k, 2 ≠ i → okOf (plC b g v0 v1 v2 v3 v4 x0 x1 x2 x3 x4) i k → some k ≠ (v2 : Value).ownBlock := fun i k h1 h2 => hn i 2 _ h1 rfl k h2
  have o3 : ∀ i k, 3 ≠ i → okOf (plC b g v0 v1 v2 v3 v4 x0 x1 x2 x3 x4) i k → some k ≠ (v3 : Value).ownBlock := fun i k h1 h2 => hn i 3 _ h1 rfl k h2
  have o4 : ∀ i k, 4 ≠ i → okOf (plC b g v0 v1 v2 v3 v4 x0 x1 x2 x3 x4) i k → some k ≠ (v4 : Value).ownBlock := fun i k h1 h2 => hn i 4 _ h1 rfl k h2
  have o5 : ∀ i k, 5 ≠ i → okOf (plC b g v0 v1 v2 v3 v4 x0 x1 x2 x3 x4) i k → k ≠ g := fun i k h1 h2 e => hn i 5 _ h1 rfl k h2 (by rw [e]; rfl)
  refine ⟨?_, ?_, ?_, ?_, ?_, ?_⟩
  · exact ((h.get 5 rfl : w.heap[g]? = some (.cells #[v0, v1, v2, v3, v4] 62 (0, 0)) ∧ _)).1
  · exact Kd.N_mono (h.get 0 rfl : Kd.N k35 35 w b _ v0 x0) (fun k hk => ⟨hk.1, o1 0 k (by decide) hk.2, o2 0 k (by decide) hk.2, o3 0 k (by decide) hk.2, o4 0 k (by decide) hk.2, o5 0 k (by decide) hk.2⟩)
  · exact Kd.R_mono (h.get 1 rfl : Kd.R (Kd.int .i64) 3 w b _ v1 x1) (fun k hk => ⟨hk.1, o3 1 k (by decide) hk.2, o4 1 k (by decide) hk.2⟩)
  · exact Kd.R_mono (h.get 2 rfl : Kd.R k55 55 w b _ v2 x2) (fun k hk => hk.1)
  · exact Kd.R_mono (h.get 3 rfl : Kd.R (Kd.int .i64) 3 w b _ v3 x3) (fun k hk => ⟨hk.1, o1 3 k (by decide) hk.2, o4 3 k (by decide) hk.2⟩)
  · exact Kd.R_mono (h.get 4 rfl : Kd.R (Kd.int .i64) 3 w b _ v4 x4) (fun k hk => ⟨hk.1, o1 4 k (by decide) hk.2, o3 4 k (by decide) hk.2⟩)
theorem spec_plAll.callsP (k : Nat) (F0 : Nat → Prop) (A0 : Option Addr) (c0 : Nat) (l0 : List Int) (A1 : Option Addr) (c1 : Nat) (l1 : List Int) (a1 : Bool) (r1 : List S35) (r2 : List Int) (r3 : List S55) (r4 r5 : List Int) (r6 : Bool) (w : World) (hr : Foot (fun w => Kd.C (Kd.int .i64) w A0 l0.length l0 ∧ Kd.C (Kd.int .i64) w A1 l1.length l1) w F0) (hc0 : l0.length ≤ c0) (hc1 : l1.length ≤ c1) (h : spec_plAll.f k l0 l1 a1 = some (r1, r2, r3, r4, r5, r6)) :
  Calls Try.prog 52 #[.agg #[.slice A0 l0.length c0, .slice A1 l1.length c1], .bool a1] w fun e w' => ∃ p : Value, e = .returned (.tuple #[p, .bool r6]) ∧ (r6 = true → ∃ (g : Nat) (v0 v1 v2 v3 v4 : Value), p = .pointer (some ⟨g, 0, none⟩) ∧ w.heap.size ≤ g ∧ PlR F0 w.heap.size w' g v0 v1 v2 v3 v4 r1 r2 r3 r4 r5) ∧ Below w.heap.size w w' := by
  refine (spec_plAll.calls k F0 A0 c0 l0 A1 c1 l1 a1 r1 r2 r3 r4 r5 r6 w hr hc0 hc1 h).mono ?_
  rintro e w' ⟨g, v0, v1, v2, v3, v4, rfl, hg, hS, hb⟩
  exact ⟨_, rfl, fun _ => ⟨g, v0, v1, v2, v3, v4, rfl, hg, PlR.of hS⟩, hb⟩
def spec_plAsked.f (k : Nat) (l0_0 : List Int) (l0_1 : List Int) (a1 : Bool) : Option ((List (S35)) × List Int × (List (S55)) × List Int × List Int × Bool) := (spec_veGood.f k l0_0 l0_1).bind fun t256 => (if t256 = true then spec_plAll.f k l0_0 l0_1 a1 else (some (([] : List (S35)), ([] : List Int), ([] : List (S55)), ([] : List Int), ([] : List Int), false)))
set_option maxHeartbeats 8000000 in
set_option maxRecDepth 100000 in
theorem spec_plAsked.calls (k : Nat) (F0 : Nat → Prop) (A0_0 : Option Addr) (c0_0 : Nat) (l0_0 : List Int) (A0_1 : Option Addr) (c0_1 : Nat) (l0_1 : List Int) (a1 : Bool) (r1 : List S35) (r2 : List Int) (r3 : List S55) (r4 r5 : List Int) (r6 : Bool) (w : World) (hr : Foot (fun w => Kd.C (Kd.int .i64) w A0_0 l0_0.length l0_0 ∧ Kd.C (Kd.int .i64) w A0_1 l0_1.length l0_1) w F0) (hc0_0 : l0_0.length ≤ c0_0) (hc0_1 : l0_1.length ≤ c0_1) (h : spec_plAsked.f k l0_0 l0_1 a1 = some (r1, r2, r3, r4, r5, r6)) :
  Calls Try.prog 40 #[.agg #[.slice A0_0 l0_0.length c0_0, .slice A0_1 l0_1.length c0_1], .bool a1] w fun e w' => ∃ p : Value, e = .returned (.tuple #[p, .bool r6]) ∧ (r6 = true → ∃ (g : Nat) (v0 v1 v2 v3 v4 : Value), p = .pointer (some ⟨g, 0, none⟩) ∧ w.heap.size ≤ g ∧ PlR F0 w.heap.size w' g v0 v1 v2 v3 v4 r1 r2 r3 r4 r5) ∧ Below w.heap.size w w' := by
 have hu29 := Try.underlying35
 have HR0_0 := Aside0.mk hr.now.1
 have HR0_1 := Aside0.mk hr.now.2
 have HC0_0 := Aside0.mk hc0_0
 have HC0_1 := Aside0.mk hc0_1
 have HF := Aside0.mk hr
 clear hr hc0_0 hc0_1
 have HB := Aside0.mk (Below.refl w.heap.size w)
 unfold spec_plAsked.f at h
 replace h := Option.bind_eq_some_iff.mp h
 obtain ⟨t, A30, H⟩ := h
 have A3 := Aside0.mk A30
 clear A30
 cases t with
 | true =>
  rw [if_pos rfl] at H
  have A4 := Aside0.mk H
  clear H
  go_enter Try.func40, Try.ntmps40
  go_wp2_with (first | ((with_reducible refine gate_dst (N := 2) rfl ?_); refine bx 2 #[.slice A0_0 l0_0.length c0_0, .slice A0_1 l0_1.length c0_1] 35 ?_; intro gb hg w34 hbox hb; have BK := Aside0.mk (hbox); have GW := ge HB hg; replace HB := bs HB hb; clear hb hbox hg; have hcz_0 := bc0 BK; have hcz_1 := bc1 BK; have hfz_0 := blk_frozen BK.out 0; have hfz_1 := blk_frozen BK.out 1) | ((with_reducible refine gate_callee (f := 68) rfl ?_); refine gl 7 Try.func68 #[.agg #[.slice A0_0 l0_0.length c0_0, .slice A0_1 l0_1.length c0_1]] ?_; (with_reducible refine (spec_veGood.calls k _ _ l0_0 _ _ l0_1 true _ ?side1 ?side2 ?side3 ?side4 A3.out).mono ?_); (case side1 => exact Kd.C_below HR0_0.out (bw HB)); (case side2 => exact HC0_0.out); (case side3 => exact Kd.C_below HR0_1.out (bw HB)); (case side4 => exact HC0_1.out); rintro e w36 ⟨rfl, hb⟩; refine ⟨_, rfl, ?_⟩; (try replace hb := Drawn0.below hb); replace BK := bb BK hb; replace HB := bs HB hb; clear hb hcz_0 hcz_1 hfz_0 hfz_1; have hcz_0 := bc0 BK; have hcz_1 := bc1 BK; have hfz_0 := blk_frozen BK.out 0; have hfz_1 := blk_frozen BK.out 1) | ((with_reducible refine gate_callee (f := 52) rfl ?_); refine gl 11 Try.func52 #[.agg #[.slice A0_0 l0_0.length c0_0, .slice A0_1 l0_1.length c0_1], .bool a1] ?_; (with_reducible refine (spec_plAll.callsP k (fun k_ => F0 k_ ∧ k_ < w.heap.size) _ _ l0_0 _ _ l0_1 a1 r1 r2 r3 r4 r5 r6 _ ?side1 ?side2 ?side3 A4.out).mono ?_); (case side1 => exact HF.out.bound.step (fun k hk _ => (bw HB).block k hk.2)); (case side2 => exact HC0_0.out); (case side3 => exact HC0_1.out); rintro e w37 ⟨p_, rfl, hq, hb⟩; refine ⟨_, rfl, ?_⟩; have HQ := Aside0.mk hq; have HS := Aside0.mk (leO HB hb); replace HB := bs HB hb; clear hb hq))
  go_ret2
  refine ⟨_, rfl, fun e => ?_, bw HB⟩
  obtain ⟨g, v0, v1, v2, v3, v4, e1, hg, q1, q2, q3, q4, q5, q6⟩ := HQ.out e
  have up : ∀ k, (F0 k ∧ k < w.heap.size) ∨ _ ≤ k → F0 k ∨ w.heap.size ≤ k := fun k hk => hk.elim (fun h => .inl h.1) (fun h => .inr (Nat.le_trans HS.out h))
  exact ⟨g, v0, v1, v2, v3, v4, e1, Nat.le_trans HS.out hg, q1, Kd.N_lower (Kd.N_mono q2 (fun k hk => ⟨up k hk.1, hk.2⟩)) HS.out, Kd.R_lower (Kd.R_mono q3 (fun k hk => ⟨up k hk.1, hk.2⟩)) HS.out, Kd.R_lower (Kd.R_mono q4 (fun k hk => up k hk)) HS.out, Kd.R_lower (Kd.R_mono q5 (fun k hk => ⟨up k hk.1, hk.2⟩)) HS.out, Kd.R_lower (Kd.R_mono q6 (fun k hk => ⟨up k hk.1, hk.2⟩)) HS.out⟩
 | false =>
  rw [if_neg (by decide)] at H
  simp only [Option.some.injEq, Prod.mk.injEq] at H
  obtain ⟨rfl, rfl, rfl, rfl, rfl, rfl⟩ := H
  go_enter Try.func40, Try.ntmps40
  go_wp2_with (first | ((with_reducible refine gate_dst (N := 2) rfl ?_); refine bx 2 #[.slice A0_0 l0_0.length c0_0, .slice A0_1 l0_1.length c0_1] 35 ?_; intro gb hg w34 hbox hb; have BK := Aside0.mk (hbox); have GW := ge HB hg; replace HB := bs HB hb; clear hb hbox hg; have hcz_0 := bc0 BK; have hcz_1 := bc1 BK; have hfz_0 := blk_frozen BK.out 0; have hfz_1 := blk_frozen BK.out 1) | ((with_reducible refine gate_callee (f := 68) rfl ?_); refine gl 7 Try.func68 #[.agg #[.slice A0_0 l0_0.length c0_0, .slice A0_1 l0_1.length c0_1]] ?_; (with_reducible refine (spec_veGood.calls k _ _ l0_0 _ _ l0_1 false _ ?side1 ?side2 ?side3 ?side4 A3.out).mono ?_); (case side1 => exact Kd.C_below HR0_0.out (bw HB)); (case side2 => exact HC0_0.out); (case side3 => exact Kd.C_below HR0_1.out (bw HB)); (case side4 => exact HC0_1.out); rintro e w36 ⟨rfl, hb⟩; refine ⟨_, rfl, ?_⟩; (try replace hb := Drawn0.below hb); replace HB := bs HB hb; clear hb))
  go_ret2
  exact ⟨_, rfl, (fun e => by cases e), bw HB⟩
end Go.Proofs.Ytieioddimkafbaa.V
