/- impl.increasing: as a plain function, and that the call comes to it. -/
import Derived.Test.YtieioddimkafbaaTbVx
import Derived.Test.YtieioddimkafbaaTbVsh
import Derived.Sort.OwnSortedInts
namespace Go.Proofs.Ytieioddimkafbaa.V
open Go.RowKit Go.Proofs.YtieioddimkafbaaW.PrintWords Go.Proofs.YtieioddimkafbaaW.PrintLast Go.Proofs.YtieioddimkafbaaW.PrintMore Go.Proofs.Ytieioddimkafbaa.Sq
set_option linter.unusedVariables false
set_option linter.unusedSimpArgs false
def impl_increasing.f (k : Nat) (l : List Int) : Option (List Int) := if 0 < l.length ∧ l.length < 4611686018427387904 then some (Lib.compact (l.mergeSort fun x y => decide (x ≤ y))) else none
set_option maxHeartbeats 8000000 in
set_option maxRecDepth 100000 in
theorem impl_increasing.callsP (k : Nat) {w0 w : World} {ok : Nat → Prop} (v : Value) (l r : List Int) (ho : Kd.R (Kd.int .i64) 3 w w0.heap.size ok v l) (hb : Below w0.heap.size w0 w) (h : impl_increasing.f k l = some r) :
    Calls Try.prog 65 #[v] w fun e w' => ∃ v0 : Value, e = .returned v0 ∧ Kd.R (Kd.int .i64) 3 w' w0.heap.size (fun _ => True) v0 r ∧ Below w0.heap.size w0 w' := by
  unfold impl_increasing.f at h
  by_cases c : 0 < l.length ∧ l.length < 4611686018427387904
  rotate_left
  · rw [if_neg c] at h; cases h
  rw [if_pos c] at h
  obtain rfl := Option.some.inj h
  clear h
  obtain ⟨c0, c1⟩ := c
  have hown := Kd.own_of_R ho
  rcases hown.2 with ⟨_, h0⟩ | ⟨g, cap, cur, rfl, hg, hh, hnc, hcm, hcs, htake⟩
  · omega
  rw [Nat.mul_one] at htake hcs
  have hlt := blk_lt hh
  have hH := Go.holds_of_blockI hh (by simpa [encs] using htake)
  obtain ⟨zs, hzs⟩ : ∃ zs, zs = l.mergeSort fun x y => decide (x ≤ y) := ⟨_, rfl⟩
  have hl : zs.length = l.length := by rw [hzs]; exact List.length_mergeSort l
  rw [← hzs]
  have S1 := Try.slices_Sort_int g 0 cap l w hH hlt (by omega)
  rw [← hzs] at S1
  have S2 : ∀ n os, Calls Try.prog 84 #[.slice (some ⟨g, 0, none⟩) l.length cap] (Go.Sort.grow (Go.Sort.putRow (Value.int .i64) (Go.Sort.ahead w n) g 0 zs.toArray) os) fun e w' => ∃ v0 : Value, e = .returned v0 ∧ Kd.R (Kd.int .i64) 3 w' w0.heap.size (fun _ => True) v0 (Lib.compact zs) ∧ Below w0.heap.size w0 w' := by
    intro n os
    have hw1 := Go.ownsRow_sortedI (w := w) (base := w0.heap.size) (g := g) (cap := cap) (n := n) (e := 3) (os := os) (cur := cur) (ss := l) (ts := zs) hl hg hh hnc hcm (by omega)
    have hb1 := hb.grown (Go.grownBy_sortedI (w := w) (g := g) (n := n) (os := os) zs.toArray) (below_size hb) (fun k hk => by injection hk with hk; omega)
    rcases hw1.2 with ⟨hv, _⟩ | ⟨g', cap', cur', hv, hg', hh', hnc', hcm', hcs', htake'⟩
    · cases hv
    injection hv with hv1 hv2 hv3
    injection hv1 with hv1
    injection hv1 with hv1
    subst hv1 hv3
    rw [Nat.mul_one] at htake' hcs'
    have hH' := Go.holds_of_blockI (ss := zs) hh' (by rw [hl]; exact htake')
    have S := Try.slices_Compact_int g 0 cap zs _ hH' (by omega) (by omega)
    rw [hl] at S
    refine S.mono ?_
    rintro e w' ⟨rfl, q, rfl⟩
    have hcl : (Lib.compact zs).length ≤ zs.length := by
      have : (Lib.compact zs).length ≤ (List.range zs.length).length := by
        unfold Lib.compact Lib.compactUpTo
        rw [List.length_map]; exact List.length_filter_le _ _
      simpa using this
    have hpl : (Lib.compact zs ++ List.replicate (l.length - (Lib.compact zs).length) (0 : Int)).length = l.length := by simp; omega
    have hw2 := Go.ownsRow_sortedI (base := w0.heap.size) (g := g) (cap := cap) (n := q) (e := 3) (os := #[]) (ss := l) (ts := Lib.compact zs ++ List.replicate (l.length - (Lib.compact zs).length) 0) hpl hg hh' hnc hcm (by omega)
    rw [Go.Sort.grow_empty] at hw2
    have hb2 := hb1.grown (Go.grownBy_sortedI (g := g) (n := q) (os := #[]) (Lib.compact zs ++ List.replicate (l.length - (Lib.compact zs).length) (0 : Int)).toArray) (below_size hb1) (fun k hk => by injection hk with hk; omega)
    rw [Go.Sort.grow_empty] at hb2
    refine ⟨_, rfl, ?_, hb2⟩
    refine Kd.R_of_own ?_ (fun _ _ => trivial)
    rcases hw2.2 with ⟨hv, _⟩ | ⟨g2, cap2, cur2, hv, hg2, hh2, hnc2, hcm2, hcs2, htake2⟩
    · cases hv
    injection hv with hv1 hv2 hv3
    injection hv1 with hv1
    injection hv1 with hv1
    subst hv1 hv3
    refine ⟨by simp [encs], .inr ⟨g, cap, cur2, rfl, hg, hh2, by omega, hcm, hcs2, ?_⟩⟩
    rw [Nat.mul_one] at htake2 ⊢
    have := congrArg (List.take (Lib.compact zs).length) htake2
    rw [List.take_take, Nat.min_eq_left (by omega)] at this
    rw [this, List.map_append, List.take_left' (by simp)]
    rfl
  go_enter Try.func65, Try.ntmps65
  go_wp2_with (first | ((with_reducible refine gate_callee (f := 83) rfl ?_); refine gl 4 Try.func83 #[.slice (some ⟨g, 0, none⟩) l.length cap] ?_; (with_reducible refine S1.mono ?_); rintro e w1 ⟨rfl, n, os, hw1⟩; clear S1; subst hw1; generalize hW : Go.Sort.grow (Go.Sort.putRow (Value.int .i64) (Go.Sort.ahead w n) g 0 zs.toArray) os = W1; have S3 := S2 n os; rw [hW] at S3; clear S2 hW; refine ⟨_, rfl, ?_⟩) | ((with_reducible refine gate_callee (f := 84) rfl ?_); refine gl 6 Try.func84 #[.slice (some ⟨g, 0, none⟩) l.length cap] ?_; (with_reducible refine S3.mono ?_); rintro e w' ⟨v0, rfl, h1, h2⟩; refine ⟨_, rfl, ?_⟩))
  go_ret
  exact ⟨_, rfl, h1, h2⟩
end Go.Proofs.Ytieioddimkafbaa.V
