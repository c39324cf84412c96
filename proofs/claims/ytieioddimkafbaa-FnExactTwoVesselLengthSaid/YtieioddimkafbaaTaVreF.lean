/- impl.find: as a plain function, and that the calls come to it. -/
import Derived.Test.YtieioddimkafbaaTaVreQ
import Derived.Test.YtieioddimkafbaaTaVx
namespace Go.Proofs.Ytieioddimkafbaa.V
open Go.RowKit Go.Proofs.YtieioddimkafbaaW.PrintWords Go.Proofs.YtieioddimkafbaaW.PrintLast Go.Proofs.YtieioddimkafbaaW.PrintMore Go.Proofs.Ytieioddimkafbaa.Sq Go.Proofs.Ytieioddimkafbaa.Sep
attribute [local go_sem] max2_int min2_int max_two min_two max_three min_three max_four min_four
set_option linter.unusedVariables false
set_option linter.unusedSimpArgs false
/-- What a call of find gives, row by row. -/
def FiP (F0 : Nat → Prop) (w w' : World) (mb : Nat) (O : Obj) (v0 : Value) (mv : Option Nat) (v2 v3 v4 : Value) (r1 : List S35) (r2 : List (Gv.K5 × Int)) (r3 r4 : List Int) (r5 : List S55) (r7 : Bool) : Prop :=
  (r7 = true → ReM w.heap.size w' mv r2 mb O) ∧
  Kd.N k35 35 w' w.heap.size (fun k_ => (F0 k_ ∨ w.heap.size ≤ k_) ∧ some k_ ≠ (v2 : Value).ownBlock ∧ some k_ ≠ (v3 : Value).ownBlock ∧ some k_ ≠ (v4 : Value).ownBlock ∧ (r7 = true → k_ ≠ mb)) v0 r1 ∧
  Kd.R (Kd.int .i64) 3 w' w.heap.size (fun k_ => (F0 k_ ∨ w.heap.size ≤ k_) ∧ some k_ ≠ (v3 : Value).ownBlock) v2 r3 ∧
  Kd.R (Kd.int .i64) 3 w' w.heap.size (fun k_ => (F0 k_ ∨ w.heap.size ≤ k_) ∧ some k_ ≠ (v2 : Value).ownBlock) v3 r4 ∧
  Kd.R k55 55 w' w.heap.size (fun k_ => (F0 k_ ∨ w.heap.size ≤ k_)) v4 r5 ∧ Below w.heap.size w w'
theorem FiP.of {F0 : Nat → Prop} {w w' : World} {b mb : Nat} {v0 v2 v3 v4 : Value} {r1 : List S35} {r2 : List (Gv.K5 × Int)} {r3 r4 : List Int} {r5 : List S55} (hle : w.heap.size ≤ b) (hmb : b ≤ mb) (hS : Sep (fun k => F0 k ∨ w.heap.size ≤ k) w' (reR b mb v0 v2 v3 v4 r1 r2 r3 r4 r5 true)) (hb : Below w.heap.size w w') : ∃ O, FiP F0 w w' mb O v0 (some mb) v2 v3 v4 r1 r2 r3 r4 r5 true := by
 have hn : ∀ i j : Nat, ∀ c, j ≠ i → (reR b mb v0 v2 v3 v4 r1 r2 r3 r4 r5 true)[j]? = some c → ∀ k, okOf (reR b mb v0 v2 v3 v4 r1 r2 r3 r4 r5 true) i k → some k ≠ c.own := fun i j c hj hc k hk => hk j c hj hc
 obtain ⟨O, e1, e2⟩ := mapO_of (hS.get 1 rfl : Gv.MapIs Gv.ev5 90 3 w' mb r2 ∧ _).1
 refine ⟨O, fun _ => ⟨rfl, Nat.le_trans hle hmb, e1, e2⟩, Kd.N_lower (Kd.N_mono (hS.get 0 rfl : Kd.N k35 35 w' b _ v0 r1) (fun k hk => ⟨hk.1, hn 0 2 _ (by decide) rfl k hk.2, hn 0 3 _ (by decide) rfl k hk.2, hn 0 4 _ (by decide) rfl k hk.2, fun _ e => hn 0 1 _ (by decide) rfl k hk.2 (by rw [e]; rfl)⟩)) hle, ?_, ?_, ?_, hb⟩
 · exact Kd.R_lower (Kd.R_mono (hS.get 2 rfl : Kd.R (Kd.int .i64) 3 w' b _ v2 r3) (fun k hk => ⟨hk.1, hn 2 3 _ (by decide) rfl k hk.2⟩)) hle
 · exact Kd.R_lower (Kd.R_mono (hS.get 3 rfl : Kd.R (Kd.int .i64) 3 w' b _ v3 r4) (fun k hk => ⟨hk.1, hn 3 2 _ (by decide) rfl k hk.2⟩)) hle
 · exact Kd.R_lower (Kd.R_mono (hS.get 4 rfl : Kd.R k55 55 w' b _ v4 r5) (fun k hk => hk.1)) hle
end Go.Proofs.Ytieioddimkafbaa.V
