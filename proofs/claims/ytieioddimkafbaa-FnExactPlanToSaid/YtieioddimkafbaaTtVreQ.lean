/- What a call of reachOf gives, told row by row. -/
import Derived.Test.YtieioddimkafbaaTtVplQ
import Derived.Test.YtieioddimkafbaaTtVreR
namespace Go.Proofs.Ytieioddimkafbaa.V
open Go.RowKit Go.Maps Go.Proofs.YtieioddimkafbaaW.PrintWords Go.Proofs.YtieioddimkafbaaW.PrintLast Go.Proofs.YtieioddimkafbaaW.PrintMore Go.Proofs.Ytieioddimkafbaa.Sq Go.Proofs.Ytieioddimkafbaa.Sep
attribute [local go_sem] max2_int min2_int max_two min_two max_three min_three max_four min_four
set_option linter.unusedVariables false
set_option linter.unusedSimpArgs false
/-- The object is a map that reads as the pairs, in whatever world and block. -/
def MapO (m : List (Gv.K5 × Int)) (O : Obj) : Prop := ∀ (w : World) (b : Nat), w.heap[b]? = some O → Gv.MapIs Gv.ev5 90 3 w b m
theorem mapO_of {w : World} {b : Nat} {m : List (Gv.K5 × Int)} (h : Gv.MapIs Gv.ev5 90 3 w b m) : ∃ O, w.heap[b]? = some O ∧ MapO m O := by
  obtain ⟨n, D, hn, ⟨es, cl, he, hr⟩, hM, hx⟩ := h
  exact ⟨_, he, fun w' b' hb' => ⟨n, D, hn, ⟨es, cl, hb', hr⟩, hM, hx⟩⟩
/-- The map behind the value: its block, the object that stands there. -/
def ReM (base : Nat) (w : World) (mv : Option Nat) (m : List (Gv.K5 × Int)) (mb : Nat) (O : Obj) : Prop := mv = some mb ∧ base ≤ mb ∧ w.heap[mb]? = some O ∧ MapO m O
end Go.Proofs.Ytieioddimkafbaa.V
