/- What a call of reachOf gives, told row by row. -/
import Derived.Test.YtieioddimkafbaaTbVplQ
import Derived.Test.YtieioddimkafbaaTbVreR
namespace Go.Proofs.Ytieioddimkafbaa.V
open Go.RowKit Go.Maps Go.Proofs.YtieioddimkafbaaW.PrintWords Go.Proofs.YtieioddimkafbaaW.PrintLast Go.Proofs.YtieioddimkafbaaW.PrintMore Go.Proofs.Ytieioddimkafbaa.Sq Go.Proofs.Ytieioddimkafbaa.Sep
attribute [local go_sem] max2_int min2_int max_two min_two max_three min_three max_four min_four
set_option linter.unusedVariables false
set_option linter.unusedSimpArgs false
/-- The object is a map that reads as the pairs, in whatever world and block. -/
def MapO (m : List (Gv.K5 × Int)) (O : Obj) : Prop := ∀ (w : World) (b : Nat), w.heap[b]? = some O → Gv.MapIs Gv.ev5 90 3 w b m
theorem mapO_of {w : World} {b : Nat} {m : List (Gv.K5 × Int)} (h : Gv.MapIs Gv.ev5 90 3 w b m) : ∃ O, w.heap[b]? = some O ∧ MapO m O := by
  obtain ⟨n, D, hn, ⟨es, cl, he, hr⟩, hM, hx⟩ := h
  exact ⟨_, he, fun w' b' hb' => ⟨n, D, hn, ⟨es, cl, hb', hr⟩, hM, hx⟩⟩
/-- The map behind the value: its block, the object that stands there. -/
def ReM (base : Nat) (w : World) (mv : Option Nat) (m : List (Gv.K5 × Int)) (mb : Nat) (O : Obj) : Prop := mv = some mb ∧ base ≤ mb ∧ w.heap[mb]? = some O ∧ MapO m O
theorem impl_reachOf.callsP (k : Nat) (F0 : Nat → Prop) (A0 : Option Addr) (c0 : Nat) (l0 : List Int) (A1 : Option Addr) (c1 : Nat) (l1 : List Int) (a1 : Bool) (most : Int) (r1 : List S35) (r2 : List (Gv.K5 × Int)) (r3 r4 : List Int) (r5 : List S55) (r6 : Bool) (w : World) (hr : Foot (fun w => Kd.C (Kd.int .i64) w A0 l0.length l0 ∧ Kd.C (Kd.int .i64) w A1 l1.length l1) w F0) (hc0 : l0.length ≤ c0) (hc1 : l1.length ≤ c1) (h : impl_reachOf.f k l0 l1 a1 most = some (r1, r2, r3, r4, r5, r6)) :
  Calls Try.prog 45 #[.agg #[.slice A0 l0.length c0, .slice A1 l1.length c1], .bool a1, .int .i64 most] w fun e w' => ∃ (mb : Nat) (O : Obj) (v0 : Value) (mv : Option Nat) (v2 v3 v4 : Value), e = .returned (.tuple #[.agg #[v0, .map mv, v2, v3, v4], .bool r6]) ∧ (r6 = true → ReM w.heap.size w' mv r2 mb O) ∧
    Kd.N k35 35 w' w.heap.size (fun k_ => (F0 k_ ∨ w.heap.size ≤ k_) ∧ some k_ ≠ (v2 : Value).ownBlock ∧ some k_ ≠ (v3 : Value).ownBlock ∧ some k_ ≠ (v4 : Value).ownBlock ∧ (r6 = true → k_ ≠ mb)) v0 r1 ∧
    Kd.R (Kd.int .i64) 3 w' w.heap.size (fun k_ => (F0 k_ ∨ w.heap.size ≤ k_) ∧ some k_ ≠ (v3 : Value).ownBlock) v2 r3 ∧
    Kd.R (Kd.int .i64) 3 w' w.heap.size (fun k_ => (F0 k_ ∨ w.heap.size ≤ k_) ∧ some k_ ≠ (v2 : Value).ownBlock) v3 r4 ∧
    Kd.R k55 55 w' w.heap.size (fun k_ => (F0 k_ ∨ w.heap.size ≤ k_)) v4 r5 ∧ Below w.heap.size w w' := by
  refine (impl_reachOf.calls k F0 A0 c0 l0 A1 c1 l1 a1 most r1 r2 r3 r4 r5 r6 w hr hc0 hc1 h).mono ?_
  rintro e w' ⟨mb, v0, v2, v3, v4, rfl, hmb, hS, hb⟩
  have hn : ∀ i j : Nat, ∀ c, j ≠ i → (reR w.heap.size mb v0 v2 v3 v4 r1 r2 r3 r4 r5 r6)[j]? = some c → ∀ k, okOf (reR w.heap.size mb v0 v2 v3 v4 r1 r2 r3 r4 r5 r6) i k → some k ≠ c.own := fun i j c hj hc k hk => hk j c hj hc
  have hO : ∃ O, r6 = true → w'.heap[mb]? = some O ∧ MapO r2 O := by
    cases r6 with
    | false => exact ⟨.cells #[] 0 (0, 0), fun e => by cases e⟩
    | true =>
      have h1 := (hS.get 1 rfl : Gv.MapIs Gv.ev5 90 3 w' mb r2 ∧ _)
      obtain ⟨O, e1, e2⟩ := mapO_of h1.1
      exact ⟨O, fun _ => ⟨e1, e2⟩⟩
  obtain ⟨O, hO⟩ := hO
  refine ⟨mb, O, v0, bif r6 then some mb else none, v2, v3, v4, by cases r6 <;> rfl, fun e => ⟨by rw [e]; rfl, hmb, (hO e).1, (hO e).2⟩, ?_, ?_, ?_, ?_, hb⟩
  · refine Kd.N_mono (hS.get 0 rfl : Kd.N k35 35 w' w.heap.size _ v0 r1) (fun k hk => ⟨hk.1, hn 0 2 _ (by decide) rfl k hk.2, hn 0 3 _ (by decide) rfl k hk.2, hn 0 4 _ (by decide) rfl k hk.2, fun e e2 => ?_⟩)
    subst e
    exact hn 0 1 _ (by decide) rfl k hk.2 (by rw [e2]; rfl)
  · exact Kd.R_mono (hS.get 2 rfl : Kd.R (Kd.int .i64) 3 w' w.heap.size _ v2 r3) (fun k hk => ⟨hk.1, hn 2 3 _ (by decide) rfl k hk.2⟩)
  · exact Kd.R_mono (hS.get 3 rfl : Kd.R (Kd.int .i64) 3 w' w.heap.size _ v3 r4) (fun k hk => ⟨hk.1, hn 3 2 _ (by decide) rfl k hk.2⟩)
  · exact Kd.R_mono (hS.get 4 rfl : Kd.R k55 55 w' w.heap.size _ v4 r5) (fun k hk => hk.1)
end Go.Proofs.Ytieioddimkafbaa.V
