/- A map that a call makes, with elements of type int: what it holds, told as a list of pairs in the order in which the keys came; look-up and store at the operation. -/
import Derived.Test.YtieioddimkafbaaProg
import Derived.Maps.OwnSet
import Derived.Maps.Views
import Derived.DeepKeys4
import Derived.WalkKit
import Derived.Below
import Derived.KernelRfl
import Derived.Test.YtieioddimkafbaaTbWWords
namespace Go.Proofs.Ytieioddimkafbaa.Gv
open Go.RowKit Go.Maps Go.WideShapes Go.Proofs.YtieioddimkafbaaW.PrintWords
set_option linter.unusedVariables false
set_option linter.unusedSimpArgs false
theorem laidOut : laidOutB Try.prog = true := by kernel_rfl
/-- What stands at a key. -/
def lk {κ : Type} [DecidableEq κ] : List (κ × Int) → κ → Option Int
  | [], _ => none
  | (a, v) :: m, x => if a = x then some v else lk m x
theorem lk_snoc_new {κ : Type} [DecidableEq κ] (m : List (κ × Int)) (x y : κ) (v : Int) (h : lk m x = none) : lk (m ++ [(x, v)]) y = if x = y then some v else lk m y := by
  induction m with
  | nil => rfl
  | cons p m ih =>
    obtain ⟨a, c⟩ := p
    simp only [lk] at h
    by_cases e : a = x
    · rw [if_pos e] at h; cases h
    · rw [if_neg e] at h
      simp only [List.cons_append, lk]
      rw [ih h]
      by_cases e2 : a = y
      · rw [if_pos e2, if_pos e2]
        by_cases e3 : x = y
        · exact absurd (e2.trans e3.symm) e
        · rw [if_neg e3]
      · rw [if_neg e2, if_neg e2]
section
variable {κ : Type} [DecidableEq κ] (ev : κ → Value) (k e : TypeId)
/-- Block b is a map that reads as the pairs m. -/
def MapIs (w : World) (b : Nat) (m : List (κ × Int)) : Prop :=
  ∃ (n : Nat) (D : DataW Unit), n ≤ m.length ∧ w.ownsMap Try.prog k (plainElem Try.prog e) b n D ∧ IsMap D ∧
    ∀ x l, keyOf Try.prog k (ev x) = some l → Maps.has D l = (lk m x).isSome ∧ ∀ c, lk m x = some c → D.atKey l (.lit (.int .i64 0)) = .lit (.int .i64 c)
variable {ev k e}
theorem MapIs.made (w : World) : MapIs ev k e (w.alloc (.map #[] 0)) w.heap.size [] :=
  ⟨0, .map [], by simp, World.ownsMap_made _ _ _ _, isMap_empty, fun x l _ => ⟨rfl, fun c hc => by cases hc⟩⟩
theorem MapIs.lt {w : World} {b : Nat} {m : List (κ × Int)} (h : MapIs ev k e w b m) : b < w.heap.size := by
  obtain ⟨n, D, _, ho, _⟩ := h; exact ho.lt
theorem MapIs.grown {w w' : World} {b : Nat} {m : List (κ × Int)} (h : MapIs ev k e w b m) {row : Option Nat} (hg : w.grownBy w' row) (hne : some b ≠ row) : MapIs ev k e w' b m := by
  obtain ⟨n, D, hn, ho, hm, hx⟩ := h; exact ⟨n, D, hn, ho.kept hg hne, hm, hx⟩
theorem MapIs.below {w w' : World} {b : Nat} {m : List (κ × Int)} (h : MapIs ev k e w b m) (hb : Below w.heap.size w w') : MapIs ev k e w' b m := h.grown (grown_of_below hb none) (by simp)
theorem MapIs.drewN {w : World} {b : Nat} {m : List (κ × Int)} (h : MapIs ev k e w b m) (q : Nat) : MapIs ev k e (w.drewN q) b m := h
theorem MapIs.set {w : World} {b : Nat} {m : List (κ × Int)} (h : MapIs ev k e w b m) (p : Addr) (hne : p.block ≠ b) (v : Value) : MapIs ev k e (w.setCell p v) b m :=
  h.grown (row := some p.block) ⟨rfl, rfl, rfl, Nat.le_of_eq (World.size_setCell w p v).symm, fun i _ hi => Below.heap_setCell w p v i (fun e => hi (by rw [e]))⟩ (fun e => hne (by injection e with e; exact e.symm))
end
section
variable {κ : Type} [DecidableEq κ] {ev : κ → Value} {k e : TypeId}
theorem MapIs.ne {w : World} {b g : Nat} {m : List (κ × Int)} {cs : Array Value} {t : TypeId} {z : Nat × Nat} (h : MapIs ev k e w b m) (hb : w.heap[g]? = some (.cells cs t z)) : g ≠ b := by
  rintro rfl
  obtain ⟨n, D, _, ho, _⟩ := h
  obtain ⟨es, nx, he, _⟩ := ho
  rw [hb] at he; cases he
end
theorem below_grown {b : Nat} {w0 w w' : World} (h : Below w0.heap.size w0 w) (hg : w.grownBy w' (some b)) (hb : w0.heap.size ≤ b) : Below w0.heap.size w0 w' :=
  ⟨hg.os.trans h.os, hg.tape.trans h.tape, hg.output.trans h.output, Nat.le_trans h.size hg.size, fun i hi => (hg.block i (Nat.lt_of_lt_of_le hi h.size) (fun e => by injection e with e; omega)).trans (h.block i hi)⟩
end Go.Proofs.Ytieioddimkafbaa.Gv
