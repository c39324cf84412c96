/- Cuts and loops over great frames: the slots that are forgotten stand behind one function, not behind as many quantifiers. -/
import Derived.Deep.DeepCutAuto
import Derived.Deep.LoopGhost
import Derived.KernelRfl
namespace Go.Proofs.Ytflbcikfphfkdaa.Sq
open Go
/-- The n-th slot of a list. -/
@[simp] def nth : List Value → Nat → Value
  | [], _ => undef
  | x :: _, 0 => x
  | _ :: l, n + 1 => nth l n
theorem nth_drop : ∀ (us : List Value) (n : Nat), (us.drop n).headD undef = nth us n
  | [], n => by simp
  | x :: l, 0 => by simp
  | x :: l, n + 1 => by simpa using nth_drop l n
/-- Runs of marks, by turns. -/
def rl : List Nat → Bool → List Bool
  | [], _ => []
  | n :: ns, b => List.replicate n b ++ rl ns (!b)
/-- The frame l in which the marked slots hold what us holds there. -/
def fg : List Bool → List Value → List Value → List Value
  | true :: bs, us, _ :: l => us.headD undef :: fg bs us.tail l
  | false :: bs, us, x :: l => x :: fg bs us.tail l
  | [], _, l => l
  | _ :: _, _, [] => []
/-- The same, what the marked slots hold given by their numbers. -/
def fu : List Bool → List Value → (Nat → Value) → Nat → List Value
  | true :: bs, _ :: l, u, n => u n :: fu bs l u (n + 1)
  | false :: bs, x :: l, u, n => x :: fu bs l u (n + 1)
  | [], l, _, _ => l
  | _ :: _, [], _, _ => []
theorem fg_fu : ∀ (bs : List Bool) (l us : List Value) (n : Nat) (vs : List Value), vs = us.drop n → fg bs vs l = fu bs l (nth us) n
  | [], l, us, n, vs, h => by cases l <;> simp [fg, fu]
  | b :: bs, [], us, n, vs, h => by simp [fg, fu]
  | true :: bs, x :: l, us, n, vs, h => by
    have e : vs.headD undef = nth us n := by subst h; exact nth_drop us n
    have e2 : vs.tail = us.drop (n + 1) := by subst h; simp [List.tail_drop]
    simp only [fg, fu, e, fg_fu bs l us (n + 1) vs.tail e2]
  | false :: bs, x :: l, us, n, vs, h => by
    have e2 : vs.tail = us.drop (n + 1) := by subst h; simp [List.tail_drop]
    simp only [fg, fu, fg_fu bs l us (n + 1) vs.tail e2]
theorem fg_self : ∀ (bs : List Bool) (l : List Value), fg bs l l = l
  | [], l => by simp [fg]
  | _ :: _, [] => by simp [fg]
  | true :: bs, x :: l => by simp only [fg, List.headD_cons, List.tail_cons, fg_self bs l]
  | false :: bs, x :: l => by simp only [fg, List.tail_cons, fg_self bs l]
/-- All slots but the marked ones are as in l; of the marked ones and the world R holds. -/
def Cut (bs : List Bool) (l : List Value) (ds : List Deferred) (R : (Nat → Value) → World → Prop) (a : Act) (w : World) : Prop := ∃ us : List Value, a = ⟨(fg bs us l).toArray, ds⟩ ∧ R (nth us) w
theorem Cut_mk {bs : List Bool} {l : List Value} {ds : List Deferred} {R : (Nat → Value) → World → Prop} {c : List Value} {w : World} (h : fg bs c l = c) (r : R (nth c) w) : Cut bs l ds R ⟨c.toArray, ds⟩ w := ⟨c, by rw [h], r⟩
def LoopI (bs : List Bool) (l : List Value) (ds : List Deferred) (R : Nat → (Nat → Value) → World → Prop) (n : Nat) (a : Act) (w : World) : Prop := ∃ us : List Value, a = ⟨(fg bs us l).toArray, ds⟩ ∧ R n (nth us) w
theorem LoopI_mk {bs : List Bool} {l : List Value} {ds : List Deferred} {R : Nat → (Nat → Value) → World → Prop} {n : Nat} {c : List Value} {w : World} (h : fg bs c l = c) (r : R n (nth c) w) : LoopI bs l ds R n ⟨c.toArray, ds⟩ w := ⟨c, by rw [h], r⟩
section
variable {P : Program} {s c : Code} {K : Act → World → Prop} {Q' Q : Exit → Act → World → Prop} {l : List Value} {ds : List Deferred} {w : World}
theorem cutF (bs : List Bool) (R : (Nat → Value) → World → Prop)
    (first : ∀ (J K' : Act → World → Prop), (∀ a' w', Cut bs l ds R a' w' → J a' w') → (∀ a' w', Met J a' w' → K' a' w') → s.wp P (Exit.then K' Q') ⟨l.toArray, ds⟩ w)
    (rest : ∀ (u : Nat → Value) (w' : World), R u w' → ∀ l', fu bs l u 0 = l' → K ⟨l'.toArray, ds⟩ w') : s.wp P (Exit.then K Q') ⟨l.toArray, ds⟩ w := by
  refine wp_cut (Cut bs l ds R) ?_ first
  rintro a' w' ⟨us, rfl, h⟩
  rw [fg_fu bs l us 0 us (by simp)]
  exact rest _ _ h _ rfl
theorem loopF (bs : List Bool) (n₀ : Nat) (R : Nat → (Nat → Value) → World → Prop) (start : R n₀ (nth l) w)
    (round : ∀ (gk : Nat) (u : Nat → Value) (wr : World), R gk u wr → ∀ l', fu bs l u 0 = l' → ∀ (J : Nat → Act → World → Prop) (K : Act → World → Prop), (∀ k a' w', LoopI bs l ds R k a' w' → J k a' w') → (∀ a' w', Handed J gk a' w' → K a' w') → c.wp P (Exit.then K Q) ⟨l'.toArray, ds⟩ wr) :
    (Code.loop c).wp P Q ⟨l.toArray, ds⟩ w := by
  refine wp_loop_ghost_k (LoopI bs l ds R) n₀ ⟨l, by rw [fg_self], start⟩ ?_
  rintro n a w' ⟨us, rfl, h⟩
  rw [fg_fu bs l us 0 us (by simp)]
  exact round n _ _ h _ rfl
end
end Go.Proofs.Ytflbcikfphfkdaa.Sq
