/- Short words for the walks: a fact that stood in an earlier world stands in a later one, the steps between found as instances. -/
import Derived.Test.YtflbcikfphfkdaaProg
import Derived.Below
import Derived.WalkKit
import Derived.KernelRfl
import Derived.Test.YtflbcikfphfkdaaQbWWords
import Derived.Test.YtflbcikfphfkdaaQbWLast
import Derived.Test.YtflbcikfphfkdaaQbWMore
import Derived.Test.YtflbcikfphfkdaaQbWTab
namespace Go.Proofs.Ytflbcikfphfkdaa.Sq
open Go.RowKit Go.Proofs.YtflbcikfphfkdaaW.PrintWords Go.Proofs.YtflbcikfphfkdaaW.PrintLast Go.Proofs.YtflbcikfphfkdaaW.PrintMore
set_option linter.unusedVariables false
set_option linter.unusedSimpArgs false
/-- The later world is the earlier one behind draws and new blocks. -/
inductive UpI (w : World) : World → Prop
  | refl : UpI w w
  | drew {W} : UpI w W → UpI w W.drew
  | drewN {W} (n : Nat) : UpI w W → UpI w (W.drewN n)
  | alloc {W} (o : Obj) : UpI w W → UpI w (W.alloc o)
class Up (w W : World) : Prop where out : UpI w W
instance (w : World) : Up w w := ⟨.refl⟩
instance (w W : World) [h : Up w W] : Up w W.drew := ⟨h.out.drew⟩
instance (w W : World) (n : Nat) [h : Up w W] : Up w (W.drewN n) := ⟨h.out.drewN n⟩
instance (w W : World) (o : Obj) [h : Up w W] : Up w (W.alloc o) := ⟨h.out.alloc o⟩
/-- Two blocks that differ; a block that is new. -/
class NeC (a b : Nat) : Prop where out : a ≠ b
class GeC (B g : Nat) : Prop where out : B ≤ g
/-- .. and behind stores into blocks other than g. -/
inductive UgI (g : Nat) (w : World) : World → Prop
  | refl : UgI g w w
  | drew {W} : UgI g w W → UgI g w W.drew
  | drewN {W} (n : Nat) : UgI g w W → UgI g w (W.drewN n)
  | alloc {W} (o : Obj) : UgI g w W → UgI g w (W.alloc o)
  | set {W} (b i : Nat) (s) (v : Value) : g ≠ b → UgI g w W → UgI g w (W.setCell ⟨b, i, s⟩ v)
class Ug (g : Nat) (w W : World) : Prop where out : UgI g w W
instance (g : Nat) (w : World) : Ug g w w := ⟨.refl⟩
instance (g : Nat) (w W : World) [h : Ug g w W] : Ug g w W.drew := ⟨h.out.drew⟩
instance (g : Nat) (w W : World) (n : Nat) [h : Ug g w W] : Ug g w (W.drewN n) := ⟨h.out.drewN n⟩
instance (g : Nat) (w W : World) (o : Obj) [h : Ug g w W] : Ug g w (W.alloc o) := ⟨h.out.alloc o⟩
instance (g : Nat) (w W : World) (b i : Nat) (s) (v : Value) [k : NeC g b] [h : Ug g w W] : Ug g w (W.setCell ⟨b, i, s⟩ v) := ⟨h.out.set b i s v k.out⟩
/-- .. and behind stores into new blocks alone. -/
inductive UbI (B : Nat) (w : World) : World → Prop
  | refl : UbI B w w
  | drew {W} : UbI B w W → UbI B w W.drew
  | drewN {W} (n : Nat) : UbI B w W → UbI B w (W.drewN n)
  | alloc {W} (o : Obj) : UbI B w W → UbI B w (W.alloc o)
  | set {W} (b i : Nat) (v : Value) : B ≤ b → UbI B w W → UbI B w (W.setCell ⟨b, i, none⟩ v)
class Ub (B : Nat) (w W : World) : Prop where out : UbI B w W
instance (B : Nat) (w : World) : Ub B w w := ⟨.refl⟩
instance (B : Nat) (w W : World) [h : Ub B w W] : Ub B w W.drew := ⟨h.out.drew⟩
instance (B : Nat) (w W : World) (n : Nat) [h : Ub B w W] : Ub B w (W.drewN n) := ⟨h.out.drewN n⟩
instance (B : Nat) (w W : World) (o : Obj) [h : Ub B w W] : Ub B w (W.alloc o) := ⟨h.out.alloc o⟩
instance (B : Nat) (w W : World) (b i : Nat) (v : Value) [k : GeC B b] [h : Ub B w W] : Ub B w (W.setCell ⟨b, i, none⟩ v) := ⟨h.out.set b i v k.out⟩
theorem bk {w W : World} {g : Nat} {t : TypeId} {cs : Array Value} (h : Aside0 (w.heap[g]? = some (.cells cs t (0, 0)))) [u : Ug g w W] : W.heap[g]? = some (.cells cs t (0, 0)) := by
  have := u.out
  induction this with
  | refl => exact h.out
  | drew _ ih => exact blk_drew ih
  | drewN n _ ih => exact blk_drewN ih n
  | alloc o _ ih => exact blk_alloc ih o
  | set b i s v hne _ ih => exact blk_far ih hne v
theorem bb {w W w1 : World} {g : Nat} {t : TypeId} {cs : Array Value} (h : Aside0 (w.heap[g]? = some (.cells cs t (0, 0)))) (hb : Below W.heap.size W w1) [u : Ug g w W] : Aside0 (w1.heap[g]? = some (.cells cs t (0, 0))) := ⟨blk_below (bk h) hb⟩
theorem nl {w W : World} {g g' : Nat} {t : TypeId} {cs : Array Value} (h : Aside0 (w.heap[g]? = some (.cells cs t (0, 0)))) (hg : g' = W.heap.size) [u : Ug g w W] : NeC g g' := ⟨by rw [hg]; exact Nat.ne_of_lt (blk_lt (bk (W := W) h))⟩
theorem nr {w W : World} {g g' : Nat} {t : TypeId} {cs : Array Value} (h : Aside0 (w.heap[g]? = some (.cells cs t (0, 0)))) (hg : g' = W.heap.size) [u : Ug g w W] : NeC g' g := ⟨by rw [hg]; exact Nat.ne_of_gt (blk_lt (bk (W := W) h))⟩
theorem rk {α : Type} {k : Kd α} {e : TypeId} {w W : World} {base : Nat} {ok : Nat → Prop} {v : Value} {xs : List α} (h : Aside0 (Kd.R k e w base ok v xs)) [u : Up w W] : Kd.R k e W base ok v xs := by
  have := u.out
  induction this with
  | refl => exact h.out
  | drew _ ih => exact Kd.R_drew ih
  | drewN n _ ih => exact Kd.R_drewN ih n
  | alloc o _ ih => exact Kd.R_alloc ih o
theorem rb {α : Type} {k : Kd α} {e : TypeId} {w W w1 : World} {base : Nat} {ok : Nat → Prop} {v : Value} {xs : List α} (h : Aside0 (Kd.R k e w base ok v xs)) (hb : Below W.heap.size W w1) [u : Up w W] : Aside0 (Kd.R k e w1 base ok v xs) := ⟨Kd.R_below (rk h) hb⟩
theorem cu {α : Type} {k : Kd α} {w W : World} {A : Option Addr} {n : Nat} {xs : List α} (h : Kd.C k w A n xs) [u : Up w W] : Kd.C k W A n xs := by
  have := u.out
  induction this with
  | refl => exact h
  | drew _ ih => exact Kd.C_drew ih
  | drewN n _ ih => exact Kd.C_drewN ih n
  | alloc o _ ih => exact Kd.C_alloc ih o
theorem ck {α : Type} {k : Kd α} {w w1 W : World} {A : Option Addr} {n : Nat} {xs : List α} (h : Aside0 (Kd.C k w A n xs)) (hb : Aside0 (Below w.heap.size w w1)) [u : Up w1 W] : Kd.C k W A n xs := cu (Kd.C_below h.out hb.out)
theorem cr {α : Type} {k : Kd α} {e : TypeId} {w W : World} {base n c : Nat} {A : Option Addr} {ok : Nat → Prop} {xs : List α} (h : Aside0 (Kd.R k e w base ok (.slice A n c) xs)) [u : Up w W] : Kd.C k W A xs.length xs := (Kd.R_reads' (rk (W := W) h)).2.2
theorem bw {w0 w W : World} (h : Aside0 (Below w0.heap.size w0 w)) [u : Ub w0.heap.size w W] : Below w0.heap.size w0 W := by
  have := u.out
  induction this with
  | refl => exact h.out
  | drew _ ih => exact below_drew1 ih
  | drewN n _ ih => exact pw_below_drewN ih n
  | alloc o _ ih => exact below_alloc ih o
  | set b i v hle _ ih => exact below_set ih hle
theorem bs {w0 w W w1 : World} (h : Aside0 (Below w0.heap.size w0 w)) (hb : Below W.heap.size W w1) [u : Ub w0.heap.size w W] : Aside0 (Below w0.heap.size w0 w1) := ⟨below_step (bw h) hb⟩
theorem ge {w0 w W : World} {g : Nat} (h : Aside0 (Below w0.heap.size w0 w)) (hg : g = W.heap.size) [u : Ub w0.heap.size w W] : GeC w0.heap.size g := ⟨by rw [hg]; exact below_size (bw (W := W) h)⟩
theorem lo {α : Type} {k : Kd α} {e : TypeId} {w0 w W w1 : World} {ok : Nat → Prop} {v : Value} {xs : List α} (h : Kd.R k e w1 W.heap.size ok v xs) (hb : Aside0 (Below w0.heap.size w0 w)) [u : Ub w0.heap.size w W] : Aside0 (Kd.R k e w1 w0.heap.size ok v xs) := ⟨Kd.R_lower h (below_size (bw hb))⟩
theorem bc0 {w : World} {g : Nat} {t : TypeId} {x0 : Value} {l : List Value} (h : Aside0 (w.heap[g]? = some (.cells (x0 :: l).toArray t (0, 0)))) : w.cell? ⟨g, 0, none⟩ = some x0 := (blk_cell h.out 0).trans rfl
theorem bc1 {w : World} {g : Nat} {t : TypeId} {x0 x1 : Value} {l : List Value} (h : Aside0 (w.heap[g]? = some (.cells (x0 :: x1 :: l).toArray t (0, 0)))) : w.cell? ⟨g, 1, none⟩ = some x1 := (blk_cell h.out 1).trans rfl
theorem bc2 {w : World} {g : Nat} {t : TypeId} {x0 x1 x2 : Value} {l : List Value} (h : Aside0 (w.heap[g]? = some (.cells (x0 :: x1 :: x2 :: l).toArray t (0, 0)))) : w.cell? ⟨g, 2, none⟩ = some x2 := (blk_cell h.out 2).trans rfl
theorem bc3 {w : World} {g : Nat} {t : TypeId} {x0 x1 x2 x3 : Value} {l : List Value} (h : Aside0 (w.heap[g]? = some (.cells (x0 :: x1 :: x2 :: x3 :: l).toArray t (0, 0)))) : w.cell? ⟨g, 3, none⟩ = some x3 := (blk_cell h.out 3).trans rfl
section
variable {P : Program} {ops : Array Oper} {rest : List Oper} {o : Oper} {a : Act} {Q : Exit → Act → World → Prop}
theorem bx {W : World} (N : Tmp) (cs : Array Value) (t : TypeId)
    (h : ∀ g, g = W.heap.size → ∀ w1, w1.heap[g]? = some (.cells cs t (0, 0)) → Below W.heap.size W w1 → wpList P ops Q rest (a.put o.dst (.pointer (some ⟨g, 0, none⟩))) w1)
    (_hd : o.dst = some N := by rfl) (hgd : o.guard = none := by rfl)
    (hrun : (execOp a.eval o).run P W = .ok (.value (.pointer (some ⟨W.heap.size, 0, none⟩))) (W.alloc (.cells cs t (0, 0))) := by first | (go_simp; done) | (go_simp; rfl)) : wpList P ops Q (o :: rest) a W := box_event hgd _hd hrun h
theorem gl {w : World} (N : Tmp) {f : FuncId} {fn : Func} {ar : Array Operand} {ts : Array TypeId} (hf : P.funcs[f]? = some fn) (args : Array Value)
    (h : Calls P f args w fun e w' => ∃ v, e = .returned v ∧ wpList P ops Q rest (a.put (some N) v) w')
    (hop : o.op = .call { callee := .value (.func f), args := ar, argTypes := ts } := by rfl) (hd : o.dst = some N := by rfl) (hg : o.guard = none := by rfl) (hname : (fn.name == "runtime.NumGoroutine") = false := by kernel_rfl) (hb : fn.body.isSome = true := by rfl)
    (hargs : ar.map a.eval = args := by (try simp only [List.map_toArray, List.map_cons, List.map_nil]); first | done | rfl | (simp only [List.length_drop, List.length_take]; rfl)) : wpList P ops Q (o :: rest) a w :=
  goesL_ (some N) hd hg hf hname hb args hop hargs h
end
/-- The first n bits of a number. -/
def bl (n m : Nat) : Array Bool := ((List.range n).map m.testBit).toArray
section
variable {P : Program} {ops : Array Oper} {Q : Exit → Act → World → Prop} {md : Region.Mode} {S : World → Prop} {ds : List Nat} {T : Bool × List (List Nat × List Nat)} {B : List Nat}
theorem pu (i : Nat) (N : Tmp) {oi : Oper} {v : Value} {fuel : Nat} {l : Array Bool} {a : Act} {w : World} (l' : Array Bool) (hT : rtab md ops = T)
    (hy : ∀ w, (execOp a.eval oi).run P w = .ok (.value v) w) {a' : Act} (ha : a.put (some N) v = a')
    (h : wpAnyLast P md ops Q S ds fuel l' a' w) (hi : ops[i]? = some oi := by rfl) (hN : oi.dst = some N := by rfl) (hc : anyT T l.toList l'.toList i = true := by kernel_rfl)
    (hQ : ∀ c a w, Q (.panic c) (a.put oi.dst v) w → Q (.panic c) a w := by exact fun _ _ _ h => h) (hw : Region.wanted oi (yielded ops a.tmps) = true := by rfl) : wpAnyLast P md ops Q S ds (fuel + 1) l a w :=
  pure_ (N := some N) l' hi hN (any_of hT hc) hQ (Or.inl ⟨hw, hy⟩) ha h
theorem tk (i : Nat) (N : Tmp) {oi : Oper} {v : Value} {fuel : Nat} {l : Array Bool} {a : Act} {w : World} (l' : Array Bool) (hT : rtab md ops = T) (hB : waitsOk T.2 B = true) (hS : S w)
    (hy : ∀ w, S w → (execOp a.eval oi).run P w = .ok (.value v) w) {a' : Act} (ha : a.put (some N) v = a')
    (h : wpAnyLast P md ops Q S ds fuel l' a' w) (hi : ops[i]? = some oi := by rfl) (hN : oi.dst = some N := by rfl) (hc : takeW T B ds l.toList l'.toList i = true := by kernel_rfl)
    (hQ : ∀ c a w, Q (.panic c) (a.put oi.dst v) w → Q (.panic c) a w := by exact fun _ _ _ h => h) (hw : Region.wanted oi (yielded ops a.tmps) = true := by rfl) : wpAnyLast P md ops Q S ds (fuel + 1) l a w :=
  take_ (N := some N) l' hi hN (take_ofW hT hB hc) hQ (Or.inl ⟨hw, hy⟩) hS ha h
theorem on (i : Nat) (N : Tmp) {oi : Oper} {fuel : Nat} {l : Array Bool} {a : Act} {w : World} (l' : Array Bool) (hT : rtab md ops = T)
    (h : ∀ K : Act → World → Prop, Shut (∀ a' w', S w' → (S w' → wpAnyLast P md ops Q S ds fuel l' a' w') → K a' w') → if Region.wanted oi (yielded ops a.tmps) = true then Oper.wp P oi a w K Q else K (a.put (some N) undef) w)
    (hi : ops[i]? = some oi := by rfl) (hN : oi.dst = some N := by rfl) (hc : (readyT T.2 l.toList == [i] && l.toList.set i true == l'.toList) = true := by kernel_rfl) (hd : i ∉ ds := by decide) : wpAnyLast P md ops Q S ds (fuel + 1) l a w :=
  one_ (N := some N) l' hi hN (one_of hT hc) hd h
theorem gs {oi : Oper} {N : Option Tmp} {a : Act} {w : World} {K : Act → World → Prop} {f : FuncId} {fn : Func} {ar : Array Operand} {ts : Array TypeId} (hf : P.funcs[f]? = some fn) (args : Array Value)
    (h : Calls P f args w fun e w' => ∃ v, e = .returned v ∧ K (a.put N v) w')
    (hop : oi.op = .call { callee := .value (.func f), args := ar, argTypes := ts } := by rfl) (hN : oi.dst = N := by rfl) (hname : (fn.name == "runtime.NumGoroutine") = false := by kernel_rfl) (hb : fn.body.isSome = true := by rfl) (hw : Region.wanted oi (yielded ops a.tmps) = true := by rfl)
    (hargs : ar.map a.eval = args := by (try simp only [List.map_toArray, List.map_cons, List.map_nil]); first | done | rfl | (simp only [List.length_drop, List.length_take]; rfl)) :
    if Region.wanted oi (yielded ops a.tmps) = true then Oper.wp P oi a w K Q else K (a.put N undef) w := goes_ hf hname hb args hw hN hop hargs h
end
theorem sqa (a : Act) (N : Tmp) (v : Value) : a.put (some N) v = { a with tmps := a.tmps.setIfInBounds N v } := rfl
theorem sqb {α : Type _} (l : List α) (i : Nat) (a : α) : l.toArray.setIfInBounds i a = (l.set i a).toArray := by simp
theorem sqc {α : Type _} (x a : α) (l : List α) : (x :: l).set 0 a = a :: l := rfl
theorem sqd {α : Type _} (x a : α) (l : List α) (n : Nat) : (x :: l).set (n + 1) a = x :: l.set n a := rfl
end Go.Proofs.Ytflbcikfphfkdaa.Sq
