/- What a call of reachOf gives, told row by row. -/
import Derived.Test.YtigpkicbigpilaaTfVplQ
import Derived.Test.YtigpkicbigpilaaTfVreR
namespace Go.Proofs.Ytigpkicbigpilaa.V
open Go.RowKit Go.Maps Go.Proofs.YtigpkicbigpilaaW.PrintWords Go.Proofs.YtigpkicbigpilaaW.PrintLast Go.Proofs.YtigpkicbigpilaaW.PrintMore Go.Proofs.Ytigpkicbigpilaa.Sq Go.Proofs.Ytigpkicbigpilaa.Sep
attribute [local go_sem] max2_int min2_int max_two min_two max_three min_three max_four min_four
set_option linter.unusedVariables false
set_option linter.unusedSimpArgs false
/-- The object is a map that reads as the pairs, in whatever world and block. -/
def MapO (m : List (Gv.K5 × Int)) (O : Obj) : Prop := ∀ (w : World) (b : Nat), w.heap[b]? = some O → Gv.MapIs Gv.ev5 92 3 w b m
theorem mapO_of {w : World} {b : Nat} {m : List (Gv.K5 × Int)} (h : Gv.MapIs Gv.ev5 92 3 w b m) : ∃ O, w.heap[b]? = some O ∧ MapO m O := by
  obtain ⟨n, D, hn, ⟨es, cl, he, hr⟩, hM, hx⟩ := h
  exact ⟨_, he, fun w' b' hb' => ⟨n, D, hn, ⟨es, cl, hb', hr⟩, hM, hx⟩⟩
theorem mapO_ne {m : List (Gv.K5 × Int)} {O : Obj} (hO : MapO m O) {w : World} {b g : Nat} {cs : Array Value} {t : TypeId} {z : Nat × Nat} (h : w.heap[b]? = some O) (hb : w.heap[g]? = some (.cells cs t z)) : g ≠ b := (hO w b h).ne hb
/-- The map behind the value: its block, the object that stands there. -/
def ReM (base : Nat) (w : World) (mv : Option Nat) (m : List (Gv.K5 × Int)) (mb : Nat) (O : Obj) : Prop := mv = some mb ∧ base ≤ mb ∧ w.heap[mb]? = some O ∧ MapO m O
theorem belowEq {W w1 : World} (h : W = w1) : Below W.heap.size W w1 := by
  subst h; exact Below.refl _ _
theorem bkO {w W : World} {g : Nat} {o : Obj} (h : Aside0 (w.heap[g]? = some o)) [u : Ug g w W] : W.heap[g]? = some o := by
  have := u.out
  induction this with
  | refl => exact h.out
  | drew _ ih => exact blk_drew ih
  | drewN n _ ih => exact blk_drewN ih n
  | alloc o _ ih => exact blk_alloc ih o
  | set b i s v hne _ ih => exact (Below.heap_setCell _ _ _ _ hne).trans ih
theorem bbO {w W w1 : World} {g : Nat} {o : Obj} (h : Aside0 (w.heap[g]? = some o)) (hb : Below W.heap.size W w1) [u : Ug g w W] : Aside0 (w1.heap[g]? = some o) := ⟨blk_below (bkO h) hb⟩
theorem nlO {w W : World} {g g' : Nat} {o : Obj} (h : Aside0 (w.heap[g]? = some o)) (hg : g' = W.heap.size) [u : Ug g w W] : NeC g g' := ⟨by rw [hg]; exact Nat.ne_of_lt (blk_lt (bkO (W := W) h))⟩
theorem nrO {w W : World} {g g' : Nat} {o : Obj} (h : Aside0 (w.heap[g]? = some o)) (hg : g' = W.heap.size) [u : Ug g w W] : NeC g' g := ⟨by rw [hg]; exact Nat.ne_of_gt (blk_lt (bkO (W := W) h))⟩
theorem R_neM {m : List (Gv.K5 × Int)} {O : Obj} (hO : MapO m O) {e : TypeId} {w : World} {base g : Nat} {ok : Nat → Prop} {v : Value} {xs : List Int} (h : Kd.R (Kd.int .i64) e w base ok v xs) (hb : w.heap[g]? = some O) : some g ≠ v.ownBlock := by
  rcases (Kd.own_of_R h).2 with ⟨rfl, _⟩ | ⟨g', cap, cur, rfl, _, hh, _⟩
  · intro e; cases e
  · intro e
    have e2 : g = g' := Option.some.inj e
    exact mapO_ne hO hb hh e2.symm
def impl_lookup1.f (m : List (Gv.K5 × Int)) (a b c d e : Int) : Option Int := if Gv.wf5 (a, b, c, d, e) = true then some ((Gv.lk m (a, b, c, d, e)).getD 0) else none
/-- 'm[x]' at the operation. -/
theorem look1_step {m : List (Gv.K5 × Int)} {O : Obj} {W : World} {mb : Nat} {mv : Option Nat} {ops : Array Oper} {o : Oper} {a : Act} {Q : Exit → Act → World → Prop} {Kc : Act → World → Prop} (hO : MapO m O) (hb : W.heap[mb]? = some O) (hmv : mv = some mb) (mo xo : Operand) {x1 x2 x3 x4 x5 t : Int} (hf : impl_lookup1.f m x1 x2 x3 x4 x5 = some t)
    (hm : a.eval mo = .map mv) (hx : a.eval xo = .agg #[.int .i64 x1, .int .i64 x2, .int .i64 x3, .int .i64 x4, .int .i64 x5])
    (K : ∀ w1, Below W.heap.size W w1 → Kc (a.put o.dst (.int .i64 t)) w1) (hop : o.op = Op.lookup 81 mo xo false := by rfl) (hw : Region.wanted o (yielded ops a.tmps) = true := by rfl) :
    if Region.wanted o (yielded ops a.tmps) = true then Oper.wp Try.prog o a W Kc Q else Kc (a.put o.dst undef) W := by
  subst hmv
  unfold impl_lookup1.f at hf
  by_cases cw : Gv.wf5 (x1, x2, x3, x4, x5) = true
  · rw [if_pos cw] at hf
    obtain rfl := Option.some.inj hf
    obtain ⟨lt, hkey⟩ := Gv.key5_lit (x1, x2, x3, x4, x5) cw
    obtain ⟨n, D, hn, ho, hM, hall⟩ := hO W mb hb
    obtain ⟨h2, h3⟩ := hall _ lt hkey
    rw [if_pos hw]
    obtain ⟨c, hrun, hc, hwc⟩ := ho.lookup_int (e := 3) Gv.keyed5 Try.underlying81 Try.underlying3 (Gv.zeroInt' W) hkey
    have hcc : c = (Gv.lk m (x1, x2, x3, x4, x5)).getD 0 := by
      cases hl : Gv.lk m (x1, x2, x3, x4, x5) with
      | none =>
        have hh : Maps.has D lt = false := by rw [h2, hl]; rfl
        exact (lit_inj ((atKey_of_not_has hh _).symm.trans hc)).symm
      | some v => exact (lit_inj ((h3 v hl).symm.trans hc)).symm
    subst hcc
    have hx' : a.eval xo = Gv.ev5 (x1, x2, x3, x4, x5) := hx
    unfold Oper.wp
    simp [execOp, hop, hm, hx', hrun, Result.andThen]
    exact K W (Below.refl _ _)
  · rw [if_neg cw] at hf; cases hf
/-- The key, told as the printed calls want it. -/
def impl_keyOf.f (l0 l1 : List Int) : Option (Int × Int × Int × Int × Int) := some (Gv.key5 l1)
theorem impl_keyOf.callsP (A0 : Option Addr) (c0 : Nat) (l0 : List Int) (A1 : Option Addr) (c1 : Nat) (l1 : List Int) (r1 r2 r3 r4 r5 : Int) (w : World) (hr0 : Kd.C (Kd.int .i64) w A0 l0.length l0) (hc0 : l0.length ≤ c0) (hr1 : Kd.C (Kd.int .i64) w A1 l1.length l1) (hc1 : l1.length ≤ c1) (h : impl_keyOf.f l0 l1 = some (r1, r2, r3, r4, r5)) :
  Calls Try.prog 69 #[.agg #[.slice A0 l0.length c0, .slice A1 l1.length c1]] w fun e w' => e = .returned (.agg #[.int .i64 r1, .int .i64 r2, .int .i64 r3, .int .i64 r4, .int .i64 r5]) ∧ Below w.heap.size w w' := by
  refine (impl_keyOf.calls A0 c0 l0 A1 c1 l1 w hr1).mono ?_
  rintro e w' ⟨rfl, hb⟩
  have h' : Gv.key5 l1 = (r1, r2, r3, r4, r5) := Option.some.inj h
  rw [h']
  exact ⟨rfl, hb⟩
end Go.Proofs.Ytigpkicbigpilaa.V
