/- A map that a call makes, with elements of type int: what it holds, told as a list of pairs in the order in which the keys came; look-up and store at the operation. -/
import Derived.Test.YtmlkdkeocbhajaaProg
import Derived.Maps.OwnSet
import Derived.Maps.Views
import Derived.DeepKeys4
import Derived.WalkKit
import Derived.Below
import Derived.KernelRfl
import Derived.Test.YtmlkdkeocbhajaaWWords
namespace Go.Proofs.Ytmlkdkeocbhajaa.Gv
open Go.RowKit Go.Maps Go.WideShapes Go.Proofs.YtmlkdkeocbhajaaW.PrintWords
set_option linter.unusedVariables false
set_option linter.unusedSimpArgs false
theorem laidOut : laidOutB Try.prog = true := by kernel_rfl

/-- What stands at a key. -/
def lk {κ : Type} [DecidableEq κ] : List (κ × Int) → κ → Option Int
  | [], _ => none
  | (a, v) :: m, x => if a = x then some v else lk m x
theorem lk_snoc_new {κ : Type} [DecidableEq κ] (m : List (κ × Int)) (x y : κ) (v : Int) (h : lk m x = none) : lk (m ++ [(x, v)]) y = if x = y then some v else lk m y := by
  induction m with
  | nil => rfl
  | cons p m ih =>
    obtain ⟨a, c⟩ := p
    simp only [lk] at h
    by_cases e : a = x
    · rw [if_pos e] at h; cases h
    · rw [if_neg e] at h
      simp only [List.cons_append, lk]
      rw [ih h]
      by_cases e2 : a = y
      · rw [if_pos e2, if_pos e2]
        by_cases e3 : x = y
        · exact absurd (e2.trans e3.symm) e
        · rw [if_neg e3]
      · rw [if_neg e2, if_neg e2]

section
variable {κ : Type} [DecidableEq κ] (ev : κ → Value) (k e : TypeId)
/-- Block b is a map that reads as the pairs m. -/
def MapIs (w : World) (b : Nat) (m : List (κ × Int)) : Prop :=
  ∃ (n : Nat) (D : DataW Unit), n ≤ m.length ∧ w.ownsMap Try.prog k (plainElem Try.prog e) b n D ∧ IsMap D ∧
    ∀ x l, keyOf Try.prog k (ev x) = some l → Maps.has D l = (lk m x).isSome ∧ ∀ c, lk m x = some c → D.atKey l (.lit (.int .i64 0)) = .lit (.int .i64 c)
variable {ev k e}
theorem MapIs.made (w : World) : MapIs ev k e (w.alloc (.map #[] 0)) w.heap.size [] :=
  ⟨0, .map [], by simp, World.ownsMap_made _ _ _ _, isMap_empty, fun x l _ => ⟨rfl, fun c hc => by cases hc⟩⟩
theorem MapIs.lt {w : World} {b : Nat} {m : List (κ × Int)} (h : MapIs ev k e w b m) : b < w.heap.size := by
  obtain ⟨n, D, _, ho, _⟩ := h; exact ho.lt
theorem MapIs.grown {w w' : World} {b : Nat} {m : List (κ × Int)} (h : MapIs ev k e w b m) {row : Option Nat} (hg : w.grownBy w' row) (hne : some b ≠ row) : MapIs ev k e w' b m := by
  obtain ⟨n, D, hn, ho, hm, hx⟩ := h; exact ⟨n, D, hn, ho.kept hg hne, hm, hx⟩
theorem MapIs.below {w w' : World} {b : Nat} {m : List (κ × Int)} (h : MapIs ev k e w b m) (hb : Below w.heap.size w w') : MapIs ev k e w' b m := h.grown (grown_of_below hb none) (by simp)
theorem MapIs.drewN {w : World} {b : Nat} {m : List (κ × Int)} (h : MapIs ev k e w b m) (q : Nat) : MapIs ev k e (w.drewN q) b m := h
theorem MapIs.set {w : World} {b : Nat} {m : List (κ × Int)} (h : MapIs ev k e w b m) (p : Addr) (hne : p.block ≠ b) (v : Value) : MapIs ev k e (w.setCell p v) b m :=
  h.grown (row := some p.block) ⟨rfl, rfl, rfl, Nat.le_of_eq (World.size_setCell w p v).symm, fun i _ hi => Below.heap_setCell w p v i (fun e => hi (by rw [e]))⟩ (fun e => hne (by injection e with e; exact e.symm))
/-- 'v, ok := m[x]' at the operation. -/
theorem wpList_lookup_is {w : World} {ops : Array Oper} {rest : List Oper} {o : Oper} {a : Act} {Q : Exit → Act → World → Prop} (hg : o.guard = none) (mo xo : Operand) (t : TypeId) (hop : o.op = Op.lookup t mo xo true)
    (K : Keyed Try.prog k) (ht : Try.prog.underlying t = some (.map k e)) (he : Try.prog.underlying e = some (.int .i64)) (hz : ∀ w, (zeroValue e).run Try.prog w = .ok (.int .i64 0) w) (b : Nat) (m : List (κ × Int))
    (hm : a.eval mo = .map (some b)) (hown : MapIs ev k e w b m) (x : κ) (hx : a.eval xo = ev x) (l : Lit) (hkey : keyOf Try.prog k (ev x) = some l)
    (hK : wpList Try.prog ops Q rest (a.put o.dst (.tuple #[.int .i64 ((lk m x).getD 0), .bool (lk m x).isSome])) w) : wpList Try.prog ops Q (o :: rest) a w := by
  obtain ⟨n, D, hn, ho, hM, hall⟩ := hown
  obtain ⟨h1, h2⟩ := hall x l hkey
  refine wpList_lookup_own_ok_int w hg mo xo t hop k e .i64 K ht he (hz w) b n D hm ho _ l hx hkey (fun c hc _ => ?_)
  rw [h1]
  cases hl : lk m x with
  | none =>
    have hh : Maps.has D l = false := by rw [h1, hl]; rfl
    rw [atKey_of_not_has hh] at hc
    injection hc with hc
    injection hc with _ hc
    rw [hl] at hK
    rw [← hc]; exact hK
  | some v =>
    rw [h2 v hl] at hc
    injection hc with hc
    injection hc with _ hc
    rw [hl] at hK
    rw [← hc]; exact hK
/-- 'm[x] = v' at the operation, x a new key. -/
theorem wpList_store_is {w : World} {ops : Array Oper} {rest : List Oper} {o : Oper} {a : Act} {Q : Exit → Act → World → Prop} (hg : o.guard = none) (mo xo vo : Operand) (t : TypeId) (hop : o.op = Op.mapUpdate t mo xo vo ∨ o.op = Op.insert t mo xo vo)
    (K : Keyed Try.prog k) (ht : Try.prog.underlying t = some (.map k e)) (he : Try.prog.underlying e = some (.int .i64)) (b : Nat) (m : List (κ × Int))
    (hm : a.eval mo = .map (some b)) (hown : MapIs ev k e w b m) (hlen : m.length < maxLen) (x : κ) (hx : a.eval xo = ev x) (l : Lit) (hkey : keyOf Try.prog k (ev x) = some l) (hev : ∀ y, ev y = ev x → y = x)
    (v : Int) (hv : a.eval vo = .int .i64 v) (hw : (Lit.int .i64 v).wf = true) (hnew : lk m x = none)
    (hK : ∀ w', MapIs ev k e w' b (m ++ [(x, v)]) → w.grownBy w' (some b) → wpList Try.prog ops Q rest (a.put o.dst undef) w') : wpList Try.prog ops Q (o :: rest) a w := by
  obtain ⟨n, D, hn, ho, hM, hall⟩ := hown
  refine wpList_plain hg fun K' hK' => ?_
  obtain ⟨w', hrun, r1, r2⟩ := ho.update (d := .lit (.int .i64 v)) (ps := []) K ht (Nat.lt_of_le_of_lt hn hlen) hkey (plainElem_int he hw)
  have done : MapIs ev k e w' b (m ++ [(x, v)]) := by
    have hl1 : n + 1 ≤ (m ++ [(x, v)]).length := by rw [List.length_append]; exact Nat.add_le_add_right hn 1
    refine ⟨n + 1, _, hl1, r1, hM.put _ _, fun y ly hy => ?_⟩
    rw [lk_snoc_new m x y v hnew]
    by_cases e1 : x = y
    · subst e1
      have e2 : ly = l := Option.some.inj (hy.symm.trans hkey)
      subst e2
      rw [if_pos rfl]
      exact ⟨has_put_same hM (K.key hkey) _, fun c hc => by obtain rfl := Option.some.inj hc; exact atKey_put_same hM (K.key hkey) _ _⟩
    · rw [if_neg e1]
      have ne : ly ≠ l := fun h => e1 (by
        subst h
        exact (hev y (K.inj hy hkey)).symm)
      obtain ⟨g1, g2⟩ := hall y ly hy
      exact ⟨by rw [has_put_other ne]; exact g1, fun c hc => by rw [atKey_put_other ne]; exact g2 c hc⟩
  unfold Oper.wp
  rcases hop with hop | hop
  · simp [execOp, hop, hm, hx, hv, hrun, Result.andThen]
    exact hK' _ _ (hK w' done r2)
  · simp [execOp, hop, hm, hx, hv, hrun, Result.andThen]
    exact hK' _ _ (hK w' done r2)
end
section
variable {κ : Type} [DecidableEq κ] {ev : κ → Value} {k e : TypeId}
theorem MapIs.ne {w : World} {b g : Nat} {m : List (κ × Int)} {cs : Array Value} {t : TypeId} {z : Nat × Nat} (h : MapIs ev k e w b m) (hb : w.heap[g]? = some (.cells cs t z)) : g ≠ b := by
  rintro rfl
  obtain ⟨n, D, _, ho, _⟩ := h
  obtain ⟨es, nx, he, _⟩ := ho
  rw [hb] at he; cases he
/-- 'make(map[K]V)' at the operation. -/
theorem map_event {W : World} {ops : Array Oper} {rest : List Oper} {o : Oper} {a : Act} {Q : Exit → Act → World → Prop} (hgd : o.guard = none) {N : Tmp} (_hd : o.dst = some N) (t : TypeId) (hop : o.op = Op.makeMap t none)
    (h : ∀ g, g = W.heap.size → ∀ w1, MapIs ev k e w1 g [] → Below W.heap.size W w1 → wpList Try.prog ops Q rest (a.put o.dst (.map (some g))) w1) : wpList Try.prog ops Q (o :: rest) a W :=
  Kd.event_run hgd (by simp [execOp, hop, run_makeMap]) (h _ rfl _ (MapIs.made _) (below_alloc (Below.refl _ _) _))
theorem gate_insert {W : World} {ops : Array Oper} {rest : List Oper} {o : Oper} {a : Act} {Q : Exit → Act → World → Prop} {t : TypeId} {x y z : Operand} (_ho : o.op = Op.insert t x y z) (h : wpList Try.prog ops Q (o :: rest) a W) : wpList Try.prog ops Q (o :: rest) a W := h
theorem gate_update {W : World} {ops : Array Oper} {rest : List Oper} {o : Oper} {a : Act} {Q : Exit → Act → World → Prop} {t : TypeId} {x y z : Operand} (_ho : o.op = Op.mapUpdate t x y z) (h : wpList Try.prog ops Q (o :: rest) a W) : wpList Try.prog ops Q (o :: rest) a W := h
theorem MapIs.drew1 {w : World} {b : Nat} {m : List (κ × Int)} (h : MapIs ev k e w b m) : MapIs ev k e w.drew b m := h
end
theorem below_grown {b : Nat} {w0 w w' : World} (h : Below w0.heap.size w0 w) (hg : w.grownBy w' (some b)) (hb : w0.heap.size ≤ b) : Below w0.heap.size w0 w' :=
  ⟨hg.os.trans h.os, hg.tape.trans h.tape, hg.output.trans h.output, Nat.le_trans h.size hg.size, fun i hi => (hg.block i (Nat.lt_of_lt_of_le hi h.size) (fun e => by injection e with e; omega)).trans (h.block i hi)⟩
theorem wf_small (t : Int) (h : 0 ≤ t) (h2 : t ≤ 2000) : (Lit.int .i64 t).wf = true := by
  simp only [Lit.wf, IntKind.min, IntKind.max, IntKind.signed, IntKind.bits, Bool.and_eq_true, decide_eq_true_eq, if_true]
  omega
theorem wrap_small (t : Int) (h : 0 ≤ t) (h2 : t ≤ 2000) : wrap64 (t + 1) = t + 1 := by
  simp only [wrap64]; omega
end Go.Proofs.Ytmlkdkeocbhajaa.Gv
