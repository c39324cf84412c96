/- Five whole numbers as keys of a map; maps, copies and literals among things apart; a region all of whose orders are told at once. -/
import Derived.Test.YtieioddimkafbaaTbGvSep
import Derived.Test.YtieioddimkafbaaTbWTab
namespace Go.Proofs.Ytieioddimkafbaa.Gv
open Go.RowKit Go.Maps Go.WideShapes
abbrev K5 := Int × Int × Int × Int × Int
def ev5 (x : K5) : Value := .agg #[.int .i64 x.1, .int .i64 x.2.1, .int .i64 x.2.2.1, .int .i64 x.2.2.2.1, .int .i64 x.2.2.2.2]
def key5 (l : List Int) : K5 := (l.getD 0 0, l.getD 1 0, l.getD 2 0, l.getD 3 0, l.getD 4 0)
def wf5 (x : K5) : Bool := (Lit.int .i64 x.1).wf && (Lit.int .i64 x.2.1).wf && (Lit.int .i64 x.2.2.1).wf && (Lit.int .i64 x.2.2.2.1).wf && (Lit.int .i64 x.2.2.2.2).wf
theorem ev5_inj (y x : K5) (h : ev5 y = ev5 x) : y = x := by
  obtain ⟨a, b, c, d, e⟩ := x
  obtain ⟨a', b', c', d', e'⟩ := y
  simp [ev5] at h
  simp [h]
theorem kt5 : Try.prog.keyType 90 = true := by kernel_rfl
theorem cc5 : Try.prog.cellsOf 90 = 5 := by kernel_rfl
theorem cc1' : Try.prog.cellsOf 3 = 1 := by kernel_rfl
theorem keyed5 : Keyed Try.prog 90 := Keyed.of_law (deep_law_laid laidOut (m := 2) (by omega) (by decide +kernel) (by kernel_rfl) (by kernel_rfl))
theorem key5_lit (x : K5) (h : wf5 x = true) : ∃ l, keyOf Try.prog 90 (ev5 x) = some l := by
  obtain ⟨a, b, c, d, e⟩ := x
  simp only [wf5, Bool.and_eq_true] at h
  obtain ⟨⟨⟨⟨h1, h2⟩, h3⟩, h4⟩, h5⟩ := h
  have hf : (ev5 (a, b, c, d, e)).formed Try.prog 90 = true := by simp [ev5, Value.formed, Try.underlying90, cc5]
  have h1' : 1 ≤ Try.prog.types.size := by decide +kernel
  obtain ⟨m, hm⟩ : ∃ m, Try.prog.types.size + 1 = m + 1 + 1 := ⟨Try.prog.types.size - 1, by omega⟩
  unfold keyOf
  rw [Try.underlying90]
  simp only [kt5, hf, Bool.and_self, if_true, hm]
  simp [Program.keyLits, Try.underlying90, Try.underlying3, cc5, cc1', ev5, Value.cells, List.range, List.range.loop, h1, h2, h3, h4, h5]
theorem wf_len (n : Nat) (h : n ≤ 3000) : (Lit.int .i64 (n : Int)).wf = true := by
  simp only [Lit.wf, IntKind.min, IntKind.max, IntKind.signed, IntKind.bits, Bool.and_eq_true, decide_eq_true_eq, if_true]
  omega
theorem zeroInt' (w : World) : (zeroValue 3).run Try.prog w = .ok (.int .i64 0) w := by kernel_rfl
end Go.Proofs.Ytieioddimkafbaa.Gv
namespace Go.Proofs.Ytieioddimkafbaa.Sep
open Go.RowKit Go.Proofs.YtieioddimkafbaaW.PrintWords Go.Proofs.YtieioddimkafbaaW.PrintLast Go.Proofs.Ytieioddimkafbaa.Sq Go.Proofs.Ytieioddimkafbaa.Gv Go.Maps
set_option linter.unusedVariables false
set_option linter.unusedSimpArgs false
variable {F F' : Nat → Prop} {w w0 w1 W : World} {cs cs' l : List Comp} {c c' : Comp} {P : Program} {ops : Array Oper} {rest : List Oper} {o : Oper} {a : Act} {Q : Exit → Act → World → Prop} {Kc : Act → World → Prop}
def triv : Comp := rd (fun _ => True)
/-- An empty place is filled. -/
theorem SB.fill (h : SB F w0 w cs) (i : Nat) (c : Comp) (hb : Below W.heap.size W w1) (hp : c.P w1 (fun k => F k ∧ okOf cs i k)) (hat : c.own = none ∨ ∃ b, c.own = some b ∧ W.heap.size ≤ b) (hi : cs[i]? = some triv := by rfl) [u : Sq.Up w W] : SB F w0 w1 (cs.set i c) := by
  have h1 := SB.up (W := W) h
  exact ⟨h1.s.upd i c (c := triv) (grown_of_below hb none) hp hat hi, below_step h1.b hb, h1.n⟩
theorem SB.fillNew (h : SB F w0 w cs) (i : Nat) (c : Comp) (hb : Below W.heap.size W w1) (hp : c.P w1 (fun k => W.heap.size ≤ k)) (hat : c.own = none ∨ ∃ b, c.own = some b ∧ W.heap.size ≤ b) (hi : cs[i]? = some triv := by rfl) [u : Sq.Up w W] : SB F w0 w1 (cs.set i c) := by
  have h1 := SB.up (W := W) h
  exact h.fill i c hb (c.mono hp (fun k hk => h1.hfr i k hk)) hat hi
theorem own_new {α : Type} {d : Kd α} {e B : Nat} {ok : Nat → Prop} {v : Value} {xs : List α} (h : d.R e w B ok v xs) : v.ownBlock = none ∨ ∃ b, v.ownBlock = some b ∧ B ≤ b := by
  cases hv : v.ownBlock with
  | none => exact .inl rfl
  | some k => exact .inr ⟨k, rfl, Kd.R_base h k hv⟩
section
variable {α : Type}
theorem SB.lit_step (h : SB F w0 w cs) (N : Tmp) (d : Kd α) (e : TypeId) (xs : List α) (inner : List Value) (hrep : Reps (d.M W W.heap.size (fun _ => True)) d.sz xs inner)
    (K : ∀ v1 w1, Below W.heap.size W w1 → d.R e w1 W.heap.size (fun _ => True) v1 xs → Kc (a.put o.dst v1) w1)
    (hrun : (execOp a.eval o).run P W = .ok (.value (.slice (some ⟨W.heap.size, 0, none⟩) xs.length xs.length)) (W.alloc (.cells inner.toArray e)) := by first | (go_simp; done) | (go_simp; rfl))
    (hd : o.dst = some N := by rfl) (hw : Region.wanted o (yielded ops a.tmps) = true := by rfl) (hm : xs.length ≤ 9223372036854775807 := by simp) : if Region.wanted o (yielded ops a.tmps) = true then Oper.wp P o a W Kc Q else Kc (a.put o.dst undef) W :=
  Kd.R_lit_step d (w0 := W) W.heap.size e hw hd hrun hrep (ok := fun _ => True) (fun _ hk => hk) trivial (Below.refl _ _) (Nat.le_refl _) hm (fun v1 w1 ho hb _ _ => K v1 w1 hb ho)
theorem SB.litN_step (h : SB F w0 w cs) (N : Tmp) (d : Kd α) (e : TypeId) (xs : List α) (inner : List Value) (hrep : Reps (Kd.FK d W (fun k => F k ∧ okAll cs k)) d.sz xs inner)
    (K : ∀ v1 w1, Below W.heap.size W w1 → Kd.N d e w1 W.heap.size (fun k => F k ∧ okAll cs k) v1 xs → Kc (a.put o.dst v1) w1)
    (hrun : (execOp a.eval o).run P W = .ok (.value (.slice (some ⟨W.heap.size, 0, none⟩) xs.length xs.length)) (W.alloc (.cells inner.toArray e)) := by first | (go_simp; done) | (go_simp; rfl))
    (hd : o.dst = some N := by rfl) (hw : Region.wanted o (yielded ops a.tmps) = true := by rfl) (hm : xs.length ≤ 9223372036854775807 := by simp) [u : Sq.Up w W] : if Region.wanted o (yielded ops a.tmps) = true then Oper.wp P o a W Kc Q else Kc (a.put o.dst undef) W := by
  have h1 := SB.up (W := W) h
  exact Kd.N_lit_step d (w0 := W) W.heap.size e hw hd hrun hrep (ok := fun k => F k ∧ okAll cs k) (fun _ hk => hk) ⟨h1.n _ h1.le, okAll_new h1.s _ (Nat.le_refl _)⟩ (Below.refl _ _) (Nat.le_refl _) hm (fun v1 w1 ho hb _ _ => K v1 w1 hb ho)
/-- append(v, ys...), ys only read. -/
theorem SB.appRows_step (h : SB F w0 w cs) (i : Nat) (d : Kd α) (s x : Operand) (t e : TypeId) (z : Value) (bytes : Nat) (v : Value) (xs ys : List α) (A : Option Addr) (m c : Nat)
    (ht : P.underlying t = some (.slice e)) (hinfo : (P.info? e).map (fun i => (i.zero, i.size, i.bytes)) = some (some z, d.sz, bytes)) (hx : a.eval x = .slice A m c) (HR : d.C W A m ys) (hKM : ∀ x cs, d.K W x cs → d.M W w0.heap.size (fun _ => False) x cs) (hl : (xs.length + m) * bytes ≤ 140737488355328)
    (K : ∀ v1 w1, SB F w0 w1 (cs.set i (row d e w0.heap.size v1 (xs ++ ys))) → Kc (a.put o.dst v1) w1)
    (hs : a.eval s = v := by rfl) (hw : Region.wanted o (yielded ops a.tmps) = true := by rfl) (ho : o.op = .call { callee := .builtin .append, args := #[s, x], argTypes := #[t, t] } := by rfl) (hz : z.cells.size = d.sz := by rfl) (hs0 : 0 < d.sz := by decide) (hb0 : 0 < bytes := by omega)
    (hi : cs[i]? = some (row d e w0.heap.size v xs) := by rfl) [u : Sq.Up w W] : if Region.wanted o (yielded ops a.tmps) = true then Oper.wp P o a W Kc Q else Kc (a.put o.dst undef) W := by
  have h1 := SB.up (W := W) h
  exact Kd.R_append_rows_step d (w0 := w0) w0.heap.size hw s x t e z bytes ho ht hinfo hz hs0 hb0 v xs ys A m c (fun k => F k ∧ okOf cs i k) (fun _ => False) hs hx (h1.s.get i hi) HR hKM (fun _ hk => hk.elim) (h1.hfr i) h1.b h1.le hl
    (fun v1 w1 hr hb hg hat => K v1 w1 ⟨h1.s.upd i (row d e w0.heap.size v1 (xs ++ ys)) (c := row d e w0.heap.size v xs) hg hr hat hi, hb, h1.n⟩)
theorem SB.appRowsN_step (h : SB F w0 w cs) (i : Nat) (d : Kd α) (s x : Operand) (t e : TypeId) (z : Value) (bytes : Nat) (v : Value) (xs ys : List α) (A : Option Addr) (m c : Nat)
    (ht : P.underlying t = some (.slice e)) (hinfo : (P.info? e).map (fun i => (i.zero, i.size, i.bytes)) = some (some z, d.sz, bytes)) (hx : a.eval x = .slice A m c) (HR : Kd.F d W (fun k => F k ∧ okAll cs k) A m ys) (hl : (xs.length + m) * bytes ≤ 140737488355328)
    (K : ∀ v1 w1, SB F w0 w1 (cs.set i (nrow d e w0.heap.size v1 (xs ++ ys))) → Kc (a.put o.dst v1) w1)
    (hs : a.eval s = v := by rfl) (hw : Region.wanted o (yielded ops a.tmps) = true := by rfl) (ho : o.op = .call { callee := .builtin .append, args := #[s, x], argTypes := #[t, t] } := by rfl) (hz : z.cells.size = d.sz := by rfl) (hs0 : 0 < d.sz := by decide) (hb0 : 0 < bytes := by omega)
    (hi : cs[i]? = some (nrow d e w0.heap.size v xs) := by rfl) [u : Sq.Up w W] : if Region.wanted o (yielded ops a.tmps) = true then Oper.wp P o a W Kc Q else Kc (a.put o.dst undef) W := by
  have h1 := SB.up (W := W) h
  exact Kd.N_append_rows_step d (w0 := w0) w0.heap.size hw s x t e z bytes ho ht hinfo hz hs0 hb0 v xs ys A m c (fun k => F k ∧ okOf cs i k) (fun k => F k ∧ okAll cs k) hs hx (h1.s.get i hi) HR (fun k hk => ⟨⟨hk.1, fun j c _ hj => hk.2 j c hj⟩, hk.2 i _ hi⟩) (h1.hfr i) h1.b h1.le hl
    (fun v1 w1 hr hb hg hat => K v1 w1 ⟨h1.s.upd i (nrow d e w0.heap.size v1 (xs ++ ys)) (c := nrow d e w0.heap.size v xs) hg hr hat hi, hb, h1.n⟩)
end
/-- 'copy(a[:], v)', a an array of numbers in a block of one's own. -/
theorem SB.copyB_step (h : SB F w0 w cs) (i : Nat) (d s : Operand) (t t' e : TypeId) (g n : Nat) (cells : List Value) (ty : Nat) (xs : List Int) (A : Option Addr) (cc : Nat) (ht : P.underlying t = some (.slice e)) (hinfo : (P.info? e).map (·.size) = some 1)
    (hd : a.eval d = .slice (some ⟨g, 0, none⟩) n n) (hs : a.eval s = .slice A xs.length cc) (hC : Kd.C (Kd.int .i64) W A xs.length xs) (hn : cells.length = n)
    (K : ∀ w1 q, SB F w0 w1 (cs.set i (blk g ((xs.take n).map (Value.int .i64) ++ cells.drop (min n xs.length)).toArray ty)) → Kc (a.put o.dst (goInt q)) w1)
    (hg0 : w0.heap.size ≤ g) (hi : cs[i]? = some (blk g cells.toArray ty) := by rfl)
    (hw : Region.wanted o (yielded ops a.tmps) = true := by rfl) (ho : o.op = .call { callee := .builtin .copy, args := #[d, s], argTypes := #[t, t'] } := by rfl) [u : Sq.Up w W] :
    if Region.wanted o (yielded ops a.tmps) = true then Oper.wp P o a W Kc Q else Kc (a.put o.dst undef) W := by
  have h1 := SB.up (W := W) h
  obtain ⟨hh, hok⟩ := (h1.s.get i hi : W.heap[g]? = some (.cells cells.toArray ty (0, 0)) ∧ _)
  rw [if_pos hw]
  by_cases h0 : min n xs.length = 0
  · have hrun := run_copy_none (P := P) W t t' o.type e (some ⟨g, 0, none⟩) A n n xs.length cc ht hinfo (by show min xs.length n = 0; omega)
    have e1 : (xs.take n).map (Value.int .i64) ++ cells.drop (min n xs.length) = cells := by
      rw [h0]
      have : xs.take n = [] := by
        rw [List.take_eq_nil_iff]
        rcases Nat.eq_zero_or_pos n with h | h
        · exact .inl h
        · right
          exact List.eq_nil_of_length_eq_zero (by omega)
      rw [this]; simp
    rw [e1] at K
    unfold Oper.wp
    simp [execOp, ho, resolve, invoke, builtin, hd, hs, hrun, Result.andThen]
    refine K W 0 ?_
    have e2 : cs.set i (blk g cells.toArray ty) = cs := by
      apply List.ext_getElem?
      intro j
      by_cases hj : i = j
      · subst hj
        rw [List.getElem?_set_self (List.getElem?_eq_some_iff.1 hi).1, hi]
      · rw [List.getElem?_set_ne hj]
    rw [e2]
    exact h1
  · obtain ⟨ad, rfl, hcell⟩ := hC.2.2 (by omega)
    have hcl : ((xs.take n).map (Value.int .i64)).length = min n xs.length := by simp
    have hrun := run_copy_row (P := P) W t t' o.type e g 0 n n ad xs.length cc cells.toArray ty ((xs.take n).map (Value.int .i64)) ht hinfo hh (by rw [hcl]; show _ = min xs.length n; omega)
      (fun j v hj => by
        have hjl : j < min n xs.length := by have := (List.getElem?_eq_some_iff.1 hj).1; omega
        rw [List.getElem?_map, List.getElem?_take, if_pos (by omega)] at hj
        obtain ⟨z, hz, rfl⟩ := Option.map_eq_some_iff.1 hj
        obtain ⟨c', hcl', hK, hcc⟩ := hcell j z hz
        have e5 : c' = [Value.int .i64 z] := hK
        subst e5
        have := hcc 0 _ rfl
        simpa [show (Kd.int .i64).sz = 1 from rfl] using this)
      (by rw [hcl]; simp; omega) (fun v hv => by obtain ⟨z, _, rfl⟩ := List.mem_map.1 hv; rfl)
    unfold Oper.wp
    simp [execOp, ho, resolve, invoke, builtin, hd, hs, hrun, Result.andThen]
    refine K _ _ ?_
    have e6 : cells.toArray.toList.take 0 ++ (xs.take n).map (Value.int .i64) ++ cells.toArray.toList.drop (0 + ((xs.take n).map (Value.int .i64)).length) = (xs.take n).map (Value.int .i64) ++ cells.drop (min n xs.length) := by
      rw [hcl]; simp
    have hgr : W.grownBy (W.setRow g (cells.toArray.toList.take 0 ++ (xs.take n).map (Value.int .i64) ++ cells.toArray.toList.drop (0 + ((xs.take n).map (Value.int .i64)).length)).toArray) (some g) :=
      ⟨rfl, rfl, rfl, Nat.le_of_eq (size_setRow W g _).symm, fun k _ hk => setRow_other W g k _ (fun e => hk (by rw [e]))⟩
    have hnew := setRow_heap W g cells.toArray (cells.toArray.toList.take 0 ++ (xs.take n).map (Value.int .i64) ++ cells.toArray.toList.drop (0 + ((xs.take n).map (Value.int .i64)).length)).toArray ty (0, 0) hh
    have hfin : SB F w0 _ _ := ⟨h1.s.upd i (blk g _ ty) (c := blk g cells.toArray ty) hgr ⟨hnew, hok⟩ (.inl rfl) hi, below_setRow h1.b hg0 _, h1.n⟩
    rw [e6] at hfin
    simpa using hfin
theorem lit_inj {H : Type} {a b : Int} (h : (DataW.lit (.int .i64 a) : DataW H) = .lit (.int .i64 b)) : a = b := by
  injection h with h
  injection h
/-- 'v, ok := m[x]'. -/
theorem SB.lookup_step {κ : Type} [DecidableEq κ] {ev : κ → Value} {k e : TypeId} (h : SB F w0 w cs) (i : Nat) (mo xo : Operand) (t : TypeId) (b : Nat) (m : List (κ × Int)) (x : κ) (lt : Lit)
    (K5 : Keyed Try.prog k) (ht : Try.prog.underlying t = some (.map k e)) (he : Try.prog.underlying e = some (.int .i64)) (hz : ∀ w, (zeroValue e).run Try.prog w = .ok (.int .i64 0) w)
    (hm : a.eval mo = .map (some b)) (hx : a.eval xo = ev x) (hkey : keyOf Try.prog k (ev x) = some lt)
    (K : Kc (a.put o.dst (.tuple #[.int .i64 ((lk m x).getD 0), .bool (lk m x).isSome])) W)
    (hi : cs[i]? = some (mp ev k e b m) := by rfl) (hop : o.op = Op.lookup t mo xo true := by rfl) (hw : Region.wanted o (yielded ops a.tmps) = true := by rfl) [u : Sq.Up w W] :
    if Region.wanted o (yielded ops a.tmps) = true then Oper.wp Try.prog o a W Kc Q else Kc (a.put o.dst undef) W := by
  have h1 := SB.up (W := W) h
  obtain ⟨⟨n, D, hn, ho, hM, hall⟩, _⟩ := (h1.s.get i hi : MapIs ev k e W b m ∧ _)
  obtain ⟨h2, h3⟩ := hall x lt hkey
  rw [if_pos hw]
  obtain ⟨v, ps, hrun, hv⟩ := ho.look_ok K5 ht (hz W) (plainElem_int he (by decide)) hkey
  obtain ⟨c, rfl, hc, hwc⟩ := plainElem_int_inv he hv
  have r2 := congrArg Prod.fst hc
  have hcc : c = (lk m x).getD 0 := by
    cases hl : lk m x with
    | none =>
      have hh : Maps.has D lt = false := by rw [h2, hl]; rfl
      exact (lit_inj ((atKey_of_not_has hh _).symm.trans r2)).symm
    | some v => exact (lit_inj ((h3 v hl).symm.trans r2)).symm
  rw [h2] at hrun
  subst hcc
  unfold Oper.wp
  simp [execOp, hop, hm, hx, hrun, Result.andThen]
  exact K
/-- 'm[x] = v', x a new key. -/
theorem SB.store_step {κ : Type} [DecidableEq κ] {ev : κ → Value} {k e : TypeId} (h : SB F w0 w cs) (i : Nat) (mo xo vo : Operand) (t : TypeId) (b : Nat) (m : List (κ × Int)) (x : κ) (lt : Lit) (v : Int)
    (K5 : Keyed Try.prog k) (ht : Try.prog.underlying t = some (.map k e)) (he : Try.prog.underlying e = some (.int .i64))
    (hm : a.eval mo = .map (some b)) (hlen : m.length < maxLen) (hx : a.eval xo = ev x) (hkey : keyOf Try.prog k (ev x) = some lt) (hev : ∀ y, ev y = ev x → y = x) (hv : a.eval vo = .int .i64 v) (hwf : (Lit.int .i64 v).wf = true) (hnew : lk m x = none) (hb : w0.heap.size ≤ b)
    (K : ∀ w1, SB F w0 w1 (cs.set i (mp ev k e b (m ++ [(x, v)]))) → Kc a w1) (hN : o.dst = none := by rfl)
    (hi : cs[i]? = some (mp ev k e b m) := by rfl) (hop : o.op = Op.mapUpdate t mo xo vo ∨ o.op = Op.insert t mo xo vo := by first | exact .inl rfl | exact .inr rfl) (hw : Region.wanted o (yielded ops a.tmps) = true := by rfl) [u : Sq.Up w W] :
    if Region.wanted o (yielded ops a.tmps) = true then Oper.wp Try.prog o a W Kc Q else Kc (a.put o.dst undef) W := by
  have h1 := SB.up (W := W) h
  obtain ⟨⟨n, D, hn, ho, hM, hall⟩, hok⟩ := (h1.s.get i hi : MapIs ev k e W b m ∧ _)
  rw [if_pos hw]
  obtain ⟨w', hrun, r1, r2⟩ := ho.update (d := .lit (.int .i64 v)) (ps := []) K5 ht (Nat.lt_of_le_of_lt hn hlen) hkey (plainElem_int he hwf)
  have done : MapIs ev k e w' b (m ++ [(x, v)]) := by
    have hl1 : n + 1 ≤ (m ++ [(x, v)]).length := by rw [List.length_append]; exact Nat.add_le_add_right hn 1
    refine ⟨n + 1, _, hl1, r1, hM.put _ _, fun y ly hy => ?_⟩
    rw [lk_snoc_new m x y v hnew]
    by_cases e1 : x = y
    · subst e1
      have e2 : ly = lt := Option.some.inj (hy.symm.trans hkey)
      subst e2
      rw [if_pos rfl]
      exact ⟨has_put_same hM (K5.key hkey) _, fun c hc => by obtain rfl := Option.some.inj hc; exact atKey_put_same hM (K5.key hkey) _ _⟩
    · rw [if_neg e1]
      have ne : ly ≠ lt := fun h => e1 (by
        subst h
        exact (hev y (K5.inj hy hkey)).symm)
      obtain ⟨g1, g2⟩ := hall y ly hy
      exact ⟨by rw [has_put_other ne]; exact g1, fun c hc => by rw [atKey_put_other ne]; exact g2 c hc⟩
  have hfin : SB F w0 w' (cs.set i (mp ev k e b (m ++ [(x, v)]))) := ⟨h1.s.upd i (mp ev k e b (m ++ [(x, v)])) (c := mp ev k e b m) r2 ⟨done, hok⟩ (.inl rfl) hi, below_grown h1.b r2 hb, h1.n⟩
  unfold Oper.wp
  rcases hop with hop | hop
  · simp [execOp, hop, hm, hx, hv, hrun, Result.andThen]
    show Kc (a.put o.dst undef) w'
    rw [hN]
    exact K w' hfin
  · simp [execOp, hop, hm, hx, hv, hrun, Result.andThen]
    show Kc (a.put o.dst undef) w'
    rw [hN]
    exact K w' hfin
theorem SB.mk_step {κ : Type} [DecidableEq κ] {ev : κ → Value} {k e : TypeId} (h : SB F w0 w cs) (t : TypeId) (N : Tmp) (K : ∀ g w1, g = W.heap.size → Below W.heap.size W w1 → MapIs ev k e w1 g ([] : List (κ × Int)) → Kc (a.put o.dst (.map (some g))) w1)
    (hop : o.op = Op.makeMap t none := by rfl) (hw : Region.wanted o (yielded ops a.tmps) = true := by rfl) : if Region.wanted o (yielded ops a.tmps) = true then Oper.wp Try.prog o a W Kc Q else Kc (a.put o.dst undef) W :=
  event_step hw (by simp [execOp, hop, run_makeMap]) (K _ _ rfl (below_alloc (Below.refl _ _) _) (MapIs.made _))
theorem results_ct {fn : Func} {p u : Tmp} {ty : TypeId} (h : fn.results = #[.cell p ty, .tmp u]) (tmps : Array Value) (w : World) (g : Nat) (t : TypeId) (cs : Array Value) (fr : Nat × Nat) (d : TypeDesc)
    (hp : tmps.getD p undef = .pointer (some ⟨g, 0, none⟩)) (hg : w.heap[g]? = some (.cells cs t fr))
    (hu : P.underlying ty = some d) (hd : (match d with | .struct _ | .array _ _ => true | _ => false) = true) (hi : (P.info? ty).map (·.size) = some cs.size) :
    (results fn tmps).run P w = .ok (.tuple #[.agg cs, tmps.getD u undef]) w := by
  have hp' : tmps[p]?.getD undef = .pointer (some ⟨g, 0, none⟩) := by simpa using hp
  simp [results, h, hp', asAddr, run_loadVar_row w g t ty cs fr d hg hu hd hi]
theorem SB.addTriv (h : SB F w0 w cs) : SB F w0 w (cs ++ [triv]) := ⟨h.s.pushRO triv (fun _ _ => trivial) rfl, h.b, h.n⟩
theorem SB.toTriv (h : SB F w0 w cs) (i : Nat) {c : Comp} (hi : cs[i]? = some c := by rfl) : SB F w0 w (cs.set i triv) := h.imp i triv (fun _ _ => fun _ _ => trivial) (.inr rfl) hi
def unl (l : Array Bool) : Nat := (l.toList.filter (fun b => !b)).length
theorem unl_set (l : List Bool) (i : Nat) (h : l.getD i true = false) : ((l.set i true).filter (fun b => !b)).length + 1 = (l.filter (fun b => !b)).length := by
  induction l generalizing i with
  | nil => simp at h
  | cons b l ih =>
    cases i with
    | zero =>
      have : b = false := by simpa using h
      subst this
      simp
    | succ n =>
      have h' : l.getD n true = false := by simpa using h
      have := ih n h'
      rw [List.set_cons_succ, List.filter_cons, List.filter_cons]
      split
      · simp; omega
      · exact this
theorem unl_zero (l : List Bool) (h : (l.filter (fun b => !b)).length = 0) (i : Nat) : l.getD i true = true := by
  have h1 := List.eq_nil_of_length_eq_zero h
  rw [List.filter_eq_nil_iff] at h1
  rw [List.getD_eq_getElem?_getD]
  cases hi : l[i]? with
  | none => rfl
  | some b =>
    have := h1 b (List.mem_of_getElem? hi)
    simpa using this
theorem wpOp_of {i : Nat} {K : Act → World → Prop} (ho : ops[i]? = some o) (h : if Region.wanted o (yielded ops a.tmps) = true then Oper.wp P o a w K Q else K (a.put o.dst undef) w) : wpOp P ops Q i K a w := by
  unfold wpOp
  rw [ho]
  dsimp only
  split
  · rename_i hw
    rw [if_pos hw] at h
    exact .inl h
  · rename_i hw
    rw [if_neg hw] at h
    exact h
theorem inv_last {md : Region.Mode} {S : World → Prop} {ds : List Nat} {T : Bool × List (List Nat × List Nat)} (Inv : Array Bool → Act → World → Prop) (hT : rtab md ops = T) (hS : ∀ l a w, Inv l a w → S w)
    (hstep : ∀ l a w i o (K : Act → World → Prop), Inv l a w → ops[i]? = some o → readyAt T.2 l.toList i = true → Shut (∀ a' w', Inv (l.setIfInBounds i true) a' w' → K a' w') → if Region.wanted o (yielded ops a.tmps) = true then Oper.wp P o a w K Q else K (a.put o.dst undef) w)
    (hdone : ∀ l a w, Inv l a w → (∀ i, readyAt T.2 l.toList i = false) → Q .normal a w) : ∀ (fuel : Nat) (l : Array Bool) (a : Act) (w : World), unl l ≤ fuel → Inv l a w → wpAnyLast P md ops Q S ds fuel l a w := by
  have hr : ∀ (l : Array Bool) i, i ∈ Region.ready md ops l → readyAt T.2 l.toList i = true := by
    intro l i hi
    rw [ready_eq, hT, readyT, List.mem_filter] at hi
    exact hi.2
  have hnr : ∀ (l : Array Bool), Region.ready md ops l = [] → ∀ i, readyAt T.2 l.toList i = false := by
    intro l h i
    rw [ready_eq, hT, readyT, List.filter_eq_nil_iff] at h
    cases hx : readyAt T.2 l.toList i with
    | false => rfl
    | true =>
      have hlt : i < T.2.length := by
        unfold readyAt at hx
        cases hq : T.2[i]? with
        | none => rw [hq] at hx; simp at hx
        | some r => exact (List.getElem?_eq_some_iff.1 hq).1
      exact absurd hx (h i (List.mem_range.2 hlt))
  have hun : ∀ (l : Array Bool) i, readyAt T.2 l.toList i = true → l.toList.getD i true = false := by
    intro l i h
    unfold readyAt at h
    simp only [Bool.and_eq_true] at h
    simpa using h.1
  intro fuel
  induction fuel with
  | zero =>
    intro l a w hl hI
    have hz : Region.ready md ops l = [] := by
      apply List.eq_nil_iff_forall_not_mem.2
      intro i hi
      have h1 := hun l i (hr l i hi)
      rw [unl_zero l.toList (by unfold unl at hl; omega) i] at h1
      cases h1
    exact ⟨hz, hdone l a w hI (hnr l hz)⟩
  | succ n ih =>
    intro l a w hl hI
    refine ⟨fun hz => hdone l a w hI (hnr l hz), fun i hi => ?_⟩
    have h1 := hr l i hi
    obtain ⟨_, oi, hoi, _⟩ := mem_ready.1 hi
    refine wpOp_mono (fun a' w' h' => ⟨fun _ _ => hS _ _ _ h', ih _ _ _ ?_ h'⟩) (wpOp_of hoi (hstep l a w i oi _ hI hoi h1 (fun _ _ h => h)))
    have := unl_set l.toList i (hun l i h1)
    unfold unl at hl ⊢
    rw [Array.toList_setIfInBounds]
    omega
theorem inv_last' {md : Region.Mode} {S : World → Prop} {ds : List Nat} {T : Bool × List (List Nat × List Nat)} {fuel : Nat} {l : Array Bool} {a0 : Act} (Inv : Act → Array Bool → Act → World → Prop) (hT : rtab md ops = T) (hS : ∀ l a w, Inv a0 l a w → S w)
    (hstep : ∀ l a w i o (K : Act → World → Prop), Inv a0 l a w → ops[i]? = some o → readyAt T.2 l.toList i = true → Shut (∀ a' w', Inv a0 (l.setIfInBounds i true) a' w' → K a' w') → if Region.wanted o (yielded ops a.tmps) = true then Oper.wp P o a w K Q else K (a.put o.dst undef) w)
    (hdone : ∀ l a w, Inv a0 l a w → (∀ i, readyAt T.2 l.toList i = false) → Q .normal a w) (hl : unl l ≤ fuel) (h : ∀ a, Inv a l a w) : wpAnyLast P md ops Q S ds fuel l a0 w := inv_last (Inv a0) hT hS hstep hdone fuel l a0 w hl (h a0)
theorem put_self (a : Act) (N : Nat) : a.put (some N) (a.tmps.getD N undef) = a := by
  obtain ⟨t, d⟩ := a
  have e : t.setIfInBounds N (t.getD N undef) = t := by
    apply Array.ext_getElem?
    intro i
    rw [Array.getElem?_setIfInBounds]
    by_cases e : N = i
    · subst e
      by_cases h : N < t.size
      · simp [h]
      · simp [h]
    · rw [if_neg e]
  simp only [Act.put, e]
end Go.Proofs.Ytieioddimkafbaa.Sep
