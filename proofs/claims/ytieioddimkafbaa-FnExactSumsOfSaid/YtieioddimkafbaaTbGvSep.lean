/- Things apart from one another: rows, blocks, maps and what is only read, each with the block that it owns; each stands as long as the blocks outside the others' own blocks stay. -/
import Derived.Test.YtieioddimkafbaaTbWNEv
import Derived.Test.YtieioddimkafbaaTbGvMap
import Derived.Test.YtieioddimkafbaaTbGvSq
import Derived.Laws.CopyOwn
namespace Go.Proofs.Ytieioddimkafbaa.Sep
open Go.RowKit Go.Proofs.YtieioddimkafbaaW.PrintWords Go.Proofs.Ytieioddimkafbaa.Sq
set_option linter.unusedVariables false
/-- A thing: the block that it owns, what it says (in footprint ok), and that this stays where the footprint stays. -/
structure Comp where
  own : Option Nat
  P : World → (Nat → Prop) → Prop
  mono : ∀ {w : World} {ok ok' : Nat → Prop}, P w ok → (∀ k, ok k → ok' k) → P w ok'
  bound : ∀ {w : World} {ok : Nat → Prop}, P w ok → P w (fun k => ok k ∧ k < w.heap.size)
  step : ∀ {w w1 : World} {ok : Nat → Prop}, P w ok → (∀ k, ok k → k < w.heap.size → w1.heap[k]? = w.heap[k]?) → P w1 ok
  lt : ∀ {w : World} {ok : Nat → Prop}, P w ok → ∀ k, own = some k → k < w.heap.size
/-- Outside all others' own blocks. -/
def okOf (cs : List Comp) (i : Nat) (k : Nat) : Prop := ∀ (j : Nat) (c : Comp), j ≠ i → cs[j]? = some c → some k ≠ c.own
def okAll (cs : List Comp) (k : Nat) : Prop := ∀ (j : Nat) (c : Comp), cs[j]? = some c → some k ≠ c.own
def Sep (F : Nat → Prop) (w : World) (cs : List Comp) : Prop := ∀ (i : Nat) (c : Comp), cs[i]? = some c → c.P w (fun k => F k ∧ okOf cs i k)
variable {F F' : Nat → Prop} {w w1 W : World} {cs cs' l : List Comp} {c c' : Comp}
theorem Sep.nil (F : Nat → Prop) (w : World) : Sep F w [] := fun i c h => by simp at h
theorem Sep.get (h : Sep F w cs) (i : Nat) {c : Comp} (hi : cs[i]? = some c := by rfl) : c.P w (fun k => F k ∧ okOf cs i k) := h i c hi
theorem Sep.below (h : Sep F w cs) (hb : Below w.heap.size w w1) : Sep F w1 cs := fun i c hi => c.step (h i c hi) (fun k _ hk => hb.block k hk)
theorem okOf_new (h : Sep F w cs) (i : Nat) (k : Nat) (hk : w.heap.size ≤ k) : okOf cs i k := fun j c _ hj he => by
  have := c.lt (h j c hj) k he.symm
  omega
theorem okAll_new (h : Sep F w cs) (k : Nat) (hk : w.heap.size ≤ k) : okAll cs k := fun j c hj he => by
  have := c.lt (h j c hj) k he.symm
  omega
theorem okAll_of {i : Nat} (k : Nat) (h : okOf cs i k) (hn : some k ≠ c.own) (hi : cs[i]? = some c) : okAll cs k := fun j d hj => by
  by_cases e : j = i
  · subst e
    obtain rfl := Option.some.inj (hj.symm.trans hi)
    exact hn
  · exact h j d e hj
theorem okAll_ro {i : Nat} (k : Nat) (h : okOf cs i k) (hi : cs[i]? = some c) (hn : c.own = none) : okAll cs k := okAll_of k h (by rw [hn]; simp) hi
/-- Thing i is turned, in its own block or in a new one. -/
theorem Sep.upd (h : Sep F w cs) (i : Nat) (c' : Comp) (hg : w.grownBy w1 c.own) (hp : c'.P w1 (fun k => F k ∧ okOf cs i k)) (hat : c'.own = c.own ∨ ∃ b, c'.own = some b ∧ w.heap.size ≤ b) (hi : cs[i]? = some c := by rfl) : Sep F w1 (cs.set i c') := by
  have hl : i < cs.length := (List.getElem?_eq_some_iff.1 hi).1
  intro j d hj
  by_cases e : i = j
  · subst e
    rw [List.getElem?_set_self hl] at hj
    obtain rfl := Option.some.inj hj
    refine c'.mono hp (fun k hk => ⟨hk.1, fun j d hne hd => ?_⟩)
    rw [List.getElem?_set_ne (Ne.symm hne)] at hd
    exact hk.2 j d hne hd
  · rw [List.getElem?_set_ne e] at hj
    refine d.mono (d.step (d.bound (h j d hj)) (fun k hk hlt => hg.block k hlt (hk.1.2 i c e hi))) (fun k hk => ⟨hk.1.1, fun m q hne hq => ?_⟩)
    by_cases e2 : i = m
    · subst e2
      rw [List.getElem?_set_self hl] at hq
      obtain rfl := Option.some.inj hq
      rcases hat with hat | ⟨b, hb, hle⟩
      · rw [hat]; exact hk.1.2 i c e hi
      · rw [hb]; intro he; injection he with he; have := hk.2; omega
    · rw [List.getElem?_set_ne e2] at hq
      exact hk.1.2 m q hne hq
theorem idx_app {α : Type} {cs l : List α} {j : Nat} {d : α} (hj : (cs ++ l)[j]? = some d) : (j < cs.length ∧ cs[j]? = some d) ∨ (cs.length ≤ j ∧ l[j - cs.length]? = some d) := by
  rcases Nat.lt_or_ge j cs.length with hl | hl
  · rw [List.getElem?_append_left hl] at hj; exact .inl ⟨hl, hj⟩
  · rw [List.getElem?_append_right hl] at hj; exact .inr ⟨hl, hj⟩
/-- New things, apart from one another; what they lead to is new or apart from all. -/
theorem Sep.merge (h : Sep F w cs) (hb : Below w.heap.size w w1) (hl : Sep F' w1 l) (hF : ∀ k, F' k → k < w.heap.size → F k ∧ okAll cs k) (hN : ∀ k, w.heap.size ≤ k → F k)
    (hat : ∀ (i : Nat) (c : Comp), l[i]? = some c → ∀ k, c.own = some k → w.heap.size ≤ k) : Sep F w1 (cs ++ l) := by
  intro j d hj
  rcases idx_app hj with ⟨hjl, hj⟩ | ⟨hjl, hj⟩
  · refine d.mono (d.step (d.bound (h j d hj)) (fun k _ hlt => hb.block k hlt)) (fun k hk => ⟨hk.1.1, fun m q hne hq => ?_⟩)
    rcases idx_app hq with ⟨_, hq⟩ | ⟨hml, hq⟩
    · exact hk.1.2 m q hne hq
    · intro he
      have := hat _ q hq k he.symm
      have := hk.2
      omega
  · refine d.mono (hl _ d hj) (fun k hk => ?_)
    have hold : ∀ (m : Nat) (q : Comp), cs[m]? = some q → some k ≠ q.own := by
      intro m q hq
      by_cases hlt : k < w.heap.size
      · exact (hF k hk.1 hlt).2 m q hq
      · intro he
        have := q.lt (h m q hq) k he.symm
        omega
    refine ⟨?_, fun m q hne hq => ?_⟩
    · by_cases hlt : k < w.heap.size
      · exact (hF k hk.1 hlt).1
      · exact hN k (by omega)
    · rcases idx_app hq with ⟨_, hq⟩ | ⟨hml, hq⟩
      · exact hold m q hq
      · exact hk.2 _ q (fun e => hne (by omega)) hq
/-- What is only read, apart from all. -/
theorem Sep.pushRO (h : Sep F w cs) (c' : Comp) (hp : c'.P w (fun k => F k ∧ okAll cs k)) (hn : c'.own = none) : Sep F w (cs ++ [c']) := by
  intro j d hj
  have one : ∀ {m : Nat} {q : Comp}, ([c'] : List Comp)[m]? = some q → q = c' := by
    intro m q hq
    cases m with
    | zero => exact (Option.some.inj hq).symm
    | succ n => simp at hq
  have ok : ∀ k, okAll cs k → ∀ (m : Nat) (q : Comp), (cs ++ [c'])[m]? = some q → some k ≠ q.own := by
    intro k hk m q hq
    rcases idx_app hq with ⟨_, hq⟩ | ⟨_, hq⟩
    · exact hk m q hq
    · rw [one hq, hn]; simp
  rcases idx_app hj with ⟨hjl, hj⟩ | ⟨hjl, hj⟩
  · refine d.mono (h j d hj) (fun k hk => ⟨hk.1, fun m q hne hq => ?_⟩)
    rcases idx_app hq with ⟨_, hq⟩ | ⟨_, hq⟩
    · exact hk.2 m q hne hq
    · rw [one hq, hn]; simp
  · obtain rfl := one hj
    exact d.mono hp (fun k hk => ⟨hk.1, fun m q _ hq => ok k hk.2 m q hq⟩)
/-- Fewer things: those of a list with their places. -/
theorem Sep.sub (h : Sep F w cs) (f : Nat → Nat) (hf : ∀ i j, f i = f j → i = j) (hg : ∀ (i : Nat) (c : Comp), cs'[i]? = some c → cs[f i]? = some c) : Sep F w cs' := by
  intro i d hi
  refine d.mono (h (f i) d (hg i d hi)) (fun k hk => ⟨hk.1, fun j q hne hq => ?_⟩)
  exact hk.2 (f j) q (fun e => hne (hf _ _ e)) (hg j q hq)
theorem Sep.take (h : Sep F w cs) (n : Nat) : Sep F w (cs.take n) := h.sub id (fun _ _ e => e) (fun i c hi => by
  rw [List.getElem?_take] at hi
  split at hi
  · exact hi
  · cases hi)
theorem Sep.drop (h : Sep F w cs) (n : Nat) : Sep F w (cs.drop n) := h.sub (n + ·) (fun _ _ e => by omega) (fun i c hi => by
  rw [List.getElem?_drop] at hi
  exact hi)
/-- Thing i said in other words; it may be owned no longer. -/
theorem Sep.imp (h : Sep F w cs) (i : Nat) (c' : Comp) (hp : ∀ ok, c.P w ok → c'.P w ok) (hn : c'.own = c.own ∨ c'.own = none) (hi : cs[i]? = some c := by rfl) : Sep F w (cs.set i c') := by
  intro j d hj
  have hl : i < cs.length := (List.getElem?_eq_some_iff.1 hi).1
  have key : ∀ k, F k ∧ okOf cs j k → F k ∧ okOf (cs.set i c') j k := by
    intro k hk
    refine ⟨hk.1, fun m q hne hq => ?_⟩
    by_cases e2 : i = m
    · subst e2
      rw [List.getElem?_set_self hl] at hq
      obtain rfl := Option.some.inj hq
      rcases hn with hn | hn
      · rw [hn]; exact hk.2 i c hne hi
      · rw [hn]; simp
    · rw [List.getElem?_set_ne e2] at hq
      exact hk.2 m q hne hq
  by_cases e : i = j
  · subst e
    rw [List.getElem?_set_self hl] at hj
    obtain rfl := Option.some.inj hj
    exact c'.mono (hp _ (h i c hi)) key
  · rw [List.getElem?_set_ne e] at hj
    exact d.mono (h j d hj) key
section
variable {α : Type}
/-- A row of the call's own. -/
def row (d : Kd α) (e base : Nat) (v : Value) (xs : List α) : Comp where
  own := v.ownBlock
  P w ok := d.R e w base ok v xs
  mono h hok := Kd.R_mono h hok
  bound h := Kd.R_mono (Kd.R_bound h) (fun _ hk => ⟨hk.1, hk.2.2.1⟩)
  step h hm := Kd.R_step h hm
  lt h := Kd.R_lt h
/-- A row whose elements share. -/
def nrow (d : Kd α) (e base : Nat) (v : Value) (xs : List α) : Comp where
  own := v.ownBlock
  P w ok := Kd.N d e w base ok v xs
  mono h hok := Kd.N_mono h hok
  bound h := Kd.N_bound h
  step h hm := Kd.N_step h hm
  lt h := Kd.N_lt h
/-- A block of cells. -/
def blk (g : Nat) (cells : Array Value) (t : Nat) : Comp where
  own := some g
  P w ok := w.heap[g]? = some (.cells cells t (0, 0)) ∧ ok g
  mono h hok := ⟨h.1, hok _ h.2⟩
  bound h := ⟨h.1, h.2, blk_lt h.1⟩
  step h hm := ⟨(hm _ h.2 (blk_lt h.1)).trans h.1, h.2⟩
  lt h k hk := by injection hk with hk; subst hk; exact blk_lt h.1
/-- What is only read. -/
def rd (Q : World → Prop) : Comp where
  own := none
  P w ok := Foot Q w ok
  mono h hok := h.mono hok
  bound h := h.bound
  step h hm := h.step hm
  lt _ k hk := by cases hk
end
section
variable {κ : Type} [DecidableEq κ] (ev : κ → Value) (k e : TypeId)
theorem mapStep {w w1 : World} {b : Nat} {m : List (κ × Int)} (h : Gv.MapIs ev k e w b m) (hm : w1.heap[b]? = w.heap[b]?) : Gv.MapIs ev k e w1 b m := by
  obtain ⟨n, D, hn, ⟨es, cl, he, hr⟩, hM, hx⟩ := h
  exact ⟨n, D, hn, ⟨es, cl, hm.trans he, hr⟩, hM, hx⟩
/-- A map. -/
def mp (b : Nat) (m : List (κ × Int)) : Comp where
  own := some b
  P w ok := Gv.MapIs ev k e w b m ∧ ok b
  mono h hok := ⟨h.1, hok _ h.2⟩
  bound h := ⟨h.1, h.2, h.1.lt⟩
  step h hm := ⟨mapStep ev k e h.1 (hm _ h.2 h.1.lt), h.2⟩
  lt h k hk := by injection hk with hk; subst hk; exact h.1.lt
end
theorem foot_and {P Q : World → Prop} {ok : Nat → Prop} (h1 : Foot P W ok) (h2 : Foot Q W ok) : Foot (fun w => P w ∧ Q w) W ok := fun W' hW => ⟨h1 W' hW, h2 W' hW⟩
/-- What thing i owns, and cells that were set in it. -/
theorem grown_set (w : World) (g i : Nat) (v : Value) : w.grownBy (w.setCell ⟨g, i, none⟩ v) (some g) := ⟨rfl, rfl, rfl, Nat.le_of_eq (World.size_setCell w ⟨g, i, none⟩ v).symm, fun k _ hk => Below.heap_setCell w ⟨g, i, none⟩ v k (fun e => hk (by rw [e]))⟩
theorem Sep.set {g t : Nat} {cells : Array Value} (h : Sep F w cs) (i n : Nat) (v : Value) (cells' : Array Value) (hi : cs[i]? = some (blk g cells t) := by rfl) (e : cells.setIfInBounds n v = cells' := by rfl) : Sep F (w.setCell ⟨g, n, none⟩ v) (cs.set i (blk g cells' t)) :=
  h.upd i (c := blk g cells t) (blk g cells' t) (grown_set w g n v) ⟨blk_put (h.get i hi).1 n v e, (h.get i hi).2⟩ (.inl rfl) hi
structure SB (F : Nat → Prop) (w0 w : World) (cs : List Comp) : Prop where
  s : Sep F w cs
  b : Below w0.heap.size w0 w
  n : ∀ k, w0.heap.size ≤ k → F k
variable {w0 : World}
theorem SB.up (h : SB F w0 w cs) [u : Sq.Up w W] : SB F w0 W cs := by
  have := u.out
  induction this with
  | refl => exact h
  | drew _ ih => exact ⟨ih.s.below (below_drew (Below.refl _ _)), below_drew1 ih.b, ih.n⟩
  | drewN n _ ih => exact ⟨ih.s.below (pw_below_drewN (Below.refl _ _) n), pw_below_drewN ih.b n, ih.n⟩
  | alloc o _ ih => exact ⟨ih.s.below (below_alloc (Below.refl _ _) o), below_alloc ih.b o, ih.n⟩
theorem SB.start (w : World) (F : Nat → Prop) (Q : World → Prop) (P0 : Nat → Prop) (hq : Foot Q w P0) (hF : ∀ k, P0 k → F k) (hN : ∀ k, w.heap.size ≤ k → F k) : SB F w w [rd Q] :=
  ⟨(Sep.nil F w).pushRO (rd Q) (hq.mono (fun k hk => ⟨hF k hk, fun j c hj => by simp at hj⟩)) rfl, Below.refl _ _, hN⟩
theorem SB.le (h : SB F w0 w cs) : w0.heap.size ≤ w.heap.size := below_size h.b
/-- Behind a call that left all as it was. -/
theorem SB.call (h : SB F w0 w cs) (hb : Below W.heap.size W w1) [u : Sq.Up w W] : SB F w0 w1 cs := by
  have h1 := SB.up (W := W) h
  exact ⟨h1.s.below hb, below_step h1.b hb, h1.n⟩
theorem SB.merge (h : SB F w0 w cs) (hb : Below W.heap.size W w1) (hl : Sep F' w1 l) (hF : ∀ k, F' k → k < W.heap.size → F k ∧ okAll cs k) (hat : ∀ (i : Nat) (c : Comp), l[i]? = some c → ∀ k, c.own = some k → W.heap.size ≤ k) [u : Sq.Up w W] : SB F w0 w1 (cs ++ l) := by
  have h1 := SB.up (W := W) h
  exact ⟨h1.s.merge hb hl hF (fun k hk => h1.n k (Nat.le_trans h1.le hk)) hat, below_step h1.b hb, h1.n⟩
/-- A new thing. -/
theorem SB.new (h : SB F w0 w cs) (c : Comp) (hb : Below W.heap.size W w1) (hp : c.P w1 (fun k => W.heap.size ≤ k)) (hat : ∀ k, c.own = some k → W.heap.size ≤ k) [u : Sq.Up w W] : SB F w0 w1 (cs ++ [c]) := by
  have one : ∀ {m : Nat} {q : Comp}, ([c] : List Comp)[m]? = some q → q = c ∧ m = 0 := by
    intro m q hq
    cases m with
    | zero => exact ⟨(Option.some.inj hq).symm, rfl⟩
    | succ n => simp at hq
  refine h.merge (F' := fun k => W.heap.size ≤ k) hb ?_ (fun k hk hlt => by omega) (fun i q hq => by rw [(one hq).1]; exact hat)
  intro i q hq
  obtain ⟨rfl, rfl⟩ := one hq
  exact q.mono hp (fun k hk => ⟨hk, fun j d hne hd => absurd (one hd).2 hne⟩)
theorem SB.set {g t : Nat} {cells : Array Value} (h : SB F w0 w cs) (i n : Nat) (v : Value) (cells' : Array Value) (hg : w0.heap.size ≤ g) (hi : cs[i]? = some (blk g cells t) := by rfl) (e : cells.setIfInBounds n v = cells' := by rfl) : SB F w0 (w.setCell ⟨g, n, none⟩ v) (cs.set i (blk g cells' t)) :=
  ⟨h.s.set i n v cells' hi e, below_set h.b hg, h.n⟩
theorem SB.take (h : SB F w0 w cs) (n : Nat) : SB F w0 w (cs.take n) := ⟨h.s.take n, h.b, h.n⟩
theorem SB.imp (h : SB F w0 w cs) (i : Nat) (c' : Comp) (hp : ∀ ok, c.P w ok → c'.P w ok) (hn : c'.own = c.own ∨ c'.own = none) (hi : cs[i]? = some c := by rfl) : SB F w0 w (cs.set i c') := ⟨h.s.imp i c' hp hn hi, h.b, h.n⟩
/-- The block of thing i is not what thing j owns. -/
theorem SB.ne (h : SB F w0 w cs) (i j : Nat) {c d : Comp} {g : Nat} (hne : j ≠ i) (hc : ∀ ok, c.P w ok → ok g) (hd : d.own = some g) (hi : cs[i]? = some c := by rfl) (hj : cs[j]? = some d := by rfl) : False := (hc _ (h.s i c hi)).2 j d hne hj hd.symm
theorem SB.drop (h : SB F w0 w cs) (n : Nat) : SB F w0 w (cs.drop n) := ⟨h.s.drop n, h.b, h.n⟩
/-- The last two things change places. -/
theorem SB.swap {a b : Comp} (h : SB F w0 w (cs ++ [a] ++ [b])) (n : Nat) (hn : cs.length = n := by rfl) : SB F w0 w (cs ++ [b] ++ [a]) := by
  refine ⟨h.s.sub (fun i => if i = n then n + 1 else if i = n + 1 then n else i) ?_ ?_, h.b, h.n⟩
  · intro i j e
    repeat' split at e
    all_goals omega
  · intro i c hi
    subst hn
    have hl : i < cs.length + 1 + 1 := by
      have := (List.getElem?_eq_some_iff.1 hi).1
      simpa using this
    by_cases e1 : i = cs.length
    · subst e1
      rw [if_pos rfl]
      simp at hi ⊢
      exact hi
    · rw [if_neg e1]
      by_cases e2 : i = cs.length + 1
      · subst e2
        rw [if_pos rfl]
        simp at hi ⊢
        exact hi
      · rw [if_neg e2]
        have hc : i < cs.length := by omega
        rw [List.append_assoc, List.getElem?_append_left hc] at hi ⊢
        exact hi
theorem SB.cells (h : SB F w0 w cs) (i : Nat) {g t : Nat} {cells : Array Value} (hi : cs[i]? = some (blk g cells t) := by rfl) : Aside0 (w.heap[g]? = some (.cells cells t (0, 0))) := ⟨(h.s.get i hi).1⟩
theorem SB.foot (h : SB F w0 w cs) (i : Nat) {Q : World → Prop} (hi : cs[i]? = some (rd Q) := by rfl) : Foot Q w (fun k => F k ∧ okAll cs k) :=
  Foot.mono (h.s.get i hi : Foot Q w (fun k => F k ∧ okOf cs i k)) (fun k hk => ⟨hk.1, okAll_ro k hk.2 hi rfl⟩)
theorem cb {W w1 : World} {p : Addr} {v : Value} (h : W.cell? p = some v) (hb : Below W.heap.size W w1) : w1.cell? p = some v := (hb.cell (World.block_lt_of_cell? _ _ h)).trans h
theorem ca {W : World} {p : Addr} {v : Value} (h : W.cell? p = some v) (o : Obj) : (W.alloc o).cell? p = some v := cb h (below_alloc (Below.refl _ _) o)
theorem wrap64_small {x : Int} (h1 : -9223372036854775808 ≤ x) (h2 : x ≤ 9223372036854775807) : wrap64 x = x := by unfold wrap64; omega
section
variable {α : Type}
theorem SB.rows (h : SB F w0 w cs) (i : Nat) {d : Kd α} {e b : Nat} {v : Value} {xs : List α} (hi : cs[i]? = some (row d e b v xs) := by rfl) : d.R e w b (fun k => F k ∧ okOf cs i k) v xs := h.s.get i hi
theorem SB.nrows (h : SB F w0 w cs) (i : Nat) {d : Kd α} {e b : Nat} {v : Value} {xs : List α} (hi : cs[i]? = some (nrow d e b v xs) := by rfl) : Kd.N d e w b (fun k => F k ∧ okOf cs i k) v xs := h.s.get i hi
theorem R_foot {d : Kd α} {e B n cc : Nat} {ok : Nat → Prop} {A : Option Addr} {xs : List α} (h : d.R e w B ok (.slice A n cc) xs) : Foot (fun w => d.C w A n xs) w (fun k => B ≤ k) := Kd.R_F (Kd.R_mono (Kd.R_bound h) (fun _ hk => hk.2.1))
theorem SB.newR (h : SB F w0 w cs) {d : Kd α} {e : Nat} {ok : Nat → Prop} {v : Value} {xs : List α} (hb : Below W.heap.size W w1) (ho : d.R e w1 W.heap.size ok v xs) [u : Sq.Up w W] : SB F w0 w1 (cs ++ [row d e w0.heap.size v xs]) :=
  h.new _ hb (Kd.R_lower (Kd.R_mono (Kd.R_bound ho) (fun _ hk => hk.2.1)) (SB.up (W := W) h).le) (Kd.R_base ho)
theorem SB.newB (h : SB F w0 w cs) {g t : Nat} {cells : Array Value} (hb : Below W.heap.size W w1) (hg : g = W.heap.size) (ho : w1.heap[g]? = some (.cells cells t (0, 0))) [u : Sq.Up w W] : SB F w0 w1 (cs ++ [blk g cells t]) :=
  h.new _ hb ⟨ho, Nat.le_of_eq hg.symm⟩ (fun k hk => by injection hk with hk; omega)
theorem SB.newRd (h : SB F w0 w cs) {Q : World → Prop} (hb : Below W.heap.size W w1) (hQ : Foot Q w1 (fun k => W.heap.size ≤ k)) [u : Sq.Up w W] : SB F w0 w1 (cs ++ [rd Q]) :=
  h.new _ hb hQ (fun k hk => by cases hk)
/-- A row whose elements lead to what is new or apart from all. -/
theorem SB.newN (h : SB F w0 w cs) {d : Kd α} {e : Nat} {ok : Nat → Prop} {v : Value} {xs : List α} (hb : Below W.heap.size W w1) (ho : Kd.N d e w1 W.heap.size ok v xs) (hF : ∀ k, ok k → k < W.heap.size → F k ∧ okAll cs k) [u : Sq.Up w W] : SB F w0 w1 (cs ++ [nrow d e w0.heap.size v xs]) := by
  have one : ∀ {m : Nat} {q : Comp}, ([nrow d e w0.heap.size v xs] : List Comp)[m]? = some q → q = nrow d e w0.heap.size v xs ∧ m = 0 := by
    intro m q hq
    cases m with
    | zero => exact ⟨(Option.some.inj hq).symm, rfl⟩
    | succ n => simp at hq
  refine h.merge (F' := ok) hb ?_ hF (fun i q hq => by rw [(one hq).1]; exact Kd.N_base ho)
  intro i q hq
  obtain ⟨rfl, rfl⟩ := one hq
  exact Kd.N_mono (Kd.N_lower ho (SB.up (W := W) h).le) (fun k hk => ⟨hk, fun j d hne hd => absurd (one hd).2 hne⟩)
variable {P : Program} {ops : Array Oper} {rest : List Oper} {o : Oper} {a : Act} {Q : Exit → Act → World → Prop} {Kc : Act → World → Prop}
theorem SB.hfr (h : SB F w0 W cs) (i : Nat) : ∀ k, W.heap.size ≤ k → F k ∧ okOf cs i k := fun k hk => ⟨h.n k (Nat.le_trans h.le hk), okOf_new h.s i k hk⟩
/-- append(v, p) onto row i. -/
theorem SB.app (h : SB F w0 w cs) (i : Nat) (d : Kd α) (s x : Operand) (t e : TypeId) (z : Value) (bytes : Nat) (v : Value) (xs : List α) (p : α) (es : List Value)
    (ht : P.underlying t = some (.slice e)) (hinfo : (P.info? e).map (fun i => (i.zero, i.size, i.bytes)) = some (some z, d.sz, bytes)) (hx : a.eval x = .slice (some ⟨W.heap.size, 0, none⟩) 1 1) (hp : d.M W w0.heap.size (fun _ => False) p es) (hl : (xs.length + 1) * bytes ≤ 140737488355328)
    (K : ∀ v1 w1, SB F w0 w1 (cs.set i (row d e w0.heap.size v1 (xs ++ [p]))) → wpList P ops Q rest (a.put o.dst v1) w1)
    (hs : a.eval s = v := by rfl) (hgd : o.guard = none := by rfl) (ho : o.op = .call { callee := .builtin .append, args := #[s, x], argTypes := #[t, t] } := by rfl) (hz : z.cells.size = d.sz := by rfl) (hs0 : 0 < d.sz := by decide) (hb0 : 0 < bytes := by omega)
    (hi : cs[i]? = some (row d e w0.heap.size v xs) := by rfl) [u : Sq.Up w W] : wpList P ops Q (o :: rest) a (W.alloc (.cells es.toArray e)) := by
  have h1 := SB.up (W := W) h
  exact Kd.R_append d (w0 := w0) w0.heap.size hgd s x t e z bytes ho ht hinfo hz hs0 hb0 v xs p es (fun k => F k ∧ okOf cs i k) (fun _ => False) hs hx hp (fun _ hk => hk.elim) (h1.hfr i) (h1.s.get i hi) h1.b h1.le hl
    (fun v1 w1 hr hb hg hat => K v1 w1 ⟨h1.s.upd i (row d e w0.heap.size v1 (xs ++ [p])) (c := row d e w0.heap.size v xs) hg hr hat hi, hb, h1.n⟩)
theorem SB.app_step (h : SB F w0 w cs) (i : Nat) (d : Kd α) (s x : Operand) (t e : TypeId) (z : Value) (bytes : Nat) (v : Value) (xs : List α) (p : α) (es : List Value)
    (ht : P.underlying t = some (.slice e)) (hinfo : (P.info? e).map (fun i => (i.zero, i.size, i.bytes)) = some (some z, d.sz, bytes)) (hx : a.eval x = .slice (some ⟨W.heap.size, 0, none⟩) 1 1) (hp : d.M W w0.heap.size (fun _ => False) p es) (hl : (xs.length + 1) * bytes ≤ 140737488355328)
    (K : ∀ v1 w1, SB F w0 w1 (cs.set i (row d e w0.heap.size v1 (xs ++ [p]))) → Kc (a.put o.dst v1) w1)
    (hs : a.eval s = v := by rfl) (hw : Region.wanted o (yielded ops a.tmps) = true := by rfl) (ho : o.op = .call { callee := .builtin .append, args := #[s, x], argTypes := #[t, t] } := by rfl) (hz : z.cells.size = d.sz := by rfl) (hs0 : 0 < d.sz := by decide) (hb0 : 0 < bytes := by omega)
    (hi : cs[i]? = some (row d e w0.heap.size v xs) := by rfl) [u : Sq.Up w W] : if Region.wanted o (yielded ops a.tmps) = true then Oper.wp P o a (W.alloc (.cells es.toArray e)) Kc Q else Kc (a.put o.dst undef) (W.alloc (.cells es.toArray e)) := by
  have h1 := SB.up (W := W) h
  exact Kd.R_append_step d (w0 := w0) w0.heap.size hw s x t e z bytes ho ht hinfo hz hs0 hb0 v xs p es (fun k => F k ∧ okOf cs i k) (fun _ => False) hs hx hp (fun _ hk => hk.elim) (h1.hfr i) (h1.s.get i hi) h1.b h1.le hl
    (fun v1 w1 hr hb hg hat => K v1 w1 ⟨h1.s.upd i (row d e w0.heap.size v1 (xs ++ [p])) (c := row d e w0.heap.size v xs) hg hr hat hi, hb, h1.n⟩)
theorem SB.appN_step (h : SB F w0 w cs) (i : Nat) (d : Kd α) (s x : Operand) (t e : TypeId) (z : Value) (bytes : Nat) (v : Value) (xs : List α) (p : α) (es : List Value)
    (ht : P.underlying t = some (.slice e)) (hinfo : (P.info? e).map (fun i => (i.zero, i.size, i.bytes)) = some (some z, d.sz, bytes)) (hx : a.eval x = .slice (some ⟨W.heap.size, 0, none⟩) 1 1) (hp : Kd.FK d W (fun k => F k ∧ okAll cs k) p es) (hl : (xs.length + 1) * bytes ≤ 140737488355328)
    (K : ∀ v1 w1, SB F w0 w1 (cs.set i (nrow d e w0.heap.size v1 (xs ++ [p]))) → Kc (a.put o.dst v1) w1)
    (hs : a.eval s = v := by rfl) (hw : Region.wanted o (yielded ops a.tmps) = true := by rfl) (ho : o.op = .call { callee := .builtin .append, args := #[s, x], argTypes := #[t, t] } := by rfl) (hz : z.cells.size = d.sz := by rfl) (hs0 : 0 < d.sz := by decide) (hb0 : 0 < bytes := by omega)
    (hi : cs[i]? = some (nrow d e w0.heap.size v xs) := by rfl) [u : Sq.Up w W] : if Region.wanted o (yielded ops a.tmps) = true then Oper.wp P o a (W.alloc (.cells es.toArray e)) Kc Q else Kc (a.put o.dst undef) (W.alloc (.cells es.toArray e)) := by
  have h1 := SB.up (W := W) h
  exact Kd.N_append_step d (w0 := w0) w0.heap.size hw s x t e z bytes ho ht hinfo hz hs0 hb0 v xs p es (fun k => F k ∧ okOf cs i k) (fun k => F k ∧ okAll cs k) hs hx hp (fun k hk => ⟨⟨hk.1, fun j c _ hj => hk.2 j c hj⟩, hk.2 i _ hi⟩) (h1.hfr i) (h1.s.get i hi) h1.b h1.le hl
    (fun v1 w1 hr hb hg hat => K v1 w1 ⟨h1.s.upd i (nrow d e w0.heap.size v1 (xs ++ [p])) (c := nrow d e w0.heap.size v xs) hg hr hat hi, hb, h1.n⟩)
/-- A new variable. -/
theorem SB.bx (h : SB F w0 w cs) (N : Tmp) (cells : Array Value) (t : TypeId) (K : ∀ g w1, SB F w0 w1 (cs ++ [blk g cells t]) → GeC w0.heap.size g → wpList P ops Q rest (a.put o.dst (.pointer (some ⟨g, 0, none⟩))) w1)
    (_hd : o.dst = some N := by rfl) (hgd : o.guard = none := by rfl)
    (hrun : (execOp a.eval o).run P W = .ok (.value (.pointer (some ⟨W.heap.size, 0, none⟩))) (W.alloc (.cells cells t (0, 0))) := by first | (go_simp; done) | (go_simp; rfl)) [u : Sq.Up w W] : wpList P ops Q (o :: rest) a W :=
  box_event hgd _hd hrun (fun g hg w1 ho hb => K g w1 (h.newB hb hg ho) ⟨by rw [hg]; exact (SB.up (W := W) h).le⟩)
theorem SB.bx_step (h : SB F w0 w cs) (N : Tmp) (cells : Array Value) (t : TypeId) (K : ∀ g w1, SB F w0 w1 (cs ++ [blk g cells t]) → GeC w0.heap.size g → Below W.heap.size W w1 → Kc (a.put o.dst (.pointer (some ⟨g, 0, none⟩))) w1)
    (_hd : o.dst = some N := by rfl) (hw : Region.wanted o (yielded ops a.tmps) = true := by rfl)
    (hrun : (execOp a.eval o).run P W = .ok (.value (.pointer (some ⟨W.heap.size, 0, none⟩))) (W.alloc (.cells cells t (0, 0))) := by first | (go_simp; done) | (go_simp; rfl)) [u : Sq.Up w W] : if Region.wanted o (yielded ops a.tmps) = true then Oper.wp P o a W Kc Q else Kc (a.put o.dst undef) W :=
  box_step hw _hd hrun (fun g hg w1 ho hb => K g w1 (h.newB hb hg ho) ⟨by rw [hg]; exact (SB.up (W := W) h).le⟩ hb)
/-- A literal. -/
theorem SB.lit (h : SB F w0 w cs) (N : Tmp) (d : Kd α) (e : TypeId) (xs : List α) (inner : List Value) (hrep : Reps (d.M W W.heap.size (fun _ => True)) d.sz xs inner)
    (K : ∀ v1 w1, SB F w0 w1 (cs ++ [row d e w0.heap.size v1 xs]) → wpList P ops Q rest (a.put o.dst v1) w1)
    (hrun : (execOp a.eval o).run P W = .ok (.value (.slice (some ⟨W.heap.size, 0, none⟩) xs.length xs.length)) (W.alloc (.cells inner.toArray e)) := by first | (go_simp; done) | (go_simp; rfl))
    (hd : o.dst = some N := by rfl) (hgd : o.guard = none := by rfl) (hm : xs.length ≤ 9223372036854775807 := by simp) [u : Sq.Up w W] : wpList P ops Q (o :: rest) a W :=
  Kd.R_lit d (w0 := W) W.heap.size e hgd hd hrun hrep (ok := fun _ => True) (fun _ hk => hk) trivial (Below.refl _ _) (Nat.le_refl _) hm (fun v1 w1 ho hb _ _ => K v1 w1 (h.newR hb ho))
theorem SB.litN (h : SB F w0 w cs) (N : Tmp) (d : Kd α) (e : TypeId) (xs : List α) (inner : List Value) (hrep : Reps (Kd.FK d W (fun k => F k ∧ okAll cs k)) d.sz xs inner)
    (K : ∀ v1 w1, SB F w0 w1 (cs ++ [nrow d e w0.heap.size v1 xs]) → wpList P ops Q rest (a.put o.dst v1) w1)
    (hrun : (execOp a.eval o).run P W = .ok (.value (.slice (some ⟨W.heap.size, 0, none⟩) xs.length xs.length)) (W.alloc (.cells inner.toArray e)) := by first | (go_simp; done) | (go_simp; rfl))
    (hd : o.dst = some N := by rfl) (hgd : o.guard = none := by rfl) (hm : xs.length ≤ 9223372036854775807 := by simp) [u : Sq.Up w W] : wpList P ops Q (o :: rest) a W := by
  have h1 := SB.up (W := W) h
  exact Kd.N_lit d (w0 := W) W.heap.size e hgd hd hrun hrep (ok := fun k => F k ∧ okAll cs k) (fun _ hk => hk) ⟨h1.n _ h1.le, okAll_new h1.s _ (Nat.le_refl _)⟩ (Below.refl _ _) (Nat.le_refl _) hm (fun v1 w1 ho hb _ _ => K v1 w1 (h.newN hb ho (fun k hk _ => hk)))
/-- copy(v[q+1:], v[q:]), v a row of numbers of one's own. -/
theorem SB.shift_step (h : SB F w0 w cs) (i : Nat) (e : TypeId) (d s : Operand) (t t' : TypeId) (g f4 pd ps : Nat) (xs : List Int) (ht : P.underlying t = some (.slice e)) (hinfo : (P.info? e).map (·.size) = some 1)
    (hd : a.eval d = .slice (if f4 = pd then some ⟨g, 0, none⟩ else some ⟨g, pd, none⟩) (xs.length - pd) (f4 - pd)) (hs : a.eval s = .slice (if f4 = ps then some ⟨g, 0, none⟩ else some ⟨g, ps, none⟩) (xs.length - ps) (f4 - ps)) (hpd : pd = ps + 1) (hp : ps < xs.length)
    (K : ∀ w1 n, SB F w0 w1 (cs.set i (row (Kd.int .i64) e w0.heap.size (.slice (some ⟨g, 0, none⟩) xs.length f4) (xs.take pd ++ (xs.drop ps).take (xs.length - pd)))) → Kc (a.put o.dst (goInt n)) w1)
    (hi : cs[i]? = some (row (Kd.int .i64) e w0.heap.size (.slice (some ⟨g, 0, none⟩) xs.length f4) xs) := by rfl)
    (hw : Region.wanted o (yielded ops a.tmps) = true := by rfl) (ho : o.op = .call { callee := .builtin .copy, args := #[d, s], argTypes := #[t, t'] } := by rfl) [u : Sq.Up w W] :
    if Region.wanted o (yielded ops a.tmps) = true then Oper.wp P o a W Kc Q else Kc (a.put o.dst undef) W := by
  have h1 := SB.up (W := W) h
  have hR := SB.rows h1 i hi
  have hown := Kd.own_of_R hR
  rw [if_pos hw]
  rcases hown.2 with ⟨hv, _⟩ | ⟨g', cap, cur, hv, hb, hh, hnc, hcm, hcs, htake⟩
  · cases hv
  injection hv with hv1 hv2 hv3
  injection hv1 with hv1
  injection hv1 with hv1
  subst hv1 hv3
  rw [Nat.mul_one] at hcs htake
  by_cases h0 : xs.length = pd
  · have hrun := run_copy_none (P := P) W t t' o.type e (if f4 = pd then some ⟨g, 0, none⟩ else some ⟨g, pd, none⟩) (if f4 = ps then some ⟨g, 0, none⟩ else some ⟨g, ps, none⟩) (xs.length - pd) (f4 - pd) (xs.length - ps) (f4 - ps) ht hinfo (by show min (xs.length - ps) (xs.length - pd) = 0; omega)
    have e1 : xs.take pd ++ (xs.drop ps).take (xs.length - pd) = xs := by rw [← h0]; simp
    rw [e1] at K
    unfold Oper.wp
    simp [execOp, ho, resolve, invoke, builtin, hd, hs, hrun, Result.andThen]
    refine K W 0 ?_
    have e2 : cs.set i (row (Kd.int .i64) e w0.heap.size (.slice (some ⟨g, 0, none⟩) xs.length f4) xs) = cs := by
      apply List.ext_getElem?
      intro j
      by_cases hj : i = j
      · subst hj
        rw [List.getElem?_set_self (List.getElem?_eq_some_iff.1 hi).1, hi]
      · rw [List.getElem?_set_ne hj]
    rw [e2]
    exact h1
  · have hlt : pd < xs.length := by omega
    rw [if_neg (by omega)] at hd hs
    have hcl : (((xs.drop ps).take (xs.length - pd)).map (Value.int .i64)).length = xs.length - pd := by simp; omega
    have hrun := run_copy_row (P := P) W t t' o.type e g pd (xs.length - pd) (f4 - pd) ⟨g, ps, none⟩ (xs.length - ps) (f4 - ps) cur e (((xs.drop ps).take (xs.length - pd)).map (Value.int .i64)) ht hinfo hh (by rw [hcl]; show _ = min (xs.length - ps) (xs.length - pd); omega)
      (fun j v hj => by
        have hjl : j < xs.length - pd := by have := (List.getElem?_eq_some_iff.1 hj).1; omega
        have e3 : (encs (Value.int .i64) xs)[ps + j]? = some v := by
          rw [List.getElem?_map, List.getElem?_take, if_pos hjl, List.getElem?_drop] at hj
          rw [← hj, encs, List.getElem?_map]
        rw [← htake, List.getElem?_take, if_pos (by omega)] at e3
        have e4 : cur[ps + j]? = some v := by simpa using e3
        rw [add_at]
        exact (cell_of_row W g (ps + j) cur e (0, 0) hh).trans e4)
      (by rw [hcl]; omega) (fun v hv => by obtain ⟨z, _, rfl⟩ := List.mem_map.1 hv; rfl)
    unfold Oper.wp
    simp [execOp, ho, resolve, invoke, builtin, hd, hs, hrun, Result.andThen]
    refine K _ _ ?_
    have hgr : W.grownBy (W.setRow g (cur.toList.take pd ++ (((xs.drop ps).take (xs.length - pd)).map (Value.int .i64)) ++ cur.toList.drop (pd + (((xs.drop ps).take (xs.length - pd)).map (Value.int .i64)).length)).toArray) (some g) :=
      ⟨rfl, rfl, rfl, Nat.le_of_eq (size_setRow W g _).symm, fun k _ hk => setRow_other W g k _ (fun e => hk (by rw [e]))⟩
    have hnew : (W.setRow g (cur.toList.take pd ++ (((xs.drop ps).take (xs.length - pd)).map (Value.int .i64)) ++ cur.toList.drop (pd + (((xs.drop ps).take (xs.length - pd)).map (Value.int .i64)).length)).toArray).ownsRow w0.heap.size e 1 (.slice (some ⟨g, 0, none⟩) xs.length f4) xs.length (encs (Value.int .i64) (xs.take pd ++ (xs.drop ps).take (xs.length - pd))) := by
      have hl : (xs.take pd ++ (xs.drop ps).take (xs.length - pd)).length = xs.length := by simp; omega
      refine ⟨by rw [encs_length, hl, Nat.mul_one], .inr ⟨g, f4, _, rfl, hb, setRow_heap W g cur _ e (0, 0) hh, hnc, hcm, ?_, ?_⟩⟩
      · rw [hcl]; simp; omega
      · rw [hcl, show pd + (xs.length - pd) = xs.length by omega, Nat.mul_one]
        have hc1 : (cur.toList.take pd).length = pd := by simp; omega
        have hc2 : cur.toList.take pd = encs (Value.int .i64) (xs.take pd) := by
          have := congrArg (List.take pd) htake
          rw [List.take_take, Nat.min_eq_left (by omega)] at this
          rw [this]; simp [encs, List.map_take]
        rw [List.take_append_of_le_length (by rw [List.length_append, hc1, hcl]; omega), List.take_of_length_le (by rw [List.length_append, hc1, hcl]; omega), hc2, encs_append]
        simp [encs]
    have hl : (xs.take pd ++ (xs.drop ps).take (xs.length - pd)).length = xs.length := by simp; omega
    have hrow : (Kd.int .i64).R e (W.setRow g (cur.toList.take pd ++ (((xs.drop ps).take (xs.length - pd)).map (Value.int .i64)) ++ cur.toList.drop (pd + (((xs.drop ps).take (xs.length - pd)).map (Value.int .i64)).length)).toArray) w0.heap.size (fun k => F k ∧ okOf cs i k) (.slice (some ⟨g, 0, none⟩) xs.length f4) (xs.take pd ++ (xs.drop ps).take (xs.length - pd)) :=
      Kd.R_of_own (by rw [hl]; exact hnew) (fun k hk => hR.1 k hk)
    have hfin : SB F w0 _ _ := ⟨h1.s.upd i (row (Kd.int .i64) e w0.heap.size (.slice (some ⟨g, 0, none⟩) xs.length f4) (xs.take pd ++ (xs.drop ps).take (xs.length - pd))) (c := row (Kd.int .i64) e w0.heap.size (.slice (some ⟨g, 0, none⟩) xs.length f4) xs) hgr hrow (.inl rfl) hi, below_setRow h1.b hb _, h1.n⟩
    simpa using hfin
/-- v[j] = x, v a row of numbers of one's own. -/
theorem SB.putI (h : SB F w0 w cs) (i : Nat) {e n f4 g : Nat} {xs : List Int} (j x : Int) (hi : cs[i]? = some (row (Kd.int .i64) e w0.heap.size (.slice (some ⟨g, 0, none⟩) n f4) xs) := by rfl) : SB F w0 (w.setCell ⟨g, j.toNat, none⟩ (.int .i64 x)) (cs.set i (row (Kd.int .i64) e w0.heap.size (.slice (some ⟨g, 0, none⟩) n f4) (xs.set j.toNat x))) := by
  have hR := SB.rows h i hi
  obtain ⟨h1, h2⟩ := Kd.R_putg hR j x
  exact ⟨h.s.upd i (row (Kd.int .i64) e w0.heap.size (.slice (some ⟨g, 0, none⟩) n f4) (xs.set j.toNat x)) (c := row (Kd.int .i64) e w0.heap.size (.slice (some ⟨g, 0, none⟩) n f4) xs) h2 h1 (.inl rfl) hi, below_set h.b (Kd.R_base hR g rfl), h.n⟩
end
end Go.Proofs.Ytieioddimkafbaa.Sep
