/- Plain functions and what they come to. -/
import Derived.Laws.BitsLemmas
import Derived.Test.YtflbcikfphfkdaaQbRx6
namespace Go.Proofs.Ytflbcikfphfkdaa.PuB
open Go.RowKit Go.Proofs.Ytflbcikfphfkdaa.R Go.Proofs.YtflbcikfphfkdaaW.PrintLast Go.Proofs.YtflbcikfphfkdaaW.PrintMore
open Go.Proofs.YtflbcikfphfkdaaW.PrintWords hiding Ev
set_option linter.unusedVariables false
set_option linter.unusedSimpArgs false
theorem w64 {x : Int} (h0 : -9223372036854775808 ≤ x) (h1 : x ≤ 9223372036854775807) : wrap64 x = x := by
  unfold wrap64; omega
/-- With enough rounds the answer is r. -/
def Ev {β : Type} (f : Nat → Option β) (r : β) : Prop := ∃ K, ∀ k, K < k → f k = some r
theorem Ev.const {β : Type} {x : Option β} {r : β} (h : x = some r) : Ev (fun _ => x) r := ⟨0, fun _ _ => h⟩
theorem Ev.succ {β : Type} {f : Nat → Option β} {r : β} (h : Ev (fun k => f (k + 1)) r) : Ev f r := by
  obtain ⟨K, h⟩ := h
  refine ⟨K + 1, fun k hk => ?_⟩
  obtain ⟨k, rfl⟩ : ∃ m, k = m + 1 := ⟨k - 1, by omega⟩
  exact h k (by omega)
theorem Ev.bind {α β : Type} {f : Nat → Option α} {g : Nat → α → Option β} {x : α} {r : β} (h1 : Ev f x) (h2 : Ev (fun k => g k x) r) : Ev (fun k => (f k).bind (g k)) r := by
  obtain ⟨K1, h1⟩ := h1
  obtain ⟨K2, h2⟩ := h2
  exact ⟨K1 + K2, fun k hk => by show (f k).bind (g k) = some r; rw [h1 k (by omega)]; exact h2 k (by omega)⟩
theorem in_spec (a b c : Int) : spec_l1In.f a b c = some (decide (b ≤ a ∧ a ≤ c)) := by
  unfold spec_l1In.f
  by_cases h : a ≥ b
  · rw [if_pos h]; congr 1; simp [show b ≤ a from h]
  · rw [if_neg h]; congr 1; simp [show ¬ b ≤ a from h]
theorem in_impl (a b c : Int) : impl_within.f a b c = some (decide (b ≤ a ∧ a ≤ c)) := by
  unfold impl_within.f
  by_cases h : b ≤ a
  · rw [if_pos h]; congr 1; simp [h]
  · rw [if_neg h]; congr 1; simp [h]
theorem rd_nat (l : List Int) (i : Nat) : rd l (i : Int) = l.getD i 0 := by unfold rd; simp
theorem drop_rd (l : List Int) (i : Nat) (h : i < l.length) : l.drop i = rd l (i : Int) :: l.drop (i + 1) := by
  rw [rd_nat, List.drop_eq_getElem_cons h]; simp [h]
theorem all_l0 (lo hi : Int) (l : List Int) (hb : l.length ≤ 17592186044416) : ∀ (d k i : Nat), i + d = l.length → d < k →
    spec_l1All.l0 k lo hi l (l.length : Int) (i : Int) = some ((l.drop i).all fun x => decide (lo ≤ x ∧ x ≤ hi)) := by
  intro d
  induction d with
  | zero =>
    intro k i hi hk
    obtain ⟨k, rfl⟩ : ∃ m, k = m + 1 := ⟨k - 1, by omega⟩
    simp only [spec_l1All.l0]; rw [if_neg (by omega), List.drop_of_length_le (by omega)]; rfl
  | succ d ih =>
    intro k i hi hk
    obtain ⟨k, rfl⟩ : ∃ m, k = m + 1 := ⟨k - 1, by omega⟩
    simp only [spec_l1All.l0]
    rw [if_pos (by omega), if_pos (by omega), if_pos (by omega), in_spec, drop_rd l i (by omega)]
    simp only [Option.bind_some, List.all_cons]
    have ih' := ih k (i + 1) (by omega) (by omega)
    rw [w64 (by omega) (by omega), show ((i : Int) + 1) = ((i + 1 : Nat) : Int) by simp]
    split
    · rename_i h; rw [ih', h, Bool.true_and]
    · rename_i h; rw [Bool.eq_false_iff.mpr h, Bool.false_and]
theorem all_f (k : Nat) (l : List Int) (lo hi : Int) (hb : l.length ≤ 17592186044416) (hk : l.length < k) : spec_l1All.f k l lo hi = some (l.all fun x => decide (lo ≤ x ∧ x ≤ hi)) := by
  unfold spec_l1All.f
  have := all_l0 lo hi l hb l.length k 0 (by omega) hk
  simpa using this
theorem u64_wrap (n : Int) : IntKind.u64.wrap n = n % 18446744073709551616 := by simp [IntKind.wrap, IntKind.bits, IntKind.signed]
theorem u64_and255 (x : Int) (h0 : 0 ≤ x) (h1 : x < 18446744073709551616) : Go.bits .and .u64 x 255 = x % 256 :=
  bits_mask .u64 64 (by decide) (fun n a b => by rw [u64_wrap]; omega) 8 (by decide) x h0 h1
/-- the drawn bytes -/
def Bytes (l : List Int) : Prop := (∀ x ∈ l, 0 ≤ x ∧ x ≤ 255) ∧ l.length ≤ 140737488351232
theorem bytes_of (l : List Int) (h : l.length * 1 ≤ 140737488351232) (hw : ∀ x ∈ l, (Lit.int .u8 x).wf = true) : Bytes l := by
  refine ⟨fun x hx => ?_, by omega⟩
  have := hw x hx
  simp only [Lit.wf, IntKind.min, IntKind.max, IntKind.signed, IntKind.bits, Bool.and_eq_true, decide_eq_true_eq, Bool.false_eq_true, if_false] at this
  omega
theorem bytes_rd {l : List Int} (h : Bytes l) (i : Int) : 0 ≤ rd l i ∧ rd l i ≤ 255 := by
  unfold rd
  rw [List.getD_eq_getElem?_getD]
  cases e : l[i.toNat]? with
  | none => simp
  | some x => exact h.1 x (List.mem_of_getElem? e)
theorem next_ok {l : List Int} (h : Bytes l) (p s : Int) (h0 : 0 ≤ p) (h1 : p ≤ 1000000000000000000) : ∃ r s', spec_l1Cur_next.f l p s = some (r, p + 1, s') ∧ 0 ≤ r ∧ r ≤ 255 := by
  have hl := h.2
  unfold spec_l1Cur_next.f
  rw [w64 (x := p + 1) (by omega) (by omega)]
  by_cases c : p < (l.length : Int)
  · have hb := bytes_rd h p
    rw [if_pos c, if_pos h0, if_pos (by omega), w64 (x := rd l p) (by omega) (by omega)]
    exact ⟨_, _, rfl, hb.1, hb.2⟩
  · rw [if_neg c, if_neg (by omega)]
    refine ⟨_, _, rfl, ?_⟩
    generalize hx : IntKind.u64.wrap _ = x
    have hx0 : 0 ≤ x ∧ x < 18446744073709551616 := by rw [← hx, u64_wrap]; omega
    have hd : 0 ≤ x / 1099511627776 ∧ x / 1099511627776 < 18446744073709551616 := by omega
    rw [u64_and255 _ hd.1 hd.2, w64 (by omega) (by omega)]; omega
theorem pick_ok {l : List Int} (h : Bytes l) (p s n : Int) (h0 : 0 ≤ p) (h1 : p ≤ 100000000000000000) (hn : n ≤ 60000) :
    ∃ r p' s', spec_l1Cur_pick.f l p s n = some (r, p', s') ∧ p ≤ p' ∧ p' ≤ p + 2 ∧ 0 ≤ r ∧ (1 ≤ n → r < n) := by
  unfold spec_l1Cur_pick.f
  by_cases c : n ≤ 1
  · rw [if_pos c]; exact ⟨_, _, _, rfl, by omega, by omega, by omega, fun _ => by omega⟩
  · rw [if_neg c]
    obtain ⟨r, s1, e, r0, r1⟩ := next_ok h p s h0 (by omega)
    rw [e]; simp only [Option.bind_some]
    by_cases d : n > 200
    · rw [if_pos d]
      obtain ⟨u, s2, e2, u0, u1⟩ := next_ok h (p + 1) s1 (by omega) (by omega)
      rw [e2]; simp only [Option.bind_some]
      rw [if_neg (by omega), w64 (x := r * 256) (by omega) (by omega), w64 (by omega) (by omega)]
      refine ⟨_, _, _, rfl, by omega, by omega, ?_, fun _ => ?_⟩
      · exact Int.tmod_nonneg _ (by omega)
      · exact Int.tmod_lt_of_pos _ (by omega)
    · rw [if_neg d, if_neg (by omega)]
      refine ⟨_, _, _, rfl, by omega, by omega, ?_, fun _ => ?_⟩
      · exact Int.tmod_nonneg _ (by omega)
      · exact Int.tmod_lt_of_pos _ (by omega)
theorem among_ok {l : List Int} (h : Bytes l) (p s : Int) (xs : List Int) (h0 : 0 ≤ p) (h1 : p ≤ 100000000000000000) (hx : 1 ≤ xs.length) (hx2 : xs.length ≤ 200) :
    ∃ r p' s', spec_l1Cur_among.f l p s xs = some (r, p', s') ∧ p ≤ p' ∧ p' ≤ p + 2 ∧ r ∈ xs := by
  unfold spec_l1Cur_among.f
  obtain ⟨r, p', s', e, a, b, c, d⟩ := pick_ok h p s (xs.length : Int) h0 h1 (by omega)
  have d := d (by omega)
  rw [e]; simp only [Option.bind_some]
  rw [if_pos c, if_pos d]
  refine ⟨_, _, _, rfl, a, b, ?_⟩
  unfold rd
  rw [List.getD_eq_getElem?_getD, List.getElem?_eq_getElem (by omega)]
  exact List.getElem_mem _
theorem one_ok {l : List Int} (h : Bytes l) (p s n : Int) (h0 : 0 ≤ p) (h1 : p ≤ 100000000000000000) (hn : n ≤ 60000) :
    ∃ b p' s', spec_l1Cur_one.f l p s n = some (b, p', s') ∧ p ≤ p' ∧ p' ≤ p + 2 := by
  unfold spec_l1Cur_one.f
  obtain ⟨r, p', s', e, a, b, _⟩ := pick_ok h p s n h0 h1 hn
  rw [e]; exact ⟨_, _, _, rfl, a, b⟩
def sm (l : List Int) : Int := l.foldr (fun x s => x + s) 0
@[simp] theorem sm_nil : sm [] = 0 := rfl
@[simp] theorem sm_cons (x : Int) (l : List Int) : sm (x :: l) = x + sm l := rfl
def BOk (b : S30) : Prop := (1 ≤ b.f0 ∧ b.f0 ≤ 1000) ∧ (0 ≤ b.f1 ∧ b.f1 ≤ 1000) ∧ (0 ≤ b.f2 ∧ b.f2 ≤ b.f0)
instance (b : S30) : Decidable (BOk b) := by unfold BOk; infer_instance
def AllB (row : List S30) : Prop := ∀ b ∈ row, BOk b
instance (row : List S30) : Decidable (AllB row) := by unfold AllB; infer_instance
def ROk (row : List S30) : Prop := (1 ≤ row.length ∧ row.length ≤ 6) ∧ AllB row
instance (row : List S30) : Decidable (ROk row) := by unfold ROk; infer_instance
def FOk (l : List Int) : Prop := l.length ≤ 60 ∧ ∀ x ∈ l, 0 ≤ x ∧ x ≤ 1000
instance (l : List Int) : Decidable (FOk l) := by unfold FOk; infer_instance
/-- what spills of a basin, and what runs out -/
def spB (b : S30) (f : Int) : Int := if b.f2 + f - b.f0 > 0 then b.f2 + f - b.f0 else 0
def rnB (b : S30) (f : Int) : Int := if b.f2 + f - spB b f < b.f1 then b.f2 + f - spB b f else b.f1
def nxB (b : S30) (f : Int) : S30 := ⟨b.f0, b.f1, b.f2 + f - spB b f - rnB b f⟩
def tkR : List S30 → Int → List S30 × List Int × Int
  | [], f => ([], [], f)
  | b :: row, f => (nxB b f :: (tkR row (spB b f + rnB b f)).1, spB b f :: (tkR row (spB b f + rnB b f)).2.1, (tkR row (spB b f + rnB b f)).2.2)
def hld (row : List S30) : Int := sm (row.map (·.f2))
@[simp] theorem hld_nil : hld [] = 0 := rfl
@[simp] theorem hld_cons (b : S30) (row : List S30) : hld (b :: row) = b.f2 + hld row := rfl
theorem spB_ok {b : S30} {f : Int} (h : BOk b) (h0 : 0 ≤ f) : 0 ≤ spB b f ∧ b.f2 + f - spB b f ≤ b.f0 ∧ 0 ≤ b.f2 + f - spB b f ∧ (spB b f > 0 → b.f2 + f - spB b f = b.f0) := by
  obtain ⟨a, c, d⟩ := h
  unfold spB; split <;> omega
theorem rnB_ok {b : S30} {f : Int} (h : BOk b) (h0 : 0 ≤ f) : 0 ≤ rnB b f ∧ rnB b f ≤ b.f1 ∧ rnB b f ≤ b.f2 + f - spB b f ∧ (rnB b f = b.f1 ∨ rnB b f = b.f2 + f - spB b f) := by
  have := spB_ok h h0
  obtain ⟨a, c, d⟩ := h
  unfold rnB; split <;> omega
theorem nxB_ok {b : S30} {f : Int} (h : BOk b) (h0 : 0 ≤ f) : BOk (nxB b f) := by
  have s := spB_ok h h0
  have r := rnB_ok h h0
  obtain ⟨a, c, d⟩ := h
  exact ⟨a, c, by show 0 ≤ b.f2 + f - spB b f - rnB b f; omega, by show b.f2 + f - spB b f - rnB b f ≤ b.f0; omega⟩
theorem tkR_ok : ∀ (row : List S30) (f : Int), AllB row → 0 ≤ f → AllB (tkR row f).1 ∧ (tkR row f).1.length = row.length ∧ (tkR row f).2.1.length = row.length ∧ (∀ x ∈ (tkR row f).2.1, 0 ≤ x) ∧ 0 ≤ (tkR row f).2.2 ∧ hld row + f = hld (tkR row f).1 + (tkR row f).2.2
  | [], f, _, h0 => by simp [tkR, AllB, h0]
  | b :: row, f, h, h0 => by
    have hb := h b (List.mem_cons_self ..)
    have s := spB_ok hb h0
    have r := rnB_ok hb h0
    have n := nxB_ok hb h0
    obtain ⟨i1, i2, i3, i4, i5, i6⟩ := tkR_ok row (spB b f + rnB b f) (fun y hy => h y (List.mem_cons_of_mem _ hy)) (by omega)
    refine ⟨?_, by simp [tkR, i2], by simp [tkR, i3], ?_, i5, ?_⟩
    · intro y hy
      rcases List.mem_cons.mp hy with e | e
      · subst e; exact n
      · exact i1 y e
    · intro y hy
      rcases List.mem_cons.mp hy with e | e
      · subst e; exact s.1
      · exact i4 y e
    · simp only [tkR, hld_cons]
      show b.f2 + hld row + f = b.f2 + f - spB b f - rnB b f + hld _ + _
      omega
theorem hld_le : ∀ (row : List S30), AllB row → 0 ≤ hld row ∧ hld row ≤ 1000 * (row.length : Int)
  | [], _ => by simp
  | b :: row, h => by
    have hb := h b (List.mem_cons_self ..)
    have i := hld_le row (fun y hy => h y (List.mem_cons_of_mem _ hy))
    obtain ⟨a, c, d⟩ := hb
    simp only [hld_cons, List.length_cons]; omega
theorem tkR_sp : ∀ (row : List S30) (f : Int), AllB row → 0 ≤ f → ∀ x ∈ (tkR row f).2.1, x ≤ f + hld row
  | [], f, _, _ => by simp [tkR]
  | b :: row, f, h, h0 => by
    have hb := h b (List.mem_cons_self ..)
    have s := spB_ok hb h0
    have r := rnB_ok hb h0
    have hl := hld_le row (fun y hy => h y (List.mem_cons_of_mem _ hy))
    have i := tkR_sp row (spB b f + rnB b f) (fun y hy => h y (List.mem_cons_of_mem _ hy)) (by omega)
    have q := hb.2.2
    intro y hy
    simp only [hld_cons]
    rcases List.mem_cons.mp hy with e | e
    · subst e; omega
    · have := i y e; omega
/-- a tick of two rows, one behind the other -/
theorem tkR_append : ∀ (a b : List S30) (f : Int), tkR (a ++ b) f = ((tkR a f).1 ++ (tkR b (tkR a f).2.2).1, (tkR a f).2.1 ++ (tkR b (tkR a f).2.2).2.1, (tkR b (tkR a f).2.2).2.2)
  | [], b, f => by simp [tkR]
  | x :: a, b, f => by simp [tkR, tkR_append a b]
/-- a run, tick by tick -/
def rnR : List S30 → List Int → List (List S30 × List Int × Int)
  | _, [] => []
  | row, f :: l => tkR row f :: rnR (tkR row f).1 l
def endR : List S30 → List Int → List S30
  | row, [] => row
  | row, f :: l => endR (tkR row f).1 l
theorem rnR_len : ∀ (l : List Int) (row : List S30), (rnR row l).length = l.length
  | [], _ => rfl
  | f :: l, row => by simp [rnR, rnR_len l]
theorem rnR_all : ∀ (l : List Int) (row : List S30), AllB row → row.length ≤ 6 → (∀ x ∈ l, 0 ≤ x ∧ x ≤ 1000) → ∀ t ∈ rnR row l, AllB t.1 ∧ t.1.length = row.length ∧ t.2.1.length = row.length ∧ (∀ x ∈ t.2.1, 0 ≤ x ∧ x ≤ 7000) ∧ 0 ≤ t.2.2
  | [], _, _, _, _ => by simp [rnR]
  | f :: l, row, h, h6, hl => by
    have hf := hl f (List.mem_cons_self ..)
    have t := tkR_ok row f h hf.1
    intro y hy
    rcases List.mem_cons.mp hy with e | e
    · subst e
      refine ⟨t.1, t.2.1, t.2.2.1, fun x hx => ⟨t.2.2.2.1 x hx, ?_⟩, t.2.2.2.2.1⟩
      have := tkR_sp row f h hf.1 x hx
      have := hld_le row h
      omega
    · have i := rnR_all l _ t.1 (by rw [t.2.1]; exact h6) (fun x hx => hl x (List.mem_cons_of_mem _ hx)) y e
      rw [t.2.1] at i; exact i
theorem endR_ok : ∀ (l : List Int) (row : List S30), AllB row → (∀ x ∈ l, 0 ≤ x ∧ x ≤ 1000) → AllB (endR row l) ∧ (endR row l).length = row.length
  | [], row, h, _ => ⟨h, rfl⟩
  | f :: l, row, h, hl => by
    have hf := hl f (List.mem_cons_self ..)
    have t := tkR_ok row f h hf.1
    have i := endR_ok l _ t.1 (fun x hx => hl x (List.mem_cons_of_mem _ hx))
    rw [t.2.1] at i; exact i
/-- sums of lists, number by number -/
def addL : List Int → List Int → List Int
  | x :: a, y :: b => (x + y) :: addL a b
  | a, [] => a
  | [], _ => []
theorem addL_len : ∀ a b : List Int, (addL a b).length = a.length
  | [], [] => rfl
  | [], _ :: _ => rfl
  | x :: a, [] => rfl
  | x :: a, y :: b => by simp [addL, addL_len a b]
/-- all spills together -/
def splA : List Int → List (List Int) → List Int
  | acc, [] => acc
  | acc, s :: l => splA (addL acc s) l
theorem splA_len : ∀ (l : List (List Int)) (acc : List Int), (splA acc l).length = acc.length
  | [], _ => rfl
  | s :: l, acc => by simp [splA, splA_len l, addL_len]
theorem sm_nonneg : ∀ (l : List Int), (∀ x ∈ l, 0 ≤ x) → 0 ≤ sm l
  | [], _ => by simp
  | x :: l, h => by have := h x (List.mem_cons_self ..); have := sm_nonneg l (fun y hy => h y (List.mem_cons_of_mem _ hy)); simp only [sm_cons]; omega
theorem endR_append : ∀ (a b : List Int) (row : List S30), endR row (a ++ b) = endR (endR row a) b
  | [], b, row => rfl
  | f :: a, b, row => by simp [endR, endR_append a b]
theorem endR_join : ∀ (l : List Int) (a b : List S30), endR (a ++ b) l = endR a l ++ endR b ((rnR a l).map (·.2.2))
  | [], a, b => by simp [endR, rnR]
  | f :: l, a, b => by simp [endR, rnR, tkR_append, endR_join l]
end Go.Proofs.Ytflbcikfphfkdaa.PuB
