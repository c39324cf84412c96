/- slices.IndexFunc and slices.ContainsFunc over whole numbers, at any predicate that answers and leaves what lay before; impl.areWithin: all numbers of a list lie in some bounds. -/
import Derived.Test.YtflbcikfphfkdaaProg
import Derived.Below
import Derived.OwnWalk
import Derived.Tactics
import Derived.WalkKit
import Derived.KernelRfl
import Derived.RowKit3
import Derived.Deep.LoopGhost
import Derived.Deep.QuietTactic
import Derived.BigQuiet
import Derived.Lib.Hide
import Derived.Shelf.Abstract
import Derived.Test.YtflbcikfphfkdaaQbWWords
import Derived.Test.YtflbcikfphfkdaaQbWLast
import Derived.Test.YtflbcikfphfkdaaQbWMore
namespace Go.Proofs.Ytflbcikfphfkdaa.Gv
open Go.RowKit Go.Proofs.YtflbcikfphfkdaaW.PrintWords Go.Proofs.YtflbcikfphfkdaaW.PrintLast Go.Proofs.YtflbcikfphfkdaaW.PrintMore Go.Lib Go.Shelf
set_option linter.unusedVariables false
set_option linter.unusedSimpArgs false
/-- What is asked of a predicate: in every later world it answers, and what lay there lies. -/
def PredB {α : Type} (g : Nat) (lb : Array Value) (enc : α → Value) (p : α → Bool) (w : World) : Prop :=
  ∀ (W : World) (x : α), Below w.heap.size w W → Calls Try.prog g (#[enc x] ++ lb) W fun e w' => e = .returned (.bool (p x)) ∧ Below w.heap.size w w'
/-- The index of the first element of which p holds, or -1. -/
def idxF {α : Type} (p : α → Bool) (l : List α) : Int := match l.findIdx? p with | some i => i | none => -1
theorem idxF_hit {α : Type} (p : α → Bool) (l : List α) (k : Nat) (hk : k < l.length) (h : p l[k] = true) (hb : ∀ j (hj : j < k), p (l[j]'(by omega)) = false) : idxF p l = k := by
  unfold idxF
  have : l.findIdx? p = some k := by
    rw [List.findIdx?_eq_some_iff_getElem]
    exact ⟨hk, h, fun j hj => by simp [hb j hj]⟩
  rw [this]
theorem idxF_miss {α : Type} (p : α → Bool) (l : List α) (hb : ∀ j (hj : j < l.length), p l[j] = false) : idxF p l = -1 := by
  unfold idxF
  have : l.findIdx? p = none := by
    rw [List.findIdx?_eq_none_iff]
    intro x hx
    obtain ⟨j, hj, rfl⟩ := List.getElem_of_mem hx
    exact hb j hj
  rw [this]
theorem idxF_any {α : Type} (p : α → Bool) (l : List α) : decide (idxF p l ≥ 0) = l.any p := by
  unfold idxF
  cases h : l.findIdx? p with
  | none =>
    rw [List.findIdx?_eq_none_iff] at h
    have : l.any p = false := by rw [List.any_eq_false]; intro x hx; simp [h x hx]
    rw [this]; rfl
  | some i =>
    rw [List.findIdx?_eq_some_iff_getElem] at h
    obtain ⟨hi, hp, _⟩ := h
    have : l.any p = true := List.any_eq_true.mpr ⟨_, List.getElem_mem hi, hp⟩
    rw [this]; simp
theorem rd_getElem (l : List Int) (k : Nat) (h : k < l.length) : rd l (k : Int) = l[k] := by unfold rd; simp [h]
set_option maxHeartbeats 2000000 in
theorem IndexFunc_int (p : Int → Bool) (g : Nat) (lb : Array Value) (eg : ∀ args w, (callFunc g args).run Try.prog w = .ok (.enter g args) w) (A0 : Option Addr) (c0 : Nat) (l : List Int) (w : World)
    (hr0 : Kd.C (Kd.int .i64) w A0 l.length l) (hp : PredB g lb (Value.int .i64) p w) :
    Calls Try.prog 70 #[.slice A0 l.length c0, .func (.func g) #[] lb] w fun e w' => e = .returned (.int .i64 (idxF p l)) ∧ Below w.heap.size w w' := by
  have HR0 := Aside0.mk hr0
  have HP := Aside0.mk hp
  have hn : l.length ≤ 9223372036854775807 := hr0.2.1
  clear hr0 hp
  go_enter Try.func70, Try.ntmps70
  go_wp2
  go_loopg [5, 8] l.length (fun gg _ s8 wr => ∃ kk : Nat, kk ≤ l.length ∧ l.length - kk ≤ gg ∧ s8 = .int .i64 kk ∧ Aside0 (Below w.heap.size w wr) ∧ Aside0 (∀ j (hj : j < kk) (h : j < l.length), p l[j] = false))
  case atStart => exact ⟨0, Nat.zero_le _, by omega, rfl, ⟨Below.refl _ w⟩, ⟨fun j hj => absurd hj (Nat.not_lt_zero _)⟩⟩
  case round =>
    obtain ⟨kk, hkk, hg, rfl, BW, A⟩ := hrel
    by_cases hlt : kk < l.length
    · have hltz : (kk : Int) < (l.length : Int) := by omega
      obtain ⟨ad, e0, hx0⟩ := Kd.at_int (Kd.C_below HR0.out BW.out) (kk : Int) (by omega) hltz
      cases e0
      rw [Int.toNat_natCast] at hx0
      have hcall := HP.out wr (rd l (kk : Int)) BW.out
      have B : Aside0 (rd l (kk : Int) = l[kk]) := ⟨rd_getElem l kk hlt⟩
      generalize hy : rd l (kk : Int) = y at hx0 hcall B
      clear hy
      cases hq : p y with
      | true =>
        rw [hq] at hcall
        have hq' := Lib.hid hq
        clear hq
        go_wp2_with (go_at_fn g; refine hcall.mono ?_; rintro e w' ⟨rfl, hb'⟩)
        go_ret
        refine ⟨?_, hb'⟩
        rw [idxF_hit p l kk hlt (by rw [← B.out]; exact hq'.out) (fun j hj => A.out j hj (by omega))]
        rfl
      | false =>
        rw [hq] at hcall
        have hq' := Lib.hid hq
        clear hq
        go_wp2_with (go_at_fn g; refine hcall.mono ?_; rintro e w' ⟨rfl, hb'⟩)
        go_roundg (l.length - (kk + 1))
        case measure => omega
        case rel =>
          refine ⟨kk + 1, by omega, by omega, by go_num, ⟨hb'⟩, ⟨fun j hj h => ?_⟩⟩
          by_cases e : j = kk
          · subst e
            rw [← B.out]; exact hq'.out
          · exact A.out j (by omega) h
    · have hd : decide (kk < l.length) = false := by simp; omega
      go_wp2
      go_ret
      refine ⟨?_, BW.out⟩
      rw [idxF_miss p l (fun j hj => A.out j (by omega) hj)]
      rfl
set_option maxHeartbeats 2000000 in
theorem ContainsFunc_int (p : Int → Bool) (g : Nat) (lb : Array Value) (eg : ∀ args w, (callFunc g args).run Try.prog w = .ok (.enter g args) w) (A0 : Option Addr) (c0 : Nat) (l : List Int) (w : World)
    (hr0 : Kd.C (Kd.int .i64) w A0 l.length l) (hp : PredB g lb (Value.int .i64) p w) :
    Calls Try.prog 83 #[.slice A0 l.length c0, .func (.func g) #[] lb] w fun e w' => e = .returned (.bool (l.any p)) ∧ Below w.heap.size w w' := by
  have H := Lib.hid (idxF_any p l)
  have HC := IndexFunc_int p g lb eg A0 c0 l w hr0 hp
  clear hr0 hp
  generalize idxF p l = r at H HC
  go_enter Try.func83, Try.ntmps83
  go_wp2_with (go_at_call 70; refine HC.mono ?_; rintro e w' ⟨rfl, hb'⟩)
  go_ret
  exact ⟨by rw [← H.out]; rfl, hb'⟩
/-- The predicate of areWithin: outside of the bounds. -/
theorem pred_within (a b : Int) (B : Nat) (w : World) (hB : B + 1 < w.heap.size) (h0 : w.cell? ⟨B, 0, none⟩ = some (.int .i64 a)) (h1 : w.cell? ⟨B + 1, 0, none⟩ = some (.int .i64 b)) :
    PredB 84 #[.pointer (some ⟨B, 0, none⟩), .pointer (some ⟨B + 1, 0, none⟩)] (Value.int .i64) (fun x => !decide (a ≤ x ∧ x ≤ b)) w := fun W x hb => by
  have hc0 : W.cell? ⟨B, 0, none⟩ = some (.int .i64 a) := (hb.cell (p := ⟨B, 0, none⟩) (by show B < _; omega)).trans h0
  have hc1 : W.cell? ⟨B + 1, 0, none⟩ = some (.int .i64 b) := (hb.cell (p := ⟨B + 1, 0, none⟩) hB).trans h1
  show Calls Try.prog 84 #[.int .i64 x, .pointer (some ⟨B, 0, none⟩), .pointer (some ⟨B + 1, 0, none⟩)] W _
  have HB := Lib.hid hb
  clear h0 h1 hb
  by_cases c0 : a ≤ x
  · by_cases c1 : x ≤ b
    · go_enter Try.func84, Try.ntmps84
      go_wp2
      go_ret
      exact ⟨by simp [c0, c1], by first | exact HB.out | exact pw_below_drewN HB.out _⟩
    · go_enter Try.func84, Try.ntmps84
      go_wp2
      go_ret
      exact ⟨by simp [c0, c1], by first | exact HB.out | exact pw_below_drewN HB.out _⟩
  · go_enter Try.func84, Try.ntmps84
    go_wp2
    go_ret
    exact ⟨by simp [c0], by first | exact HB.out | exact pw_below_drewN HB.out _⟩
set_option maxHeartbeats 2000000 in
theorem areWithin_calls (A0 : Option Addr) (c0 : Nat) (l : List Int) (a b : Int) (w : World) (hr0 : Kd.C (Kd.int .i64) w A0 l.length l) :
    Calls Try.prog 73 #[.slice A0 l.length c0, .int .i64 a, .int .i64 b] w fun e w' => e = .returned (.bool (l.all fun x => decide (a ≤ x ∧ x ≤ b))) ∧ Below w.heap.size w w' := by
  have eg : ∀ args w, (callFunc 84 args).run Try.prog w = .ok (.enter 84 args) w := enters_of Try.func84 (by kernel_rfl) rfl
  have hB : Below w.heap.size w ((w.alloc (.cells #[.int .i64 a] 3)).alloc (.cells #[.int .i64 b] 3)) := ((Below.refl _ _).alloc (Nat.le_refl _) _).alloc (by simp) _
  have HC := ContainsFunc_int (fun x => !decide (a ≤ x ∧ x ≤ b)) 84 #[.pointer (some ⟨w.heap.size, 0, none⟩), .pointer (some ⟨w.heap.size + 1, 0, none⟩)] eg A0 c0 l
    ((w.alloc (.cells #[.int .i64 a] 3)).alloc (.cells #[.int .i64 b] 3)) (Kd.C_below hr0 hB) (pred_within a b w.heap.size _ (by simp) (by simp) (by simp))
  have HN := Lib.hid (show (!(l.any fun x => !decide (a ≤ x ∧ x ≤ b))) = l.all (fun x => decide (a ≤ x ∧ x ≤ b)) by simp [List.all_eq_not_any_not])
  generalize (l.any fun x => !decide (a ≤ x ∧ x ≤ b)) = q at HC HN
  generalize (l.all fun x => decide (a ≤ x ∧ x ≤ b)) = r at HN
  have HBW := Lib.hid hB
  clear hB hr0
  go_enter Try.func73, Try.ntmps73
  go_wp2_with (go_at_call 83; refine HC.mono ?_; rintro e w' ⟨rfl, hb'⟩)
  go_ret
  exact ⟨by rw [← HN.out]; rfl, HBW.out.trans (hb'.mono HBW.out.size)⟩
end Go.Proofs.Ytflbcikfphfkdaa.Gv
