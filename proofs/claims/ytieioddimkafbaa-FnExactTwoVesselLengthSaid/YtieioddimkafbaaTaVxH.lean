/- IndexFunc over vessels. -/
import Derived.Test.YtieioddimkafbaaTaViW
import Derived.Test.YtieioddimkafbaaTaVx
namespace Go.Proofs.Ytieioddimkafbaa.V
open Go.RowKit Go.Proofs.YtieioddimkafbaaW.PrintWords Go.Proofs.YtieioddimkafbaaW.PrintLast Go.Proofs.YtieioddimkafbaaW.PrintMore Go.Proofs.Ytieioddimkafbaa.Sq Go.Proofs.Ytieioddimkafbaa.Sep
attribute [local go_sem] max2_int min2_int max_two min_two max_three min_three max_four min_four
set_option linter.unusedVariables false
set_option linter.unusedSimpArgs false
theorem idxHeld_ext {α : Type} {f g : α → Bool} : ∀ (l : List α), (∀ x ∈ l, f x = g x) → l.findIdx? f = l.findIdx? g
  | [], _ => by simp
  | x :: l, h => by rw [List.findIdx?_cons, List.findIdx?_cons, h x (List.mem_cons_self ..), idxHeld_ext l (fun y hy => h y (List.mem_cons_of_mem _ hy))]
/-- Where the first element lies that answers true, where each one answers. -/
def idxO {α : Type} (f : α → Option Bool) (l : List α) : Option Int := if l.all (fun x => (f x).isSome) = true then some (Gv.idxF (fun x => f x == some true) l) else none
/-- Of the states the first one in which an amount is measured. -/
def impl_idxHeld.f (k : Nat) (l : List S35) (a : Int) : Option Int := idxO (fun x => impl_measures.f k x.f0 x.f1 a) l
/-- What is asked of a predicate at a list's elements: in every later world it answers, and what lay there lies. -/
def PredV (g : Nat) (lb : Array Value) (p : S35 → Bool) (l : List S35) (w : World) : Prop :=
  ∀ (W : World) (x : S35) (A0 : Option Addr) (c0 : Nat) (A1 : Option Addr) (c1 : Nat), x ∈ l → Below w.heap.size w W → Kd.C (Kd.int .i64) W A0 x.f0.length x.f0 → x.f0.length ≤ c0 → Kd.C (Kd.int .i64) W A1 x.f1.length x.f1 → x.f1.length ≤ c1 →
    Calls Try.prog g (#[.agg #[.slice A0 x.f0.length c0, .slice A1 x.f1.length c1]] ++ lb) W fun e w' => e = .returned (.bool (p x)) ∧ Below w.heap.size w w'
theorem rd_ves (l : List S35) (k : Nat) (h : k < l.length) : rd_T35 l (k : Int) = l[k] := by unfold rd_T35; simp [h]
set_option maxHeartbeats 2000000 in
theorem IndexFunc_ves (p : S35 → Bool) (g : Nat) (lb : Array Value) (eg : ∀ args w, (callFunc g args).run Try.prog w = .ok (.enter g args) w) (A0 : Option Addr) (c0 : Nat) (l : List S35) (w : World)
    (hr0 : Kd.C k35 w A0 l.length l) (hp : PredV g lb p l w) :
    Calls Try.prog 47 #[.slice A0 l.length c0, .func (.func g) #[] lb] w fun e w' => e = .returned (.int .i64 (Gv.idxF p l)) ∧ Below w.heap.size w w' := by
  have hu35 := Try.underlying35
  have HR0 := Aside0.mk hr0
  have HP := Aside0.mk hp
  have hn : l.length ≤ 9223372036854775807 := hr0.2.1
  clear hr0 hp
  go_enter Try.func47, Try.ntmps47
  go_wp2
  go_loopg [5, 8] l.length (fun gg _ s8 wr => ∃ kk : Nat, kk ≤ l.length ∧ l.length - kk ≤ gg ∧ s8 = .int .i64 kk ∧ Aside0 (Below w.heap.size w wr) ∧ Aside0 (∀ j (hj : j < kk) (h : j < l.length), p l[j] = false))
  case atStart => exact ⟨0, Nat.zero_le _, by omega, rfl, ⟨Below.refl _ w⟩, ⟨fun j hj => absurd hj (Nat.not_lt_zero _)⟩⟩
  case round =>
    obtain ⟨kk, hkk, hg, rfl, BW, A⟩ := hrel
    by_cases hlt : kk < l.length
    · have hltz : (kk : Int) < (l.length : Int) := by omega
      obtain ⟨ad, B0, d0, B1, d1, e0, hx0, hx1, q0, g0, q1, g1⟩ := at_T35 (Kd.C_below HR0.out BW.out) (kk : Int) (by omega) hltz
      cases e0
      rw [Int.toNat_natCast] at hx0 hx1
      have hcall := HP.out wr (rd_T35 l (kk : Int)) B0 d0 B1 d1 (by rw [rd_ves l kk hlt]; exact List.getElem_mem hlt) BW.out g0 q0 g1 q1
      have B : Aside0 (rd_T35 l (kk : Int) = l[kk]) := ⟨rd_ves l kk hlt⟩
      clear q0 g0 q1 g1
      generalize hy : rd_T35 l (kk : Int) = y at hx0 hx1 hcall B
      clear hy
      cases hq : p y with
      | true =>
        rw [hq] at hcall
        have hq' := Lib.hid hq
        clear hq
        go_wp2_with (go_at_fn g; refine hcall.mono ?_; rintro e w' ⟨rfl, hb'⟩)
        go_ret
        refine ⟨?_, hb'⟩
        rw [Gv.idxF_hit p l kk hlt (by rw [← B.out]; exact hq'.out) (fun j hj => A.out j hj (by omega))]
        rfl
      | false =>
        rw [hq] at hcall
        have hq' := Lib.hid hq
        clear hq
        go_wp2_with (go_at_fn g; refine hcall.mono ?_; rintro e w' ⟨rfl, hb'⟩)
        go_roundg (l.length - (kk + 1))
        case measure => omega
        case rel =>
          refine ⟨kk + 1, by omega, by omega, by go_num, ⟨hb'⟩, ⟨fun j hj h => ?_⟩⟩
          by_cases e : j = kk
          · subst e
            rw [← B.out]; exact hq'.out
          · exact A.out j (by omega) h
    · have hd : decide (kk < l.length) = false := by simp; omega
      go_wp2
      go_ret
      refine ⟨?_, BW.out⟩
      rw [Gv.idxF_miss p l (fun j hj => A.out j (by omega) hj)]
      rfl
set_option maxHeartbeats 2000000 in
theorem impl_holds.calls (k : Nat) (A0_0 : Option Addr) (c0_0 : Nat) (l0_0 : List Int) (A0_1 : Option Addr) (c0_1 : Nat) (l0_1 : List Int) (a1 : Int) (r : Bool) (w : World) (gb274 : Nat) (hbk274 : w.heap[gb274]? = some (.cells #[.int .i64 a1] 3 (0, 0))) (hr0_0 : Kd.C (Kd.int .i64) w A0_0 l0_0.length l0_0) (hc0_0 : l0_0.length ≤ c0_0) (hr0_1 : Kd.C (Kd.int .i64) w A0_1 l0_1.length l0_1) (hc0_1 : l0_1.length ≤ c0_1) (h : impl_measures.f k l0_0 l0_1 a1 = some r) :
  Calls Try.prog 48 #[.agg #[.slice A0_0 l0_0.length c0_0, .slice A0_1 l0_1.length c0_1], .pointer (some ⟨gb274, 0, none⟩)] w fun e w' => e = .returned (.bool r) ∧ Below w.heap.size w w' := by
 have hu35 := Try.underlying35
 have HR0_0 := Aside0.mk hr0_0
 have HC0_0 := Aside0.mk hc0_0
 clear hr0_0 hc0_0
 have HR0_1 := Aside0.mk hr0_1
 have HC0_1 := Aside0.mk hc0_1
 clear hr0_1 hc0_1
 have HB := Aside0.mk (Below.refl w.heap.size w)
 have BK274 := Aside0.mk hbk274
 clear hbk274
 have A3 := Aside0.mk h
 clear h
 go_enter Try.func48, Try.ntmps48
 go_wp2_with (first | ((with_reducible refine gate_dst (N := 2) rfl ?_); refine bx 2 #[.slice A0_0 l0_0.length c0_0, .slice A0_1 l0_1.length c0_1] 35 ?_; intro gb367 hg w4 hbox hb; have BK367 := Aside0.mk (hbox); have GW367 := ge HB hg; have GE367 := ge HB hg; replace HB := bs HB hb; replace BK274 := bb BK274 hb; clear hb hbox hg; have hcz5_0 := bc0 BK367; have hcz5_1 := bc1 BK367; have hfz5_0 := blk_frozen BK367.out 0; have hfz5_1 := blk_frozen BK367.out 1; have hcz6_0 := bc0 BK274; have hfz6_0 := blk_frozen BK274.out 0) | ((with_reducible refine gate_callee (f := 49) rfl ?_); refine gl 6 Try.func49 #[.agg #[.slice A0_0 l0_0.length c0_0, .slice A0_1 l0_1.length c0_1], .int .i64 a1] ?_; (with_reducible refine (impl_measures.calls k _ _ l0_0 _ _ l0_1 a1 r _ ?side0 ?side9 ?side1 ?side2 A3.out).mono ?_); (case side0 => exact ck HR0_0 HB); (case side9 => exact HC0_0.out); (case side1 => exact ck HR0_1 HB); (case side2 => exact HC0_1.out); rintro e w7 ⟨rfl, hb⟩; refine ⟨_, rfl, ?_⟩; replace HB := bs HB hb; (try clear hb)))
 go_ret
 exact ⟨by first | rfl | (simp [errW_none, errW_some] <;> rfl) | (simp [*, errW_none, errW_some] <;> rfl), bw HB⟩
theorem impl_idxHeld.calls (k : Nat) (A0 : Option Addr) (c0 : Nat) (l : List S35) (a1 : Int) (r : Int) (w : World) (gb274 : Nat) (hbk274 : w.heap[gb274]? = some (.cells #[.int .i64 a1] 3 (0, 0))) (hl : Kd.C k35 w A0 l.length l) (h : impl_idxHeld.f k l a1 = some r) :
    Calls Try.prog 47 #[.slice A0 l.length c0, .func (.func 48) #[] #[.pointer (some ⟨gb274, 0, none⟩)]] w fun e w' => e = .returned (.int .i64 r) ∧ Below w.heap.size w w' := by
  have eg : ∀ args w, (callFunc 48 args).run Try.prog w = .ok (.enter 48 args) w := enters_of Try.func48 (by kernel_rfl) rfl
  unfold impl_idxHeld.f idxO at h
  by_cases c : l.all (fun x => (impl_measures.f k x.f0 x.f1 a1).isSome) = true
  · rw [if_pos c] at h
    obtain rfl := Option.some.inj h
    refine IndexFunc_ves (fun x => impl_measures.f k x.f0 x.f1 a1 == some true) 48 _ eg A0 c0 l w hl (fun W x B0 d0 B1 d1 hx hb g0 q0 g1 q1 => ?_)
    obtain ⟨b, e⟩ := Option.isSome_iff_exists.mp (List.all_eq_true.mp c x hx)
    have := impl_holds.calls k B0 d0 x.f0 B1 d1 x.f1 a1 b W gb274 (blk_below hbk274 hb) g0 q0 g1 q1 e
    refine this.mono ?_
    rintro e' w' ⟨rfl, hb'⟩
    refine ⟨by simp only [e]; cases b <;> rfl, hb.trans (hb'.mono hb.size)⟩
  · rw [if_neg c] at h; cases h
end Go.Proofs.Ytieioddimkafbaa.V
