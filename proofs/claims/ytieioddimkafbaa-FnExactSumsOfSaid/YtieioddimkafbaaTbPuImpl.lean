/- Plain functions and what they come to. -/
import Derived.Test.YtieioddimkafbaaTbPuBase
import Derived.Test.YtieioddimkafbaaTbVreR
namespace Go.Proofs.Ytieioddimkafbaa.PuB
open Go.RowKit Go.Proofs.Ytieioddimkafbaa.V Go.Proofs.YtieioddimkafbaaW.PrintWords Go.Proofs.YtieioddimkafbaaW.PrintLast Go.Proofs.YtieioddimkafbaaW.PrintMore Go.Proofs.Ytieioddimkafbaa Go.Proofs.Ytieioddimkafbaa.PuB
set_option linter.unusedVariables false
set_option linter.unusedSimpArgs false
/-- The places of all. -/
def plcF : Nat → List (List Int) → List (Gv.K5 × Int)
  | _, [] => []
  | n, h :: t => (Gv.key5 h, (n : Int)) :: plcF (n + 1) t
def plc (hs : List (List Int)) : List (Gv.K5 × Int) := plcF 0 hs
theorem plcF_app : ∀ (hs : List (List Int)) (n : Nat) (h : List Int), plcF n (hs ++ [h]) = plcF n hs ++ [(Gv.key5 h, ((n + hs.length : Nat) : Int))]
  | [], n, h => rfl
  | x :: hs, n, h => by
    simp only [List.cons_append, plcF, plcF_app hs (n + 1) h, List.length_cons]
    rw [show n + 1 + hs.length = n + (hs.length + 1) by omega]
theorem plc_app (hs : List (List Int)) (h : List Int) : plc (hs ++ [h]) = plc hs ++ [(Gv.key5 h, (hs.length : Int))] := by
  unfold plc; rw [plcF_app, Nat.zero_add]
theorem plcF_len : ∀ (hs : List (List Int)) (n : Nat), (plcF n hs).length = hs.length
  | [], n => rfl
  | x :: hs, n => by simp [plcF, plcF_len hs]
theorem plc_len (hs : List (List Int)) : (plc hs).length = hs.length := plcF_len hs 0
theorem key5_inj (a b : List Int) (hl : a.length = b.length) (h5 : a.length ≤ 5) (h : Gv.key5 a = Gv.key5 b) : a = b := by
  simp only [Gv.key5, Prod.mk.injEq] at h
  obtain ⟨h0, h1, h2, h3, h4⟩ := h
  refine List.ext_getElem hl (fun i h6 h7 => ?_)
  rw [← getD_get a i 0 h6, ← getD_get b i 0 h7]
  rcases i with _ | _ | _ | _ | _ | i
  · exact h0
  · exact h1
  · exact h2
  · exact h3
  · exact h4
  · omega
theorem lk_none : ∀ (hs : List (List Int)) (n : Nat) (v : List Int), v.length ≤ 5 → (∀ h ∈ hs, h.length = v.length) → v ∉ hs → Gv.lk (plcF n hs) (Gv.key5 v) = none
  | [], _, _, _, _, _ => rfl
  | x :: hs, n, v, h5, hl, hn => by
    simp only [plcF, Gv.lk]
    rw [if_neg (fun e => hn (by rw [← key5_inj x v (hl x (List.mem_cons_self ..)) (by rw [hl x (List.mem_cons_self ..)]; exact h5) e]; exact List.mem_cons_self ..))]
    exact lk_none hs (n + 1) v h5 (fun h hh => hl h (List.mem_cons_of_mem _ hh)) (fun hh => hn (List.mem_cons_of_mem _ hh))
theorem lk_get : ∀ (hs : List (List Int)) (n i : Nat) (v : List Int), v.length ≤ 5 → (∀ h ∈ hs, h.length = v.length) → hs.Nodup → i < hs.length → hs.getD i [] = v → Gv.lk (plcF n hs) (Gv.key5 v) = some ((n + i : Nat) : Int)
  | [], _, i, _, _, _, _, h, _ => by simp at h
  | x :: hs, n, i, v, h5, hl, nd, hi, hv => by
    simp only [plcF, Gv.lk]
    cases i with
    | zero =>
      have : x = v := hv
      subst this
      rw [if_pos rfl]; rfl
    | succ i =>
      have hv' : hs.getD i [] = v := by simpa using hv
      have hi' : i < hs.length := by simpa using hi
      have hm : v ∈ hs := by rw [← hv', getD_get _ _ _ hi']; exact List.getElem_mem hi'
      rw [if_neg (fun e => ?_), lk_get hs (n + 1) i v h5 (fun h hh => hl h (List.mem_cons_of_mem _ hh)) (List.nodup_cons.1 nd).2 hi' hv', show n + 1 + i = n + (i + 1) by omega]
      have e2 := key5_inj x v (hl x (List.mem_cons_self ..)) (by rw [hl x (List.mem_cons_self ..)]; exact h5) e
      rw [e2] at nd
      exact (List.nodup_cons.1 nd).1 hm
theorem plc_some (hs : List (List Int)) (v : List Int) (h5 : v.length ≤ 5) (hl : ∀ h ∈ hs, h.length = v.length) (nd : hs.Nodup) : (Gv.lk (plc hs) (Gv.key5 v)).isSome = decide (v ∈ hs) := by
  by_cases c : v ∈ hs
  · obtain ⟨i, hi, rfl⟩ := List.getElem_of_mem c
    unfold plc
    rw [lk_get hs 0 i _ h5 hl nd hi (getD_get _ _ _ hi)]
    simp [c]
  · unfold plc
    rw [lk_none hs 0 v h5 hl c]
    simp [c]
theorem wf5_of {S H : List Int} (F : VFacts S H) : Gv.wf5 (Gv.key5 H) = true := by
  have key : ∀ i : Nat, (Lit.int .i64 (H.getD i 0)).wf = true := by
    intro i
    have : 0 ≤ H.getD i 0 ∧ H.getD i 0 ≤ 60 := by
      rcases Nat.lt_or_ge i S.length with h | h
      · have h1 := F.ht i h
        have h2 := F.sz i h
        rw [rd_nat] at h1
        omega
      · rw [List.getD_eq_getElem?_getD, List.getElem?_eq_none (by rw [F.he]; exact h)]
        simp
    simp only [Lit.wf, IntKind.min, IntKind.max, IntKind.signed, IntKind.bits, Bool.and_eq_true, decide_eq_true_eq, if_true]
    omega
  simp only [Gv.wf5, Gv.key5, key, Bool.and_self]
abbrev RI := List Vs × List (Gv.K5 × Int) × List Int × List Int × List Mv × Bool
def resI (S : List Int) : Option St → RI
  | none => ([], [], [], [], [], false)
  | some st => (st.hs.map (vs S), plc st.hs, st.dep, st.frm, st.mv, true)
theorem impl_in {S H0 : List Int} {a : Bool} {q i : Nat} (hq : q ≤ 3000) (H : List Int) (ms : List Mv) (hms : ∀ m ∈ ms, m ∈ mvs S H a) (hml : ms.length ≤ 36) (r : RI) : ∀ (d j : Nat) (st : St), j + d = ms.length → Good S H0 a q i st → i < st.hs.length → st.hs.getD i [] = H →
    (match inn S q i H (ms.drop j) st with
      | none => r = resI S none
      | some st' => Ev (fun k => impl_reachOf.l0 k a (q : Int) ((i + 1 : Nat) : Int) (st'.hs.map (vs S)) (plc st'.hs) st'.dep st'.frm st'.mv) r) →
    Ev (fun k => impl_reachOf.l1 k a (q : Int) (i : Int) ms (j : Int) (st.hs.map (vs S)) (plc st.hs) st.dep st.frm st.mv) r := by
  intro d
  induction d with
  | zero =>
    intro j st hj G hi hH h
    rw [List.drop_eq_nil_of_le (by omega)] at h
    simp only [inn] at h
    refine Ev.succ ?_
    simp only [impl_reachOf.l1]
    refine Ev.neg (by omega) ?_
    have hle := G.le
    rw [w64 (by omega) (by omega)]
    exact h
  | succ d ih =>
    intro j st hj G hi hH h
    have hjl : j < ms.length := by omega
    have hle := G.le
    have hmem : H ∈ st.hs := by rw [← hH, getD_get _ _ _ hi]; exact List.getElem_mem hi
    have F := G.F H hmem
    have hm := hms _ (List.getElem_mem hjl)
    have hmo := (mvs_mem S _ a _ hm).1
    have F2 := nxt_facts F _ _ hmo
    have hlen : ∀ h ∈ st.hs, h.length = (nxt S H ms[j].f0 ms[j].f1).length := fun h hh => by rw [G.ln h hh, nxt_len, F.he]
    have h5 : (nxt S H ms[j].f0 ms[j].f1).length ≤ 5 := by rw [nxt_len, F.he]; exact F.n1
    refine Ev.succ ?_
    simp only [impl_reachOf.l1]
    refine Ev.pos (by omega) (Ev.pos ⟨by omega, by omega, by rw [List.length_map]; omega⟩ ?_)
    rw [rdV S st.hs i hi, rdM ms j hjl, hH]
    simp only [vs]
    rw [make_impl F _ _ hmo]
    simp only [Option.bind_some]
    refine Ev.pos (wf5_of F2) ?_
    rw [plc_some st.hs _ h5 hlen G.nd, w64 (by omega) (by omega)]
    rw [List.drop_eq_getElem_cons hjl] at h
    simp only [inn] at h
    by_cases c : nxt S H ms[j].f0 ms[j].f1 ∈ st.hs
    · rw [if_pos c] at h
      refine Ev.pos (by rw [decide_eq_true c]) ?_
      have := ih (j + 1) st (by omega) G hi hH h
      exact_mod_cast this
    · rw [if_neg c] at h
      refine Ev.neg (by rw [decide_eq_false c]; decide) ?_
      by_cases c2 : st.hs.length = q
      · rw [if_pos c2] at h
        refine Ev.pos (by rw [List.length_map]; omega) ?_
        rw [h]; exact Ev.const rfl
      · rw [if_neg c2] at h
        refine Ev.neg (by rw [List.length_map]; omega) ?_
        refine Ev.pos ⟨by rw [List.length_map]; omega, by rw [plc_len]; omega, by rw [G.l1]; omega, by rw [G.l2]; omega, by rw [G.l3]; omega, by rw [G.l1]; omega⟩ ?_
        subst hH
        have G2 := good_add G hi _ hm c c2
        have P2 := Pre.add st i ms[j] (nxt S (st.hs.getD i []) ms[j].f0 ms[j].f1)
        have := ih (j + 1) _ (by omega) G2 (Nat.lt_of_lt_of_le hi P2.le) (P2.get i hi) h
        have hd : wrap64 (rd st.dep (i : Int) + 1) = rd st.dep (i : Int) + 1 := by
          have := G.dpos i hi
          rw [rd_getD]
          exact w64 (by omega) (by omega)
        rw [hd, List.length_map]
        simp only [St.add, List.map_append, List.map_cons, List.map_nil, plc_app, vs] at this
        exact_mod_cast this
theorem impl_out {S H0 : List Int} {a : Bool} {q : Nat} (hq : q ≤ 3000) : ∀ (n i : Nat) (st : St) (o : Option St), (Good S H0 a q i st ∨ ∃ j, Good S H0 a q j st ∧ st.hs.length ≤ i) → i ≤ st.hs.length → out S a q n i st = some o →
    Ev (fun k => impl_reachOf.l0 k a (q : Int) (i : Int) (st.hs.map (vs S)) (plc st.hs) st.dep st.frm st.mv) (resI S o)
  | 0, i, st, o, _, _, h => by simp [out] at h
  | n + 1, i, st, o, G, hi, h => by
    simp only [out] at h
    refine Ev.succ ?_
    simp only [impl_reachOf.l0]
    by_cases c : i < st.hs.length
    · rw [if_pos c] at h
      have G1 : Good S H0 a q i st := by
        rcases G with G | ⟨j, G, hle⟩
        · exact G
        · omega
      have hmem : st.hs.getD i [] ∈ st.hs := by rw [getD_get _ _ _ c]; exact List.getElem_mem c
      have F := G1.F _ hmem
      refine Ev.pos (by rw [List.length_map]; omega) (Ev.pos (by omega) ?_)
      rw [rdV S st.hs i c]
      simp only [vs]
      refine Ev.bind (x := mvs S (st.hs.getD i []) a) (Ev.of 100 fun k hk => mo_f F a k hk) ?_
      refine impl_in hq _ _ (fun m hm => hm) (mvs_len F a) _ _ 0 st (by rw [Nat.zero_add]) G1 c rfl ?_
      rw [List.drop_zero]
      cases e : inn S q i (st.hs.getD i []) (mvs S (st.hs.getD i []) a) st with
      | none =>
        rw [e] at h
        simp only [Option.some.injEq] at h
        rw [← h]
      | some st2 =>
        rw [e] at h
        obtain ⟨g1, g2, g3⟩ := good_inn _ _ _ _ G1 c rfl (fun m hm => hm) e
        refine impl_out (H0 := H0) hq n (i + 1) st2 o ?_ (Nat.lt_of_lt_of_le c g2.le) h
        rcases Nat.lt_or_ge (i + 1) st2.hs.length with h2 | h2
        · exact .inl (g1.up h2)
        · exact .inr ⟨i, g1, h2⟩
    · rw [if_neg c] at h
      simp only [Option.some.injEq] at h
      refine Ev.neg (by rw [List.length_map]; omega) ?_
      rw [← h]; exact Ev.const rfl
/-- What reachOf comes to. -/
theorem impl_reach {S H : List Int} (hv : VOk S H = true) (a : Bool) (q : Nat) (h1 : 1 ≤ q) (hq : q ≤ 3000) : Ev (fun k => impl_reachOf.f k S H a (q : Int)) (resI S (bfs S H a q)) := by
  unfold impl_reachOf.f
  have F := VOk.facts hv
  refine Ev.bind (x := true) (Ev.of 10 fun k hk => by rw [good_impl k S H (by have := F.n1; omega) (by have := F.n1; omega), hv]) ?_
  refine Ev.pos rfl ?_
  rw [own_impl S H (by have := F.n1; omega) (by have := F.n1; have := F.he; omega)]
  simp only [Option.bind_some]
  refine Ev.pos (wf5_of F) ?_
  exact impl_out hq _ 0 (ini H) _ (.inl (good_ini F h1)) (Nat.zero_le _) (bfs_out h1)
theorem impl_reach_no {S H : List Int} (hS : S.length ≤ 1048576) (h : VOk S H = false) (a : Bool) (q : Int) : Ev (fun k => impl_reachOf.f k S H a q) (resI S none) := by
  unfold impl_reachOf.f
  refine Ev.bind (x := false) (Ev.of 2000000 fun k hk => by rw [good_impl k S H (by omega) (by omega), h]) ?_
  exact Ev.neg (by simp) (Ev.const rfl)
end Go.Proofs.Ytieioddimkafbaa.PuB
