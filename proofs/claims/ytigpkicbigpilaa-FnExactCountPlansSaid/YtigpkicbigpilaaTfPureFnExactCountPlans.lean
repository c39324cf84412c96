/- FnExactCountPlans: what the law's Go functions compute, as plain functions, and that the law holds of them at all arguments. -/
import Derived.Test.YtigpkicbigpilaaTfPuLaw
import Derived.Test.YtigpkicbigpilaaTfPuFind
import Derived.Test.YtigpkicbigpilaaTfPuNd
import Derived.Test.YtigpkicbigpilaaTfLPx1
namespace Go.Proofs.Ytigpkicbigpilaa.Pure
open Go.RowKit Go.Proofs.Ytigpkicbigpilaa.V Go.Proofs.Ytigpkicbigpilaa Go.Proofs.Ytigpkicbigpilaa.PuB Go.Proofs.YtigpkicbigpilaaW.PrintLast Go.Proofs.YtigpkicbigpilaaW.PrintMore
open Go.Proofs.YtigpkicbigpilaaW.PrintWords hiding Ev
set_option linter.unusedVariables false
set_option linter.unusedSimpArgs false
/-- One move's part in the numbers of plans. -/
def wst (S : List Int) (st : St) (i : Nat) (w : List Int) (m : Mv) : List Int := if st.dep.getD (st.hs.idxOf (nxt S (st.hs.getD i []) m.f0 m.f1)) 0 = wrap64 (st.dep.getD i 0 + 1) then w.set (st.hs.idxOf (nxt S (st.hs.getD i []) m.f0 m.f1)) (wrap64 (w.getD (st.hs.idxOf (nxt S (st.hs.getD i []) m.f0 m.f1)) 0 + w.getD i 0)) else w
theorem wst_len (S : List Int) (st : St) (i : Nat) (w : List Int) (m : Mv) : (wst S st i w m).length = w.length := by unfold wst; split <;> simp
theorem wfold_len (S : List Int) (st : St) (i : Nat) : ∀ (ms : List Mv) (w : List Int), (ms.foldl (wst S st i) w).length = w.length
  | [], w => rfl
  | m :: ms, w => by rw [List.foldl_cons, wfold_len S st i ms, wst_len]
def wfin (S : List Int) (a : Bool) (st : St) : Nat → Nat → List Int → List Int
  | 0, _, w => w
  | d + 1, i, w => wfin S a st d (i + 1) ((mvs S (st.hs.getD i []) a).foldl (wst S st i) w)
theorem at_idx {hs : List (List Int)} {ol : List Nat} {v : List Int} {p : Nat} (O : PuB.Ord hs ol) (A : AtP hs ol v p) (nd : hs.Nodup) (c : v ∈ hs) : p < ol.length ∧ ol.getD p 0 = hs.idxOf v ∧ hs.idxOf v < hs.length := by
  obtain ⟨h1, h2⟩ := (atP_mem O A).1 c
  have hi : hs.idxOf v < hs.length := List.idxOf_lt_length_iff.2 c
  refine ⟨h1, ?_, hi⟩
  refine nodup_idx nd (O.ltD p h1) hi ?_
  rw [← getD_get hs _ [] (O.ltD p h1), h2]
  exact (List.getElem_idxOf hi).symm
theorem spec_w1 {S H0 : List Int} {a : Bool} {i0 : Nat} {st : St} (G : PuB.Good S H0 a 3000 i0 st) (C : PuB.Closed S a st.hs.length st) {ol : List Nat} (O : PuB.Ord st.hs ol) (at' : Int) (r : Int × Bool) (i : Nat) (hi : i < st.hs.length) (ms : List Mv) (hms : ms = mvs S (st.hs.getD i []) a) (hml : ms.length ≤ 36) : ∀ (d j : Nat) (w : List Int), j + d = ms.length → w.length = st.hs.length →
    Ev (fun k => spec_CountPlans.l0 k a at' ((ms.drop j).foldl (wst S st i) w) (st.hs.length : Int) ((i + 1 : Nat) : Int) (st.hs.map (vs S)) st.frm st.mv st.dep (oli ol)) r →
    Ev (fun k => spec_CountPlans.l1 k a at' w (i : Int) (st.hs.length : Int) (i : Int) ms (ms.length : Int) (j : Int) (st.hs.map (vs S)) st.frm st.mv st.dep (oli ol)) r := by
  have hle := G.le
  have hlm : (st.hs.map (vs S)).length = st.hs.length := List.length_map ..
  have hmem : st.hs.getD i [] ∈ st.hs := by rw [getD_get _ _ _ hi]; exact List.getElem_mem hi
  have F := G.F _ hmem
  intro d
  induction d with
  | zero =>
    intro j w hj hw h
    rw [List.drop_eq_nil_of_le (by omega)] at h
    refine Ev.succ ?_
    simp only [spec_CountPlans.l1]
    refine Ev.neg (by omega) ?_
    rw [w64 (by omega) (by omega)]
    exact_mod_cast h
  | succ d ih =>
    intro j w hj hw h
    have hjl : j < ms.length := by omega
    have hm : ms[j] ∈ mvs S (st.hs.getD i []) a := by rw [← hms]; exact List.getElem_mem hjl
    have hmo := (mvs_mem S _ a _ hm).1
    have hin := C i hi _ hm
    obtain ⟨p, A, EP⟩ := place (S := S) O (v := nxt S (st.hs.getD i []) ms[j].f0 ms[j].f1) (fun h hh => by rw [G.ln h hh, nxt_len, F.he]) (by rw [nxt_len, F.he]; exact F.n1) (by rw [nxt_len, F.he]) (by omega) st.frm st.mv st.dep
    obtain ⟨hp, hpi, hlt⟩ := at_idx O A G.nd hin
    rw [List.drop_eq_getElem_cons hjl, List.foldl_cons] at h
    have IH := ih (j + 1) (wst S st i w ms[j]) (by omega) (by rw [wst_len]; exact hw) h
    refine Ev.succ ?_
    simp only [spec_CountPlans.l1]
    refine Ev.pos (by omega) (Ev.pos (by omega) (Ev.pos (by omega) (Ev.pos (by omega) (Ev.pos (by omega) ?_))))
    rw [rdV S st.hs i hi, rdM ms j hjl]
    simp only [vs]
    rw [make_spec F _ _ hmo]
    simp only [Option.bind_some]
    refine Ev.bind EP ?_
    refine Ev.pos (by omega) (Ev.pos (by show (p : Int) < _; rw [oli_len]; omega) ?_)
    simp only [oli_rd ol p hp, hpi]
    refine Ev.pos (by omega) (Ev.pos (by rw [G.l1]; omega) (Ev.pos (by rw [G.l1]; omega) ?_))
    rw [w64 (x := (j : Int) + 1) (by omega) (by omega), rd_getD, rd_getD]
    unfold wst at IH
    by_cases c : st.dep.getD (st.hs.idxOf (nxt S (st.hs.getD i []) ms[j].f0 ms[j].f1)) 0 = wrap64 (st.dep.getD i 0 + 1)
    · rw [if_pos c] at IH
      refine Ev.pos c (Ev.pos (by omega) (Ev.pos (by omega) ?_))
      rw [rd_getD, rd_getD, Int.toNat_natCast]
      exact_mod_cast IH
    · rw [if_neg c] at IH
      refine Ev.neg c ?_
      exact_mod_cast IH
theorem spec_w0 {S H0 : List Int} {a : Bool} {i0 : Nat} {st : St} (G : PuB.Good S H0 a 3000 i0 st) (C : PuB.Closed S a st.hs.length st) {ol : List Nat} (O : PuB.Ord st.hs ol) (p : Nat) (hp : p < ol.length) : ∀ (d i : Nat) (w : List Int), i + d = st.hs.length → w.length = st.hs.length →
    Ev (fun k => spec_CountPlans.l0 k a (p : Int) w (st.hs.length : Int) (i : Int) (st.hs.map (vs S)) st.frm st.mv st.dep (oli ol)) ((wfin S a st d i w).getD (ol.getD p 0) 0, true) := by
  have hle := G.le
  have hlm : (st.hs.map (vs S)).length = st.hs.length := List.length_map ..
  intro d
  induction d with
  | zero =>
    intro i w hi hw
    have hb := O.ltD p hp
    refine Ev.succ ?_
    simp only [spec_CountPlans.l0, oli_rd ol p hp]
    refine Ev.neg (by omega) (Ev.pos (by omega) (Ev.pos (by rw [oli_len]; omega) (Ev.pos (by omega) (Ev.pos (by omega) (Ev.const ?_)))))
    rw [rd_getD]; rfl
  | succ d ih =>
    intro i w hi hw
    have hmem : st.hs.getD i [] ∈ st.hs := by rw [getD_get _ _ _ (by omega)]; exact List.getElem_mem _
    have F := G.F _ hmem
    refine Ev.succ ?_
    simp only [spec_CountPlans.l0]
    refine Ev.pos (by omega) (Ev.pos (by omega) (Ev.pos (by omega) ?_))
    rw [rdV S st.hs i (by omega)]
    simp only [vs]
    refine Ev.bind (x := mvs S (st.hs.getD i []) a) (Ev.of 100 fun k hk => on_f F a k hk) ?_
    refine spec_w1 G C O _ _ i (by omega) _ rfl (mvs_len F a) _ 0 w (by rw [Nat.zero_add]) hw ?_
    rw [List.drop_zero]
    exact ih (i + 1) _ (by omega) (by rw [wfold_len]; exact hw)
theorem impl_w1 {S H0 : List Int} {a : Bool} {i0 : Nat} {st : St} (G : PuB.Good S H0 a 3000 i0 st) (C : PuB.Closed S a st.hs.length st) (at' : Int) (r : Int × Bool) (i : Nat) (hi : i < st.hs.length) (ms : List Mv) (hms : ms = mvs S (st.hs.getD i []) a) (hml : ms.length ≤ 36) : ∀ (d j : Nat) (w : List Int), j + d = ms.length → w.length = st.hs.length →
    Ev (fun k => impl_CountPlans.l0 k a at' ((ms.drop j).foldl (wst S st i) w) (st.hs.map (vs S)) (st.hs.length : Int) ((i + 1 : Nat) : Int) (st.hs.map (vs S)) (plc st.hs) st.dep st.frm st.mv) r →
    Ev (fun k => impl_CountPlans.l1 k a at' w (i : Int) (st.hs.map (vs S)) (st.hs.length : Int) (i : Int) ms (ms.length : Int) (j : Int) (st.hs.map (vs S)) (plc st.hs) st.dep st.frm st.mv S (st.hs.getD i [])) r := by
  have hle := G.le
  have hlm : (st.hs.map (vs S)).length = st.hs.length := List.length_map ..
  have hmem : st.hs.getD i [] ∈ st.hs := by rw [getD_get _ _ _ hi]; exact List.getElem_mem hi
  have F := G.F _ hmem
  intro d
  induction d with
  | zero =>
    intro j w hj hw h
    rw [List.drop_eq_nil_of_le (by omega)] at h
    refine Ev.succ ?_
    simp only [impl_CountPlans.l1]
    refine Ev.neg (by omega) ?_
    rw [w64 (by omega) (by omega)]
    exact_mod_cast h
  | succ d ih =>
    intro j w hj hw h
    have hjl : j < ms.length := by omega
    have hm : ms[j] ∈ mvs S (st.hs.getD i []) a := by rw [← hms]; exact List.getElem_mem hjl
    have hmo := (mvs_mem S _ a _ hm).1
    have F2 := nxt_facts F _ _ hmo
    have hin := C i hi _ hm
    have hlt : st.hs.idxOf (nxt S (st.hs.getD i []) ms[j].f0 ms[j].f1) < st.hs.length := List.idxOf_lt_length_iff.2 hin
    have hlk := lk_plc (by rw [nxt_len, F.he]; exact F.n1) (fun h hh => by rw [G.ln h hh, nxt_len, F.he]) G.nd hin
    rw [List.drop_eq_getElem_cons hjl, List.foldl_cons] at h
    have IH := ih (j + 1) (wst S st i w ms[j]) (by omega) (by rw [wst_len]; exact hw) h
    refine Ev.succ ?_
    simp only [impl_CountPlans.l1]
    refine Ev.pos (by omega) (Ev.pos (by omega) (Ev.pos (by omega) ?_))
    rw [rdM ms j hjl, make_impl F _ _ hmo]
    simp only [Option.bind_some, impl_keyOf.f, impl_lookup1.f]
    have hk : ∀ x : Gv.K5, (x.1, x.2.1, x.2.2.1, x.2.2.2.1, x.2.2.2.2) = x := fun _ => rfl
    rw [hk, if_pos (wf5_of F2), hlk]
    simp only [Option.bind_some, Option.getD_some]
    refine Ev.pos (by omega) (Ev.pos (by rw [G.l1]; omega) (Ev.pos (by omega) (Ev.pos (by rw [G.l1]; omega) ?_)))
    rw [w64 (x := (j : Int) + 1) (by omega) (by omega), rd_getD, rd_getD]
    unfold wst at IH
    by_cases c : st.dep.getD (st.hs.idxOf (nxt S (st.hs.getD i []) ms[j].f0 ms[j].f1)) 0 = wrap64 (st.dep.getD i 0 + 1)
    · rw [if_pos c] at IH
      refine Ev.pos c (Ev.pos (by omega) (Ev.pos (by omega) ?_))
      rw [rd_getD, rd_getD, Int.toNat_natCast]
      exact_mod_cast IH
    · rw [if_neg c] at IH
      refine Ev.neg c ?_
      exact_mod_cast IH
theorem impl_w0 {S H0 : List Int} {a : Bool} {i0 : Nat} {st : St} (G : PuB.Good S H0 a 3000 i0 st) (C : PuB.Closed S a st.hs.length st) (g : Nat) (hg : g < st.hs.length) : ∀ (d i : Nat) (w : List Int), i + d = st.hs.length → w.length = st.hs.length →
    Ev (fun k => impl_CountPlans.l0 k a (g : Int) w (st.hs.map (vs S)) (st.hs.length : Int) (i : Int) (st.hs.map (vs S)) (plc st.hs) st.dep st.frm st.mv) ((wfin S a st d i w).getD g 0, true) := by
  have hle := G.le
  have hlm : (st.hs.map (vs S)).length = st.hs.length := List.length_map ..
  intro d
  induction d with
  | zero =>
    intro i w hi hw
    refine Ev.succ ?_
    simp only [impl_CountPlans.l0]
    refine Ev.neg (by omega) (Ev.pos (by omega) (Ev.pos (by omega) (Ev.const ?_)))
    rw [rd_getD]; rfl
  | succ d ih =>
    intro i w hi hw
    have hmem : st.hs.getD i [] ∈ st.hs := by rw [getD_get _ _ _ (by omega)]; exact List.getElem_mem _
    have F := G.F _ hmem
    refine Ev.succ ?_
    simp only [impl_CountPlans.l0]
    refine Ev.pos (by omega) (Ev.pos (by omega) (Ev.pos (by omega) ?_))
    rw [rdV S st.hs i (by omega)]
    simp only [vs]
    refine Ev.bind (x := mvs S (st.hs.getD i []) a) (Ev.of 100 fun k hk => mo_f F a k hk) ?_
    refine impl_w1 G C _ _ i (by omega) _ rfl (mvs_len F a) _ 0 w (by rw [Nat.zero_add]) hw ?_
    rw [List.drop_zero]
    exact ih (i + 1) _ (by omega) (by rw [wfold_len]; exact hw)
theorem both (S H S' H' : List Int) (a : Bool) (h0 : S.length ≤ 1048576) (h1 : S'.length ≤ 1048576) : ∃ q : Int × Bool, Ev (fun k => spec_CountPlans.f k S H S' H' a) q ∧ Ev (fun k => impl_CountPlans.f k S H S' H' a) q := by
  have EF := find_ev S H S' H' a h0 h1
  unfold spec_CountPlans.f impl_CountPlans.f
  by_cases c : (VOk S H && (VOk S' H' && decide (S = S'))) = true
  · obtain ⟨r, hr, E⟩ := all_ev S H S' H' a h0 c
    have ES := sizes_ev S H S' H' h0 h1
    rw [c] at ES
    cases e : fnd S H S' H' a with
    | none =>
      rw [e] at hr EF
      have hr' : r.2.2.2.2.2 = false := hr
      exact ⟨(0, false), Ev.bind ES (Ev.pos rfl (Ev.bind E (Ev.neg (by rw [hr']; decide) (Ev.const rfl)))), Ev.bind EF (Ev.pos (show (-1 : Int) < 0 by omega) (Ev.const rfl))⟩
    | some st =>
      obtain ⟨⟨⟨i, G⟩, C⟩, hv, hv', hS⟩ := fnd_some e
      subst hS
      rw [e] at hr EF
      obtain ⟨ol, O, rfl⟩ := hr
      have F := VOk.facts hv
      have F2 := VOk.facts hv'
      have hle := G.le
      have hz := G.z.2.2.2
      have hlm : (st.hs.map (vs S)).length = st.hs.length := List.length_map ..
      obtain ⟨p, A, EP⟩ := place (S := S) O (fun h hh => by rw [G.ln h hh, F2.he]) (by rw [F2.he]; exact F.n1) (by rw [F2.he]) (by omega) st.frm st.mv st.dep
      by_cases c4 : H' ∈ st.hs
      · obtain ⟨hp, hpi, hlt⟩ := at_idx O A G.nd c4
        have Q1 := spec_w0 G C O p hp st.hs.length 0 ((List.replicate st.hs.length (0 : Int)).set 0 1) (by omega) (by simp)
        have Q2 := impl_w0 G C _ hlt st.hs.length 0 ((List.replicate st.hs.length (0 : Int)).set 0 1) (by omega) (by simp)
        rw [hpi] at Q1
        refine ⟨((wfin S a st st.hs.length 0 ((List.replicate st.hs.length (0 : Int)).set 0 1)).getD (st.hs.idxOf H') 0, true), Ev.bind ES (Ev.pos rfl (Ev.bind E (Ev.pos rfl (Ev.bind EP (Ev.pos (by show decide _ = true; rw [decide_eq_true c4]) ?_))))), Ev.bind EF (Ev.neg ?_ ?_)⟩
        rotate_left 2
        · show Ev (fun k => if 0 ≤ ((st.hs.map (vs S)).length : Int) then (if (((st.hs.map (vs S)).length : Int)).toNat ≤ 35184372088832 then ((some (List.replicate (((st.hs.map (vs S)).length : Int)).toNat 0 : List Int)).bind fun y => (if 0 < (y.length : Int) then (impl_CountPlans.l0 k a (plc? st.hs H') (y.set (0 : Int).toNat 1) (st.hs.map (vs S)) ((st.hs.map (vs S)).length : Int) 0 (st.hs.map (vs S)) (plc st.hs) st.dep st.frm st.mv) else none)) else none) else none) _
          rw [hlm, Int.toNat_natCast]
          simp only [Option.bind_some]
          refine Ev.pos (by omega) (Ev.pos (by omega) (Ev.pos (by simp; omega) ?_))
          unfold plc?
          rw [if_pos c4]
          exact Q2
        · show Ev (fun k => if 0 ≤ ((st.hs.map (vs S)).length : Int) then (if (((st.hs.map (vs S)).length : Int)).toNat ≤ 35184372088832 then ((some (List.replicate (((st.hs.map (vs S)).length : Int)).toNat 0 : List Int)).bind fun y => (if 0 < (y.length : Int) then (spec_CountPlans.l0 k a (p : Int) (y.set (0 : Int).toNat 1) ((st.hs.map (vs S)).length : Int) 0 (st.hs.map (vs S)) st.frm st.mv st.dep (oli ol)) else none)) else none) else none) _
          rw [hlm, Int.toNat_natCast]
          simp only [Option.bind_some]
          refine Ev.pos (by omega) (Ev.pos (by omega) (Ev.pos (by simp; omega) ?_))
          exact Q1
        · show ¬ (plc? st.hs H' < 0)
          unfold plc?
          rw [if_pos c4]; omega
      · refine ⟨(0, false), Ev.bind ES (Ev.pos rfl (Ev.bind E (Ev.pos rfl (Ev.bind EP (Ev.neg (by show ¬ decide _ = true; rw [decide_eq_false c4]; decide) (Ev.const rfl)))))), Ev.bind EF (Ev.pos ?_ (Ev.const rfl))⟩
        show plc? st.hs H' < 0
        unfold plc?
        rw [if_neg c4]; omega
  · have ES := sizes_ev S H S' H' h0 h1
    rw [Bool.eq_false_iff.mpr c] at ES
    rw [fnd_no c] at EF
    exact ⟨(0, false), Ev.bind ES (Ev.neg (by decide) (Ev.const rfl)), Ev.bind EF (Ev.pos (show (-1 : Int) < 0 by omega) (Ev.const rfl))⟩
theorem FnExactCountPlans (S H S' H' : List Int) (a : Bool) (h0 : S.length ≤ 9223372036854775807) (_ : ∀ x ∈ S, (Lit.int .i64 x).wf = true) (h1 : H.length ≤ 9223372036854775807) (_ : ∀ x ∈ H, (Lit.int .i64 x).wf = true) (g0 : S'.length ≤ 9223372036854775807) (_ : ∀ x ∈ S', (Lit.int .i64 x).wf = true) (g1 : H'.length ≤ 9223372036854775807) (_ : ∀ x ∈ H', (Lit.int .i64 x).wf = true) : ∃ k, laws_FnExactCountPlans.f k S H S' H' a = some true := by
  refine Ev.ex (f := fun k => laws_FnExactCountPlans.f k S H S' H' a) ?_
  obtain ⟨r, hr, hc⟩ := szV2 S H S' H' h0 h1 g0 g1
  unfold laws_FnExactCountPlans.f
  rw [hr]; simp only [Option.bind_some]
  rcases hc with hc | ⟨c0, c1, c2, q0, hq0, hc⟩
  · exact Ev.pos hc (Ev.const rfl)
  · refine Ev.neg (by omega) ?_
    rw [hq0]; simp only [Option.bind_some]
    rcases hc with hc | ⟨d0, d1, d2⟩
    · exact Ev.pos hc (Ev.const rfl)
    · refine Ev.neg (by omega) ?_
      obtain ⟨q, E1, E2⟩ := both S H S' H' a c1 d1
      have T1 := toV_ev S H c1 c2
      have T2 := toV_ev S' H' d1 d2
      refine Ev.bind T1 (Ev.bind T2 (Ev.bind E1 (Ev.bind T1 (Ev.bind T2 (Ev.bind E2 (Ev.pos rfl (Ev.succ ?_)))))))
      simp only [laws_FnExactCountPlans.j0, bne_self_eq_false]
      exact Ev.neg (by decide) (Ev.bind T1 (Ev.bind (eqV_ev S H c1 c2) (Ev.pos rfl (Ev.bind T2 (Ev.bind (eqV_ev S' H' d1 d2) (Ev.pos rfl (Ev.const rfl)))))))
end Go.Proofs.Ytigpkicbigpilaa.Pure
