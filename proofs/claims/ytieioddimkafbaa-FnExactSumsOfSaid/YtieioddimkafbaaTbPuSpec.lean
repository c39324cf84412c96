/- Plain functions and what they come to. -/
import Derived.Test.YtieioddimkafbaaTbPuBase
import Derived.Test.YtieioddimkafbaaTbVplA
namespace Go.Proofs.Ytieioddimkafbaa.PuB
open Go.RowKit Go.Proofs.Ytieioddimkafbaa.V Go.Proofs.YtieioddimkafbaaW.PrintWords Go.Proofs.YtieioddimkafbaaW.PrintLast Go.Proofs.YtieioddimkafbaaW.PrintMore Go.Proofs.Ytieioddimkafbaa Go.Proofs.Ytieioddimkafbaa.PuB
set_option linter.unusedVariables false
set_option linter.unusedSimpArgs false
def oli (ol : List Nat) : List Int := ol.map fun (n : Nat) => (n : Int)
theorem oli_rd (ol : List Nat) (j : Nat) (h : j < ol.length) : rd (oli ol) (j : Int) = ((ol.getD j 0 : Nat) : Int) := by
  rw [rd_getD, getD_get _ _ _ (by simpa [oli] using h), getD_get _ _ _ h]; simp [oli]
theorem oli_len (ol : List Nat) : (oli ol).length = ol.length := by simp [oli]
theorem mid_w (n : Nat) (h : n ≤ 100000) : wrap64 (Int.tdiv (wrap64 (n : Int)) 2) = ((n / 2 : Nat) : Int) := by
  have e : Int.tdiv (n : Int) 2 = ((n / 2 : Nat) : Int) := by rw [Int.tdiv_eq_ediv_of_nonneg (by omega)]; omega
  rw [w64 (x := (n : Int)) (by omega) (by omega), e]
  exact w64 (by omega) (by omega)
theorem place_end {S : List Int} {hs : List (List Int)} {ol : List Nat} {v : List Int} (O : Ord hs ol) (hl : ∀ h ∈ hs, h.length = v.length) (hv : v.length ≤ 5) (hS : S.length = v.length) (hb : hs.length ≤ 3001) (x1 : List Int) (x2 : List Mv) (x3 : List Int)
    (lo : Nat) (hh : lo ≤ ol.length) (hlo : ∀ j, j < lo → lx (hs.getD (ol.getD j 0) []) v = true) (hhi : ∀ j, lo ≤ j → j < ol.length → lx (hs.getD (ol.getD j 0) []) v = false) :
    ∃ p, AtP hs ol v p ∧ Ev (fun k => spec_plPlace.l0 k (lo : Int) (lo : Int) (hs.map (vs S)) x1 x2 x3 (oli ol) S v) ((p : Int), decide (v ∈ hs)) := by
  have A : AtP hs ol v lo := ⟨hh, hlo, hhi⟩
  refine ⟨lo, A, Ev.succ ?_⟩
  simp only [spec_plPlace.l0]
  refine Ev.neg (by omega) ?_
  have hm := atP_mem O A
  by_cases c : lo < ol.length
  · have hlt := O.ltD lo c
    refine Ev.pos (by rw [oli_len]; omega) (Ev.pos (by omega) ?_)
    rw [oli_rd ol lo c]
    refine Ev.pos (by omega) (Ev.pos (by rw [List.length_map]; omega) ?_)
    rw [rdV S hs _ hlt]
    simp only [vs]
    have hmem : hs.getD (ol.getD lo 0) [] ∈ hs := by rw [getD_get _ _ _ hlt]; exact List.getElem_mem hlt
    refine Ev.bind (x := decide (hs.getD (ol.getD lo 0) [] = v)) (Ev.of 1000 fun k hk => same_spec k S _ S v (hl _ hmem) (by rw [hl _ hmem]; omega) (by rw [hl _ hmem]; omega)) (Ev.const ?_)
    have e : decide (hs.getD (ol.getD lo 0) [] = v) = decide (v ∈ hs) := by
      rw [decide_eq_decide, hm]; exact ⟨fun h => ⟨c, h⟩, fun h => h.2⟩
    rw [e]
  · refine Ev.neg (by rw [oli_len]; omega) (Ev.const ?_)
    have : ¬ v ∈ hs := fun h => c (hm.1 h).1
    simp [this]
theorem place_l0 {S : List Int} {hs : List (List Int)} {ol : List Nat} {v : List Int} (O : Ord hs ol) (hl : ∀ h ∈ hs, h.length = v.length) (hv : v.length ≤ 5) (hS : S.length = v.length) (hb : hs.length ≤ 3001) (x1 : List Int) (x2 : List Mv) (x3 : List Int) :
    ∀ (d lo hi : Nat), hi - lo ≤ d → lo ≤ hi → hi ≤ ol.length → (∀ j, j < lo → lx (hs.getD (ol.getD j 0) []) v = true) → (∀ j, hi ≤ j → j < ol.length → lx (hs.getD (ol.getD j 0) []) v = false) →
    ∃ p, AtP hs ol v p ∧ Ev (fun k => spec_plPlace.l0 k (lo : Int) (hi : Int) (hs.map (vs S)) x1 x2 x3 (oli ol) S v) ((p : Int), decide (v ∈ hs)) := by
  intro d
  induction d with
  | zero =>
    intro lo hi hd hle hh hlo hhi
    have e : lo = hi := by omega
    subst e
    exact place_end O hl hv hS hb x1 x2 x3 lo hh hlo hhi
  | succ d ih =>
    intro lo hi hd hle hh hlo hhi
    rcases Nat.lt_or_ge lo hi with h0 | h0
    · have hol : ol.length ≤ 3001 := by rw [O.len]; exact hb
      obtain ⟨mid, hmid⟩ : ∃ mid, mid = (lo + hi) / 2 := ⟨_, rfl⟩
      have hm1 : lo ≤ mid := by omega
      have hm2 : mid < hi := by omega
      have c : mid < ol.length := by omega
      have e1 : wrap64 (Int.tdiv (wrap64 ((lo : Int) + (hi : Int))) 2) = (mid : Int) := by
        rw [hmid, ← Int.natCast_add]
        exact mid_w (lo + hi) (by omega)
      clear hmid
      have hlt := O.ltD mid c
      have hmem : hs.getD (ol.getD mid 0) [] ∈ hs := by rw [getD_get _ _ _ hlt]; exact List.getElem_mem hlt
      have pw : ∀ x y : Nat, x < y → y < ol.length → lx (hs.getD (ol.getD x 0) []) (hs.getD (ol.getD y 0) []) = true := by
        intro x y hxy hy
        rw [getD_get ol x 0 (by omega), getD_get ol y 0 hy]
        exact (List.pairwise_iff_getElem.1 O.2) x y (by omega) hy hxy
      cases hx : lx (hs.getD (ol.getD mid 0) []) v with
      | true =>
        obtain ⟨p, A, E⟩ := ih (mid + 1) hi (by omega) (by omega) hh (fun j hj => by
          by_cases e : j = mid
          · subst e; exact hx
          · exact lx_trans _ _ _ (pw j mid (by omega) c) hx) hhi
        refine ⟨p, A, Ev.succ ?_⟩
        simp only [spec_plPlace.l0, e1]
        refine Ev.pos (by omega) (Ev.pos (by omega) (Ev.pos (by rw [oli_len]; omega) ?_))
        rw [oli_rd ol mid c]
        refine Ev.pos (by omega) (Ev.pos (by rw [List.length_map]; omega) ?_)
        rw [rdV S hs _ hlt]
        simp only [vs]
        refine Ev.bind (x := true) (by rw [← hx]; exact less_spec S _ S v (hl _ hmem) (by rw [hl _ hmem]; omega)) (Ev.pos rfl ?_)
        rw [w64 (by omega) (by omega)]
        exact_mod_cast E
      | false =>
        obtain ⟨p, A, E⟩ := ih lo mid (by omega) (by omega) (by omega) hlo (fun j hj hj2 => by
          by_cases e : j = mid
          · subst e; exact hx
          · cases hy : lx (hs.getD (ol.getD j 0) []) v with
            | false => rfl
            | true =>
              have := lx_trans _ _ _ (pw mid j (by omega) hj2) hy
              rw [hx] at this; cases this)
        refine ⟨p, A, Ev.succ ?_⟩
        simp only [spec_plPlace.l0, e1]
        refine Ev.pos (by omega) (Ev.pos (by omega) (Ev.pos (by rw [oli_len]; omega) ?_))
        rw [oli_rd ol mid c]
        refine Ev.pos (by omega) (Ev.pos (by rw [List.length_map]; omega) ?_)
        rw [rdV S hs _ hlt]
        simp only [vs]
        refine Ev.bind (x := false) (by rw [← hx]; exact less_spec S _ S v (hl _ hmem) (by rw [hl _ hmem]; omega)) (Ev.neg (by simp) ?_)
        exact E
    · have e : lo = hi := by omega
      subst e
      exact place_end O hl hv hS hb x1 x2 x3 lo hh hlo hhi
theorem place {S : List Int} {hs : List (List Int)} {ol : List Nat} {v : List Int} (O : Ord hs ol) (hl : ∀ h ∈ hs, h.length = v.length) (hv : v.length ≤ 5) (hS : S.length = v.length) (hb : hs.length ≤ 3001) (x1 : List Int) (x2 : List Mv) (x3 : List Int) :
    ∃ p, AtP hs ol v p ∧ Ev (fun k => spec_plPlace.f k (hs.map (vs S)) x1 x2 x3 (oli ol) S v) ((p : Int), decide (v ∈ hs)) := by
  obtain ⟨p, A, E⟩ := place_l0 O hl hv hS hb x1 x2 x3 ol.length 0 ol.length (by omega) (by omega) (Nat.le_refl _) (fun j hj => absurd hj (Nat.not_lt_zero _)) (fun j h1 h2 => by omega)
  refine ⟨p, A, ?_⟩
  unfold spec_plPlace.f
  rw [oli_len]
  exact E
abbrev RS := List Vs × List Int × List Mv × List Int × List Int × Bool
def IsS (S : List Int) (r : RS) : Option St → Prop
  | none => r.2.2.2.2.2 = false
  | some st => ∃ ol, Ord st.hs ol ∧ r = (st.hs.map (vs S), st.frm, st.mv, st.dep, oli ol, true)
theorem spec_in {S H0 : List Int} {a : Bool} {i : Nat} (H : List Int) (ms : List Mv) (hms : ∀ m ∈ ms, m ∈ mvs S H a) (hml : ms.length ≤ 36) : ∀ (d j : Nat) (st : St) (ol : List Nat) (Rr : RS → Prop), j + d = ms.length → Good S H0 a 3000 i st → i < st.hs.length → st.hs.getD i [] = H → Ord st.hs ol →
    (match inn S 3000 i H (ms.drop j) st with
      | none => ∀ r : RS, r.2.2.2.2.2 = false → Rr r
      | some st' => ∀ ol', Ord st'.hs ol' → ∃ r, Rr r ∧ Ev (fun k => spec_plAll.l0 k a ((i + 1 : Nat) : Int) (st'.hs.map (vs S)) st'.frm st'.mv st'.dep (oli ol')) r) →
    ∃ r, Rr r ∧ Ev (fun k => spec_plAll.l1 k a (i : Int) ms (j : Int) (st.hs.map (vs S)) st.frm st.mv st.dep (oli ol)) r := by
  intro d
  induction d with
  | zero =>
    intro j st ol Rr hj G hi hH O h
    rw [List.drop_eq_nil_of_le (by omega)] at h
    simp only [inn] at h
    obtain ⟨r, hr, E⟩ := h ol O
    refine ⟨r, hr, Ev.succ ?_⟩
    simp only [spec_plAll.l1]
    refine Ev.neg (by omega) ?_
    have hle := G.le
    rw [w64 (by omega) (by omega)]
    exact E
  | succ d ih =>
    intro j st ol Rr hj G hi hH O h
    have hjl : j < ms.length := by omega
    have hle := G.le
    have hmem : H ∈ st.hs := by rw [← hH, getD_get _ _ _ hi]; exact List.getElem_mem hi
    have F := G.F H hmem
    have hm := hms _ (List.getElem_mem hjl)
    have hmo := (mvs_mem S _ a _ hm).1
    have F2 := nxt_facts F _ _ hmo
    have hlen : ∀ h ∈ st.hs, h.length = (nxt S H ms[j].f0 ms[j].f1).length := fun h hh => by rw [G.ln h hh, nxt_len, F.he]
    have h5 : (nxt S H ms[j].f0 ms[j].f1).length ≤ 5 := by rw [nxt_len, F.he]; exact F.n1
    obtain ⟨p, A, EP⟩ := place (S := S) O hlen h5 (by rw [nxt_len, F.he]) (by omega) st.frm st.mv st.dep
    rw [List.drop_eq_getElem_cons hjl] at h
    simp only [inn] at h
    by_cases c : nxt S H ms[j].f0 ms[j].f1 ∈ st.hs
    · rw [if_pos c] at h
      obtain ⟨r, hr, E⟩ := ih (j + 1) st ol Rr (by omega) G hi hH O h
      refine ⟨r, hr, Ev.succ ?_⟩
      simp only [spec_plAll.l1]
      refine Ev.pos (by omega) (Ev.pos ⟨by omega, by omega, by rw [List.length_map]; omega⟩ ?_)
      rw [rdV S st.hs i hi, rdM ms j hjl, hH]
      simp only [vs]
      rw [make_spec F _ _ hmo]
      simp only [Option.bind_some]
      refine Ev.bind EP (Ev.pos (by show decide _ = true; rw [decide_eq_true c]) ?_)
      rw [w64 (by omega) (by omega)]
      exact_mod_cast E
    · rw [if_neg c] at h
      have hp := A.1
      have hol := O.len
      have hd : wrap64 (rd st.dep (i : Int) + 1) = rd st.dep (i : Int) + 1 := by
        have := G.dpos i hi
        rw [rd_getD]
        exact w64 (by omega) (by omega)
      have hins : plIns (oli ol) (p : Int) (st.hs.length : Int) = oli (ol.take p ++ st.hs.length :: ol.drop p) := by
        unfold plIns oli
        rw [Int.toNat_natCast, List.map_append, List.map_cons, List.map_take, List.map_drop]
      by_cases c2 : st.hs.length = 3000
      · rw [if_pos c2] at h
        refine ⟨(st.hs.map (vs S) ++ [vs S (nxt S H ms[j].f0 ms[j].f1)], st.frm ++ [(i : Int)], st.mv ++ [⟨ms[j].f0, ms[j].f1⟩], st.dep ++ [wrap64 (rd st.dep (i : Int) + 1)], plIns (oli ol) (p : Int) ((st.hs.map (vs S)).length : Int), false), h _ rfl, Ev.succ ?_⟩
        simp only [spec_plAll.l1]
        refine Ev.pos (by omega) (Ev.pos ⟨by omega, by omega, by rw [List.length_map]; omega⟩ ?_)
        rw [rdV S st.hs i hi, rdM ms j hjl, hH]
        simp only [vs]
        rw [make_spec F _ _ hmo]
        simp only [Option.bind_some]
        refine Ev.bind EP (Ev.neg (by show ¬ decide _ = true; rw [decide_eq_false c]; decide) ?_)
        refine Ev.pos ⟨by rw [List.length_map]; omega, by rw [G.l2]; omega, by rw [G.l3]; omega, by rw [G.l1]; omega, by rw [oli_len]; omega, by rw [G.l1]; omega, by omega, by rw [oli_len]; omega⟩ ?_
        refine Ev.pos (by simp; omega) (Ev.const rfl)
      · rw [if_neg c2] at h
        subst hH
        have G2 := good_add G hi _ hm c c2
        have P2 := Pre.add st i ms[j] (nxt S (st.hs.getD i []) ms[j].f0 ms[j].f1)
        obtain ⟨r, hr, E⟩ := ih (j + 1) _ _ Rr (by omega) G2 (Nat.lt_of_lt_of_le hi P2.le) (P2.get i hi) (ord_ins O A c hlen) h
        refine ⟨r, hr, Ev.succ ?_⟩
        simp only [spec_plAll.l1]
        refine Ev.pos (by omega) (Ev.pos ⟨by omega, by omega, by rw [List.length_map]; omega⟩ ?_)
        rw [rdV S st.hs i hi, rdM ms j hjl]
        simp only [vs]
        rw [make_spec F _ _ hmo]
        simp only [Option.bind_some]
        refine Ev.bind EP (Ev.neg (by show ¬ decide _ = true; rw [decide_eq_false c]; decide) ?_)
        refine Ev.pos ⟨by rw [List.length_map]; omega, by rw [G.l2]; omega, by rw [G.l3]; omega, by rw [G.l1]; omega, by rw [oli_len]; omega, by rw [G.l1]; omega, by omega, by rw [oli_len]; omega⟩ ?_
        refine Ev.neg (by simp; omega) ?_
        rw [hd, w64 (x := (j : Int) + 1) (by omega) (by omega), List.length_map, hins]
        simp only [St.add, List.map_append, List.map_cons, List.map_nil, vs] at E
        exact_mod_cast E
theorem spec_out {S H0 : List Int} {a : Bool} : ∀ (n i : Nat) (st : St) (ol : List Nat) (o : Option St), (Good S H0 a 3000 i st ∨ ∃ j, Good S H0 a 3000 j st ∧ st.hs.length ≤ i) → i ≤ st.hs.length → Ord st.hs ol → out S a 3000 n i st = some o →
    ∃ r, IsS S r o ∧ Ev (fun k => spec_plAll.l0 k a (i : Int) (st.hs.map (vs S)) st.frm st.mv st.dep (oli ol)) r
  | 0, i, st, ol, o, _, _, _, h => by simp [out] at h
  | n + 1, i, st, ol, o, G, hi, O, h => by
    simp only [out] at h
    by_cases c : i < st.hs.length
    · rw [if_pos c] at h
      have G1 : Good S H0 a 3000 i st := by
        rcases G with G | ⟨j, G, hle⟩
        · exact G
        · omega
      have hmem : st.hs.getD i [] ∈ st.hs := by rw [getD_get _ _ _ c]; exact List.getElem_mem c
      have F := G1.F _ hmem
      have key : ∃ r, IsS S r o ∧ Ev (fun k => spec_plAll.l1 k a (i : Int) (mvs S (st.hs.getD i []) a) ((0 : Nat) : Int) (st.hs.map (vs S)) st.frm st.mv st.dep (oli ol)) r := by
        refine spec_in _ _ (fun m hm => hm) (mvs_len F a) _ 0 st ol (fun r => IsS S r o) (by rw [Nat.zero_add]) G1 c rfl O ?_
        rw [List.drop_zero]
        cases e : inn S 3000 i (st.hs.getD i []) (mvs S (st.hs.getD i []) a) st with
        | none =>
          rw [e] at h
          simp only [Option.some.injEq] at h
          rw [← h]
          exact fun r hr => hr
        | some st2 =>
          rw [e] at h
          obtain ⟨g1, g2, g3⟩ := good_inn _ _ _ _ G1 c rfl (fun m hm => hm) e
          intro ol' O'
          refine spec_out (H0 := H0) n (i + 1) st2 ol' o ?_ (Nat.lt_of_lt_of_le c g2.le) O' h
          rcases Nat.lt_or_ge (i + 1) st2.hs.length with h2 | h2
          · exact .inl (g1.up h2)
          · exact .inr ⟨i, g1, h2⟩
      obtain ⟨r, hr, E⟩ := key
      refine ⟨r, hr, Ev.succ ?_⟩
      simp only [spec_plAll.l0]
      refine Ev.pos (by rw [List.length_map]; omega) (Ev.pos (by omega) ?_)
      rw [rdV S st.hs i c]
      simp only [vs]
      exact Ev.bind (x := mvs S (st.hs.getD i []) a) (Ev.of 100 fun k hk => on_f F a k hk) E
    · rw [if_neg c] at h
      simp only [Option.some.injEq] at h
      refine ⟨(st.hs.map (vs S), st.frm, st.mv, st.dep, oli ol, true), by rw [← h]; exact ⟨ol, O, rfl⟩, Ev.succ ?_⟩
      simp only [spec_plAll.l0]
      exact Ev.neg (by rw [List.length_map]; omega) (Ev.const rfl)
/-- What plAll comes to. -/
theorem spec_all {S H : List Int} (hv : VOk S H = true) (a : Bool) : ∃ r, IsS S r (bfs S H a 3000) ∧ Ev (fun k => spec_plAll.f k S H a) r := by
  have F := VOk.facts hv
  unfold spec_plAll.f
  have O : Ord (ini H).hs [0] := ⟨by simp [ini, List.range, List.range.loop], by simp⟩
  exact spec_out _ 0 (ini H) [0] _ (.inl (good_ini F (by omega))) (Nat.zero_le _) O (bfs_out (by omega))
end Go.Proofs.Ytieioddimkafbaa.PuB
