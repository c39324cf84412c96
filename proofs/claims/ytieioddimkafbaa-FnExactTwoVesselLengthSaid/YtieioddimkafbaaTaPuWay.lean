/- Plain functions and what they come to. -/
import Derived.Test.YtieioddimkafbaaTaPuFind
import Derived.Test.YtieioddimkafbaaTaVsW
import Derived.Test.YtieioddimkafbaaTaViW
namespace Go.Proofs.Ytieioddimkafbaa.PuB
open Go.RowKit Go.Proofs.Ytieioddimkafbaa.V Go.Proofs.YtieioddimkafbaaW.PrintWords Go.Proofs.YtieioddimkafbaaW.PrintLast Go.Proofs.YtieioddimkafbaaW.PrintMore Go.Proofs.Ytieioddimkafbaa Go.Proofs.Ytieioddimkafbaa.PuB
set_option linter.unusedVariables false
set_option linter.unusedSimpArgs false
/-- slices.Reverse over moves. -/
theorem rev_l0 : ∀ (n : Nat) (A M B : List Mv), M.length ≤ n → A.length = B.length → (A ++ M ++ B).length ≤ 100000 → Ev (fun k => impl_Move.l0 k (A ++ M ++ B) (A.length : Int) ((A.length : Int) + M.length - 1)) (A ++ M.reverse ++ B)
  | n, A, [], B, _, _, _ => by
    refine Ev.succ ?_
    simp only [impl_Move.l0, List.length_nil]
    exact Ev.neg (by omega) (Ev.const (by simp))
  | n, A, [x], B, _, _, _ => by
    refine Ev.succ ?_
    simp only [impl_Move.l0, List.length_singleton]
    exact Ev.neg (by omega) (Ev.const (by simp))
  | 0, A, x :: y :: M, B, h, _, _ => by simp at h
  | n + 1, A, x :: y :: M, B, h, hl, hb => by
    obtain ⟨M', z, e⟩ : ∃ M' z, y :: M = M' ++ [z] := ⟨(y :: M).dropLast, (y :: M).getLast (by simp), (List.dropLast_concat_getLast (by simp)).symm⟩
    rw [e] at h hb ⊢
    simp only [List.length_append, List.length_cons, List.length_nil] at h hb
    refine Ev.succ ?_
    simp only [impl_Move.l0, List.length_append, List.length_cons, List.length_nil]
    have i1 : ((A.length : Int) + ((M'.length + (0 + 1) + 1 : Nat) : Int) - 1).toNat = A.length + (M'.length + 1) := by omega
    have i2 : ((A.length : Int)).toNat = A.length := by omega
    have r1 : rd_T55 (A ++ x :: (M' ++ [z]) ++ B) ((A.length : Int) + ((M'.length + (0 + 1) + 1 : Nat) : Int) - 1) = z := by
      show List.getD _ _ _ = _
      rw [i1, show A ++ x :: (M' ++ [z]) ++ B = (A ++ x :: M') ++ (z :: B) by simp, List.getD_eq_getElem?_getD, List.getElem?_append_right (by simp)]
      simp
    have r2 : rd_T55 (A ++ x :: (M' ++ [z]) ++ B) (A.length : Int) = x := by
      show List.getD _ _ _ = _
      rw [i2, show A ++ x :: (M' ++ [z]) ++ B = A ++ (x :: (M' ++ z :: B)) by simp, List.getD_eq_getElem?_getD, List.getElem?_append_right (by simp)]
      simp
    refine Ev.pos (by omega) (Ev.pos (by omega) (Ev.pos (by omega) (Ev.pos (by omega) (Ev.pos (by omega) ?_))))
    rw [r1, r2, w64 (by omega) (by omega), w64 (by omega) (by omega), i1, i2]
    have s1 : ((A ++ x :: (M' ++ [z]) ++ B).set A.length z).set (A.length + (M'.length + 1)) x = (A ++ [z]) ++ M' ++ (x :: B) := by
      rw [show A ++ x :: (M' ++ [z]) ++ B = A ++ (x :: (M' ++ z :: B)) by simp, List.set_append_right _ _ (by omega)]
      rw [List.set_append_right _ _ (by omega)]
      simp
    have ih := rev_l0 n (A ++ [z]) M' (x :: B) (by omega) (by simp [hl]) (by simp; omega)
    have e1 : (((A ++ [z]).length : Nat) : Int) = (A.length : Int) + 1 := by simp
    rw [e1] at ih
    have e2 : (A.length : Int) + 1 + (M'.length : Int) - 1 = (A.length : Int) + ((M'.length + (0 + 1) + 1 : Nat) : Int) - 1 - 1 := by omega
    rw [e2] at ih
    show Ev (fun k => impl_Move.l0 k (((A ++ x :: (M' ++ [z]) ++ B).set A.length ⟨z.f0, z.f1⟩).set (A.length + (M'.length + 1)) ⟨x.f0, x.f1⟩) _ _) _
    rw [show (⟨z.f0, z.f1⟩ : Mv) = z from rfl, show (⟨x.f0, x.f1⟩ : Mv) = x from rfl, s1]
    rw [show A ++ (x :: (M' ++ [z])).reverse ++ B = (A ++ [z]) ++ M'.reverse ++ (x :: B) by simp]
    exact ih
theorem rev_ev (l : List Mv) (h : l.length ≤ 100000) : Ev (fun k => impl_Move.f k l) l.reverse := by
  have := rev_l0 l.length [] l [] (Nat.le_refl _) rfl (by simpa using h)
  unfold impl_Move.f
  rw [w64 (by omega) (by omega)]
  simpa using this
/-- The way back from a state, told twice. -/
theorem way_ev {S H0 : List Int} {a : Bool} {q i : Nat} {st : St} (G : Good S H0 a q i st) (hq : q ≤ 3000) (s1 : List Vs) (s3 : List Int) (s5 : List Int) (p1 : List Vs) (p2 : List (Gv.K5 × Int)) (p3 : List Int) : ∀ (x : Nat), x < st.hs.length → ∃ W : List Mv, W.length ≤ x ∧
    (∀ acc : List Mv, acc.length + x ≤ 10000 → Ev (fun k => spec_plWay.l0 k (x : Int) acc s1 st.frm st.mv s3 s5) (W.reverse ++ acc)) ∧
    (∀ acc : List Mv, acc.length + x ≤ 10000 → Ev (fun k => impl_reach_planTo.l0 k (x : Int) acc p1 p2 p3 st.frm st.mv) ((acc ++ W).reverse)) := by
  intro x
  induction x using Nat.strongRecOn with
  | _ x ih =>
    intro hx
    have hle := G.le
    have l2 := G.l2
    have l3 := G.l3
    have hd : rd st.frm (x : Int) = st.frm.getD x 0 := rd_getD _ _
    rcases Nat.eq_zero_or_pos x with h0 | h0
    · subst h0
      have hz : rd st.frm ((0 : Nat) : Int) = -1 := by rw [hd]; exact G.z.2.2.1
      refine ⟨[], Nat.le_refl _, fun acc ha => Ev.succ ?_, fun acc ha => Ev.succ ?_⟩
      · simp only [spec_plWay.l0]
        exact Ev.pos (by omega) (Ev.pos (by omega) (Ev.neg (by rw [hz]; omega) (Ev.const rfl)))
      · simp only [impl_reach_planTo.l0]
        refine Ev.pos (by omega) (Ev.pos (by omega) (Ev.neg (by rw [hz]; omega) ?_))
        rw [List.append_nil]
        exact Ev.bind (rev_ev acc (by omega)) (Ev.const rfl)
    · obtain ⟨y, y1, y2, y3, y4, y5⟩ := G.way x h0 hx
      obtain ⟨W, w1, w2, w3⟩ := ih y y2 (by omega)
      have hz : rd st.frm (x : Int) = (y : Int) := by rw [hd]; exact y1
      refine ⟨rdMv st.mv (x : Int) :: W, by simp; omega, fun acc ha => Ev.succ ?_, fun acc ha => Ev.succ ?_⟩
      · simp only [spec_plWay.l0]
        refine Ev.pos (by omega) (Ev.pos (by omega) (Ev.pos (by rw [hz]; omega) (Ev.pos (by omega) (Ev.bind (Ev.const rfl) (Ev.pos (by simp; omega) ?_)))))
        rw [hz]
        have := w2 (rdMv st.mv (x : Int) :: acc) (by simp; omega)
        rw [show (rdMv st.mv (x : Int) :: W).reverse ++ acc = W.reverse ++ (rdMv st.mv (x : Int) :: acc) by simp]
        exact this
      · simp only [impl_reach_planTo.l0]
        refine Ev.pos (by omega) (Ev.pos (by omega) (Ev.pos (by rw [hz]; omega) (Ev.pos (by omega) (Ev.pos (by omega) ?_))))
        rw [hz]
        have := w3 (acc ++ [rdMv st.mv (x : Int)]) (by simp; omega)
        rw [show acc ++ rdMv st.mv (x : Int) :: W = (acc ++ [rdMv st.mv (x : Int)]) ++ W by simp]
        exact this
end Go.Proofs.Ytieioddimkafbaa.PuB
