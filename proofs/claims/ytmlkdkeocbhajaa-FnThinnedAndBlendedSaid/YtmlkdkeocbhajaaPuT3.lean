/- Plain functions and what they come to. -/
import Derived.Test.YtmlkdkeocbhajaaPuT2
import Derived.Test.YtmlkdkeocbhajaaTx4
namespace Go.Proofs.Ytmlkdkeocbhajaa.PuB
open Go.RowKit Go.Proofs.Ytmlkdkeocbhajaa.T Go.Proofs.YtmlkdkeocbhajaaW.PrintLast Go.Proofs.YtmlkdkeocbhajaaW.PrintMore
open Go.Proofs.YtmlkdkeocbhajaaW.PrintWords hiding Ev
set_option linter.unusedVariables false
set_option linter.unusedSimpArgs false
theorem w64n (n : Nat) (h : n ≤ 9000000000000000000) : wrap64 (n : Int) = (n : Int) := w64 (by omega) (by omega)
/-- Lowest terms are told apart by their ratio. -/
theorem low_unique {x y X Y : Nat} (h : x * Y = y * X) (c : Nat.Coprime x y) (C : Nat.Coprime X Y) : x = X ∧ y = Y := by
  have d1 : x ∣ X := c.dvd_of_dvd_mul_left ⟨Y, h.symm⟩
  have d2 : X ∣ x := C.dvd_of_dvd_mul_right ⟨y, by rw [h, Nat.mul_comm]⟩
  have d3 : y ∣ Y := c.symm.dvd_of_dvd_mul_left ⟨X, h⟩
  have d4 : Y ∣ y := C.symm.dvd_of_dvd_mul_right ⟨x, by rw [← h, Nat.mul_comm]⟩
  exact ⟨Nat.dvd_antisymm d1 d2, Nat.dvd_antisymm d3 d4⟩
theorem low_red (C x y : Nat) (hC : 0 < C) (h : Nat.Coprime x y) : C * x / Nat.gcd (C * x) (C * y) = x ∧ C * y / Nat.gcd (C * x) (C * y) = y := by
  rw [Nat.gcd_mul_left, h.gcd_eq_one, Nat.mul_one]
  exact ⟨Nat.mul_div_cancel_left x hC, Nat.mul_div_cancel_left y hC⟩
/-- Two numbers with their divisor taken out. -/
theorem low_step (x y : Nat) (hx : 0 < x) (hy : 0 < y) : ∃ g x' y', 0 < g ∧ Nat.gcd x y = g ∧ x = g * x' ∧ y = g * y' ∧ x / g = x' ∧ y / g = y' ∧ Nat.Coprime x' y' ∧ 0 < x' ∧ 0 < y' := by
  have hg : 0 < Nat.gcd x y := Nat.gcd_pos_of_pos_left _ hx
  obtain ⟨a, ha⟩ := Nat.gcd_dvd_left x y
  obtain ⟨b, hb⟩ := Nat.gcd_dvd_right x y
  have e1 : x / Nat.gcd x y = a := by conv => lhs; rw [show x / Nat.gcd x y = (Nat.gcd x y * a) / Nat.gcd x y by rw [← ha]]; rw [Nat.mul_div_cancel_left _ hg]
  have e2 : y / Nat.gcd x y = b := by conv => lhs; rw [show y / Nat.gcd x y = (Nat.gcd x y * b) / Nat.gcd x y by rw [← hb]]; rw [Nat.mul_div_cancel_left _ hg]
  refine ⟨_, a, b, hg, rfl, ha, hb, e1, e2, ?_, ?_, ?_⟩
  · rw [← e1, ← e2]; exact Nat.coprime_div_gcd_div_gcd hg
  · rcases Nat.eq_zero_or_pos a with h | h
    · subst h; omega
    · exact h
  · rcases Nat.eq_zero_or_pos b with h | h
    · subst h; omega
    · exact h
theorem prod_impl (m n : Nat) (hm : 0 < m) (hn : 0 < n) : impl_product.f (m : Int) (n : Int) = some (if m * n ≤ 1000000000 then (((m * n : Nat) : Int), true) else (0, false)) := by
  unfold impl_product.f
  have h1 : m ≤ m * n := Nat.le_mul_of_pos_right m hn
  have h2 : n ≤ m * n := Nat.le_mul_of_pos_left n hm
  by_cases a : (m : Int) > 1000000000
  · rw [if_pos a, if_neg (by omega)]
  · by_cases b : (n : Int) > 1000000000
    · rw [if_neg a, if_pos b, if_neg (by omega)]
    · have h3 : m * n ≤ 1000000000 * 1000000000 := Nat.mul_le_mul (by omega) (by omega)
      have w : wrap64 ((m : Int) * (n : Int)) = ((m * n : Nat) : Int) := by rw [← Int.natCast_mul]; exact w64 (by omega) (by omega)
      rw [if_neg a, if_neg b, w]
      by_cases c : m * n ≤ 1000000000
      · rw [if_neg (by omega), if_pos c]
      · rw [if_pos (by omega), if_neg c]
theorem sap_step (k : Nat) (o n : Nat) (L : List Int) (i : Nat) (ho : 0 < o) (ho2 : o ≤ 1000000000) (hi : i < L.length) (hL : L.length ≤ 1000) (e : rd L (i : Int) = (n : Int)) : spec_saProduct.l0 (k + 1) (o : Int) L (L.length : Int) (i : Int) = if o * n ≤ 1000000000 then spec_saProduct.l0 k ((o * n : Nat) : Int) L (L.length : Int) ((i + 1 : Nat) : Int) else some (0, false) := by
  simp only [spec_saProduct.l0]
  rw [if_pos (by omega), if_pos (by omega), if_pos (by omega), if_neg (by omega), e]
  have d : Int.tdiv (1000000000 : Int) (o : Int) = ((1000000000 / o : Nat) : Int) := (Int.ofNat_tdiv 1000000000 o).symm
  have db : 1000000000 / o ≤ 1000000000 := Nat.div_le_self _ _
  rw [d, w64n _ (Nat.le_trans db (by decide))]
  have iff : (n : Int) > ((1000000000 / o : Nat) : Int) ↔ ¬ o * n ≤ 1000000000 := by
    rw [Nat.mul_comm, ← Nat.le_div_iff_mul_le ho]; generalize 1000000000 / o = z; omega
  by_cases c : o * n ≤ 1000000000
  · rw [if_neg (fun h => iff.1 h c), if_pos c, ← Int.natCast_mul, w64 (x := ((o * n : Nat) : Int)) (by omega) (by omega), w64 (x := (i : Int) + 1) (by omega) (by omega)]
    rfl
  · rw [if_pos (iff.2 c), if_neg c]
theorem prod_spec (a b c : Nat) (ha : 0 < a) (hb : 0 < b) (hc : 0 < c) : Ev (fun k => spec_saProduct.f k [(a : Int), (b : Int), (c : Int)]) (if a * b * c ≤ 1000000000 then (((a * b * c : Nat) : Int), true) else (0, false)) := by
  refine Ev.of 10 fun k hk => ?_
  obtain ⟨k, rfl⟩ : ∃ m, k = m + 4 := ⟨k - 4, by omega⟩
  unfold spec_saProduct.f
  have h1 : a ≤ a * b := Nat.le_mul_of_pos_right a hb
  have h2 : a * b ≤ a * b * c := Nat.le_mul_of_pos_right _ hc
  have s1 := sap_step (k + 3) 1 a [(a : Int), (b : Int), (c : Int)] 0 (by omega) (by omega) (by simp) (by simp) rfl
  rw [Nat.one_mul] at s1
  refine (show _ = _ from s1).trans ?_
  by_cases c1 : a ≤ 1000000000
  · rw [if_pos c1]
    have s2 := sap_step (k + 2) a b [(a : Int), (b : Int), (c : Int)] 1 ha c1 (by simp) (by simp) rfl
    refine (show _ = _ from s2).trans ?_
    by_cases c2 : a * b ≤ 1000000000
    · rw [if_pos c2]
      have s3 := sap_step (k + 1) (a * b) c [(a : Int), (b : Int), (c : Int)] 2 (by omega) c2 (by simp) (by simp) rfl
      refine (show _ = _ from s3).trans ?_
      by_cases c3 : a * b * c ≤ 1000000000
      · rw [if_pos c3, if_pos c3]
        simp only [spec_saProduct.l0]
        rw [if_neg (by simp)]
      · rw [if_neg c3, if_neg c3]
    · rw [if_neg c2, if_neg (by omega)]
  · rw [if_neg c1, if_neg (by omega)]
theorem tdiv_nat (x g : Nat) : Int.tdiv (x : Int) (g : Int) = ((x / g : Nat) : Int) := (Int.ofNat_tdiv x g).symm
/-- One division of two numbers by their divisor. -/
theorem cross_step (U D : List Int) (i j : Nat) (x y : Nat) (hi : i < U.length) (hj : j < D.length) (hD : D.length = 3) (ex : rd U (i : Int) = (x : Int)) (ey : rd D (j : Int) = (y : Int)) (hx : 0 < x) (bx : x ≤ 9000000000000000000) (by_ : y ≤ 9000000000000000000) {r : Int × Int × Bool}
    (h : Ev (fun k => spec_saCross.l1 k (U.set i ((x / Nat.gcd x y : Nat) : Int)) (D.set j ((y / Nat.gcd x y : Nat) : Int)) (i : Int) 3 (i : Int) 3 ((j + 1 : Nat) : Int)) r) : Ev (fun k => spec_saCross.l1 k U D (i : Int) 3 (i : Int) 3 (j : Int)) r := by
  refine Ev.succ ?_
  simp only [spec_saCross.l1]
  have g := gcd_spec y (x : Int) (y : Int) (by omega) (by omega) (by omega)
  have hg : 0 < Nat.gcd x y := Nat.gcd_pos_of_pos_left _ hx
  have e : ((Int.gcd (x : Int) (y : Int) : Nat) : Int) = ((Nat.gcd x y : Nat) : Int) := rfl
  rw [e] at g
  have d1 : x / Nat.gcd x y ≤ x := Nat.div_le_self _ _
  have d2 : y / Nat.gcd x y ≤ y := Nat.div_le_self _ _
  rw [ex, ey]
  refine Ev.pos (by omega) (Ev.pos (by omega) (Ev.pos (by omega) (Ev.pos (by omega) (Ev.pos (by omega) (Ev.bind (x := ((Nat.gcd x y : Nat) : Int)) (by unfold spec_veCommon.f; exact g) (Ev.neg (by omega) ?_))))))
  rw [tdiv_nat, tdiv_nat, w64n _ (Nat.le_trans d1 bx), w64n _ (Nat.le_trans d2 by_), w64 (x := (j : Int) + 1) (by omega) (by omega)]
  exact h
theorem cross_end (U D : List Int) (i : Nat) (hi : i < 100) {r : Int × Int × Bool} (h : Ev (fun k => spec_saCross.l0 k U D 3 ((i + 1 : Nat) : Int)) r) : Ev (fun k => spec_saCross.l1 k U D (i : Int) 3 (i : Int) 3 (3 : Int)) r := by
  refine Ev.succ ?_
  simp only [spec_saCross.l1]
  rw [w64 (x := (i : Int) + 1) (by omega) (by omega)]
  exact Ev.neg (by omega) h
theorem cross_row (U D : List Int) (i : Nat) (hi : i < 3) (hD : D.length = 3) {r : Int × Int × Bool} (h : Ev (fun k => spec_saCross.l1 k U D (i : Int) 3 (i : Int) 3 ((0 : Nat) : Int)) r) : Ev (fun k => spec_saCross.l0 k U D 3 (i : Int)) r := by
  refine Ev.succ ?_
  simp only [spec_saCross.l0]
  rw [show (D.length : Int) = 3 by omega]
  exact Ev.pos (by omega) h
/-- One row: a number against three. -/
theorem cross_three (U : List Int) (i x a b c : Nat) (hi : i < 3) (hU : U.length = 3) (ex : rd U (i : Int) = (x : Int)) (hx : 0 < x) (ha : 0 < a) (hb : 0 < b) (hc : 0 < c) (bx : x ≤ 9000000000000000000) (ba : a ≤ 9000000000000000000) (bb : b ≤ 9000000000000000000) (bc : c ≤ 9000000000000000000) :
    ∃ g x' a' b' c', 0 < g ∧ x = g * x' ∧ a * b * c = g * (a' * b' * c') ∧ a' ∣ a ∧ b' ∣ b ∧ c' ∣ c ∧ 0 < x' ∧ 0 < a' ∧ 0 < b' ∧ 0 < c' ∧ Nat.Coprime x' a' ∧ Nat.Coprime x' b' ∧ Nat.Coprime x' c' ∧
      ∀ r, Ev (fun k => spec_saCross.l0 k (U.set i (x' : Int)) [(a' : Int), (b' : Int), (c' : Int)] 3 ((i + 1 : Nat) : Int)) r → Ev (fun k => spec_saCross.l0 k U [(a : Int), (b : Int), (c : Int)] 3 (i : Int)) r := by
  obtain ⟨g1, x1, a1, p1, q1, e1, f1, d1, d1', c1, u1, v1⟩ := low_step x a hx ha
  obtain ⟨g2, x2, b1, p2, q2, e2, f2, d2, d2', c2, u2, v2⟩ := low_step x1 b u1 hb
  obtain ⟨g3, x3, c1_, p3, q3, e3, f3, d3, d3', c3, u3, v3⟩ := low_step x2 c u2 hc
  have l1 : x1 ≤ x := by rw [← d1]; exact Nat.div_le_self _ _
  have l2 : x2 ≤ x1 := by rw [← d2]; exact Nat.div_le_self _ _
  refine ⟨g1 * g2 * g3, x3, a1, b1, c1_, Nat.mul_pos (Nat.mul_pos p1 p2) p3, by rw [e1, e2, e3]; simp only [Nat.mul_assoc], by rw [f1, f2, f3]; simp only [Nat.mul_assoc, Nat.mul_left_comm, Nat.mul_comm], ⟨g1, by rw [f1, Nat.mul_comm]⟩, ⟨g2, by rw [f2, Nat.mul_comm]⟩, ⟨g3, by rw [f3, Nat.mul_comm]⟩, u3, v1, v2, v3, ?_, ?_, c3, ?_⟩
  · exact c1.coprime_dvd_left ⟨g2 * g3, by rw [e2, e3]; simp only [Nat.mul_assoc, Nat.mul_left_comm, Nat.mul_comm]⟩
  · exact c2.coprime_dvd_left ⟨g3, by rw [e3, Nat.mul_comm]⟩
  · intro r h
    refine cross_row _ _ i hi rfl ?_
    refine cross_step U _ i 0 x a (by omega) (by simp) rfl ex rfl hx bx ba ?_
    rw [q1, d1, d1']
    have r1 : rd (U.set i (x1 : Int)) (i : Int) = (x1 : Int) := by unfold rd; rw [Int.toNat_natCast, List.getD_eq_getElem?_getD, List.getElem?_set_self (by omega)]; rfl
    refine cross_step (U.set i (x1 : Int)) [(a1 : Int), (b : Int), (c : Int)] i 1 x1 b (by simp; omega) (by simp) rfl r1 rfl u1 (by omega) bb ?_
    rw [q2, d2, d2', List.set_set]
    have r2 : rd (U.set i (x2 : Int)) (i : Int) = (x2 : Int) := by unfold rd; rw [Int.toNat_natCast, List.getD_eq_getElem?_getD, List.getElem?_set_self (by omega)]; rfl
    refine cross_step (U.set i (x2 : Int)) [(a1 : Int), (b1 : Int), (c : Int)] i 2 x2 c (by simp; omega) (by simp) rfl r2 rfl u2 (by omega) bc ?_
    rw [q3, d3, d3', List.set_set]
    exact cross_end _ _ i (by omega) h
def lim (x y : Nat) : Int × Int × Bool := if x ≤ 1000000000 ∧ y ≤ 1000000000 then ((x : Int), (y : Int), true) else (0, 0, false)
/-- What saCross comes to: its numbers in lowest terms, if they are not too great. -/
theorem cross_ev (s1 s2 : Int) (u1 u2 u3 d1 d2 d3 : Nat) (h1 : 0 < u1) (h2 : 0 < u2) (h3 : 0 < u3) (k1 : 0 < d1) (k2 : 0 < d2) (k3 : 0 < d3) (b1 : u1 ≤ 9000000000000000000) (b2 : u2 ≤ 9000000000000000000) (b3 : u3 ≤ 9000000000000000000) (e1 : d1 ≤ 9000000000000000000) (e2 : d2 ≤ 9000000000000000000) (e3 : d3 ≤ 9000000000000000000) :
    ∃ x y, Nat.Coprime x y ∧ x * (d1 * d2 * d3) = y * (u1 * u2 * u3) ∧ 0 < x ∧ 0 < y ∧ ∃ r : Int × Int × Bool, Ev (fun k => spec_saCross.f k s1 (d1 : Int) (u2 : Int) (u3 : Int) s2 (u1 : Int) (d2 : Int) (d3 : Int)) r ∧ (r.2.2 = true → r = ((x : Int), (y : Int), true)) ∧ (r.2.2 = true ↔ x ≤ 1000000000 ∧ y ≤ 1000000000) := by
  obtain ⟨g1, x1, a1, b1_, c1_, p1, m1, n1, da1, db1, dc1, xp1, ap1, bp1, cp1, ca1, cb1, cc1, K1⟩ := cross_three [(u1 : Int), (u2 : Int), (u3 : Int)] 0 u1 d1 d2 d3 (by omega) rfl rfl h1 k1 k2 k3 b1 e1 e2 e3
  have q1 : a1 ≤ d1 := Nat.le_of_dvd k1 da1
  have q2 : b1_ ≤ d2 := Nat.le_of_dvd k2 db1
  have q3 : c1_ ≤ d3 := Nat.le_of_dvd k3 dc1
  obtain ⟨g2, x2, a2, b2_, c2_, p2, m2, n2, da2, db2, dc2, xp2, ap2, bp2, cp2, ca2, cb2, cc2, K2⟩ := cross_three [(x1 : Int), (u2 : Int), (u3 : Int)] 1 u2 a1 b1_ c1_ (by omega) rfl rfl h2 ap1 bp1 cp1 b2 (by omega) (by omega) (by omega)
  have q4 : a2 ≤ a1 := Nat.le_of_dvd ap1 da2
  have q5 : b2_ ≤ b1_ := Nat.le_of_dvd bp1 db2
  have q6 : c2_ ≤ c1_ := Nat.le_of_dvd cp1 dc2
  obtain ⟨g3, x3, a3, b3_, c3_, p3, m3, n3, da3, db3, dc3, xp3, ap3, bp3, cp3, ca3, cb3, cc3, K3⟩ := cross_three [(x1 : Int), (x2 : Int), (u3 : Int)] 2 u3 a2 b2_ c2_ (by omega) rfl rfl h3 ap2 bp2 cp2 b3 (by omega) (by omega) (by omega)
  have cop : Nat.Coprime (x1 * x2 * x3) (a3 * b3_ * c3_) := by
    have r1 : Nat.Coprime x1 (a3 * b3_ * c3_) := ((ca1.symm.coprime_dvd_left (Nat.dvd_trans da3 da2)).symm.mul_right (cb1.symm.coprime_dvd_left (Nat.dvd_trans db3 db2)).symm).mul_right (cc1.symm.coprime_dvd_left (Nat.dvd_trans dc3 dc2)).symm
    have r2 : Nat.Coprime x2 (a3 * b3_ * c3_) := ((ca2.symm.coprime_dvd_left da3).symm.mul_right (cb2.symm.coprime_dvd_left db3).symm).mul_right (cc2.symm.coprime_dvd_left dc3).symm
    have r3 : Nat.Coprime x3 (a3 * b3_ * c3_) := (ca3.mul_right cb3).mul_right cc3
    exact (r1.mul_left r2).mul_left r3
  refine ⟨x1 * x2 * x3, a3 * b3_ * c3_, cop, ?_, Nat.mul_pos (Nat.mul_pos xp1 xp2) xp3, Nat.mul_pos (Nat.mul_pos ap3 bp3) cp3, ?_⟩
  · rw [n1, n2, n3, m1, m2, m3]; simp only [Nat.mul_assoc, Nat.mul_left_comm, Nat.mul_comm]
  · have P1 := prod_spec x1 x2 x3 xp1 xp2 xp3
    have P2 := prod_spec a3 b3_ c3_ ap3 bp3 cp3
    have F : ∀ r, Ev (fun k => spec_saCross.l0 k [(x1 : Int), (x2 : Int), (x3 : Int)] [(a3 : Int), (b3_ : Int), (c3_ : Int)] 3 ((3 : Nat) : Int)) r → Ev (fun k => spec_saCross.f k s1 (d1 : Int) (u2 : Int) (u3 : Int) s2 (u1 : Int) (d2 : Int) (d3 : Int)) r := by
      intro r h
      unfold spec_saCross.f
      exact K1 r (K2 r (K3 r h))
    by_cases c : x1 * x2 * x3 ≤ 1000000000
    · rw [if_pos c] at P1
      by_cases d : a3 * b3_ * c3_ ≤ 1000000000
      · rw [if_pos d] at P2
        refine ⟨_, F _ (Ev.succ (by simp only [spec_saCross.l0]; exact Ev.neg (by omega) (Ev.bind P1 (Ev.bind P2 (Ev.pos rfl (Ev.const rfl)))))), fun _ => rfl, by simp [c, d]⟩
      · rw [if_neg d] at P2
        refine ⟨_, F _ (Ev.succ (by simp only [spec_saCross.l0]; exact Ev.neg (by omega) (Ev.bind P1 (Ev.bind P2 (Ev.pos rfl (Ev.const rfl)))))), fun h => by simp at h, by simp [d]⟩
    · rw [if_neg c] at P1
      refine ⟨_, F _ (Ev.succ (by simp only [spec_saCross.l0]; exact Ev.neg (by omega) (Ev.bind P1 (Ev.bind P2 (Ev.neg (by simp) (Ev.const rfl)))))), fun h => by simp at h, by simp [c]⟩
end Go.Proofs.Ytmlkdkeocbhajaa.PuB
