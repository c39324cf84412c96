/- FnExactSumsOf: the law answers true at every input that can be read as data (each number of its kind). The row; its pure statement stands in YtieioddimkafbaaPureFnExactSumsOf. -/
import Derived.Test.YtieioddimkafbaaRows
import Derived.Test.YtieioddimkafbaaTbLSx1
import Derived.Test.YtieioddimkafbaaTbPureFnExactSumsOf
import Derived.WalkKit
import Derived.ProofKit
import Derived.OpenShut
import Derived.ShutString
import Derived.ChangeOld
import Derived.Below
import Derived.SizedLaws
import Derived.Carry
import Derived.Lib.SmallJoins
namespace Go.Proofs.Ytieioddimkafbaa.fnExactSumsOf
open Go.ChangeShapes Go.WideShapes Go.ChangeAt Go.RowKit Go.Joins
open Go.ChangeMaps (open_string shut_string)
set_option linter.unusedVariables false
theorem own : ownKnob Try.prog.godebug = none := by kernel_rfl
theorem laidOut : laidOutB Try.prog = true := by kernel_rfl
def IsRow (k : IntKind) (w : World) (a : Option Addr) (len cap : Nat) (zs : List Int) : Prop :=
  (a = none ∧ len = 0 ∧ cap = 0 ∧ zs = []) ∨
  ∃ x, a = some x ∧ len ≤ cap ∧ cap ≤ maxLen ∧ zs.length = cap ∧ (∀ i, i < zs.length → w.cell? (x.add i) = some (.int k (zs.getD i 0))) ∧ ∀ n ∈ zs, (Lit.int k n).wf = true
open Go.Proofs.YtieioddimkafbaaW.PrintWords
theorem walk (l0_0 : List Int) (l0_1 : List Int) (A0_0 : Option Addr) (c0_0 : Nat) (A0_1 : Option Addr) (c0_1 : Nat) (w : World) (n0_0 : l0_0.length ≤ 9223372036854775807) (w0_0 : ∀ x ∈ l0_0, (Lit.int .i64 x).wf = true) (n0_1 : l0_1.length ≤ 9223372036854775807) (w0_1 : ∀ x ∈ l0_1, (Lit.int .i64 x).wf = true) (hr0_0 : ReadsInt w .i64 A0_0 l0_0.length l0_0) (hc0_0 : l0_0.length ≤ c0_0) (hr0_1 : ReadsInt w .i64 A0_1 l0_1.length l0_1) (hc0_1 : l0_1.length ≤ c0_1) :
    Calls Try.prog 10 #[.agg #[.slice A0_0 l0_0.length c0_0, .slice A0_1 l0_1.length c0_1]] w fun e w' => e = .returned (.bool true) ∧ Below w.heap.size w w' := by
  obtain ⟨k, h⟩ := Pure.FnExactSumsOf l0_0 l0_1 n0_0 w0_0 n0_1 w0_1
  refine (V.laws_FnExactSumsOf.calls k A0_0 c0_0 l0_0 A0_1 c0_1 l0_1 true w (Kd.C_of_reads (d := (0 : Int)) (h1 := fun _ => rfl) hr0_0) hc0_0 (Kd.C_of_reads (d := (0 : Int)) (h1 := fun _ => rfl) hr0_1) hc0_1 ⟨rfl⟩ h).mono ?_
  rintro e w' ⟨rfl, hd⟩
  exact ⟨rfl, hd⟩
set_option maxRecDepth 100000 in
theorem lifted (os : Os) (started : os.Started) (H : Type) (enc : TypeId × Value → H) :
    ReturnsInHanded {} Try.checked os 10 .any (Rows.fnExactSumsOfSpec.pre6 enc Try.prog Try.f10 Rows.fnExactSumsOfRow.domain false) (Rows.fnExactSumsOfSpec.post enc Try.prog Try.f10 false true false false) := by
  refine returnsInHanded_of_change_sized (C := Try.checked) own started (by kernel_rfl) Try.func10
    (ChangeSpec.witness6 (enc := enc) (C := Try.checked) false ⟨#[], #[.agg #[.slice none 0 0, .slice none 0 0]], []⟩ 8 (by kernel_rfl) (by kernel_rfl) (by kernel_rfl) (by kernel_rfl)) ?_
  intro W base args ds gs before hval0 hW hcnd hsz0 _
  have hsz : (DataW.weightsEach Try.prog (Try.f10.params.toList ++ Rows.fnExactSumsOfSpec.plain.varTypes Try.prog) (ds ++ gs)).all (· ≤ reachBytes) = true := hsz0
  have hval : ∀ (j : Nat) t v, Try.f10.params[j]? = some t → args[j]? = some v → Value.okWide Try.prog W .any base t v := hval0
  have hW' := hW
  obtain ⟨p, q, hA0, hV, rfl, hfz, hnd⟩ := hW
  have hA : DataW.TrodAll enc Try.prog W 0 (fun _ => true) true Try.f10.params.toList args.toList ds p := hA0
  rw [Try.params10] at hA hval hsz
  obtain ⟨v0, vs0, d0, ds0, p0, q0, hargs, rfl, rfl, h0, r0⟩ := trodAll_cons hA
  obtain ⟨rfl, rfl, rfl⟩ := trodAll_nil r0
  obtain rfl : args = #[v0] := by cases args; simp_all
  obtain ⟨rfl, rfl⟩ := trodVars_none hV
  have k0 := h0
  have lt0 : ∀ x ∈ p0, x.block < W.heap.size := by obtain ⟨m, hm⟩ := k0; exact DataW.trod_lt m _ _ _ hm
  obtain ⟨cs0, rfl, hz0⟩ := okWide_struct Try.underlying32 (hval 0 32 v0 rfl rfl)
  obtain ⟨c0_0, c0_1, rfl⟩ := array2 (hz0.trans (by kernel_rfl))
  obtain ⟨fu0, hf0⟩ := h0
  obtain ⟨y0_0_0, y0_0_1, m0_0, _, _, g0_0_0, g0_0_1⟩ := trod_struct2 Try.underlying32 hf0
  replace g0_0_0 : DataW.trod enc Try.prog W 0 (fun _ => true) true m0_0 30 [c0_0] = some y0_0_0 := by
    have ce : Try.prog.cellsOf 30 = 1 := by kernel_rfl
    simpa [Value.cells, ce] using g0_0_0
  obtain ⟨A0_0, le0_0, ca0_0, ec0_0, z0_0, row0_0⟩ : ∃ a le ca, c0_0 = .slice a le ca ∧ ∃ zs, IsRow .i64 W a le ca zs := by
    rcases open_ints Try.underlying30 Try.underlying3 (by kernel_rfl) g0_0_0 with ⟨hcs, _⟩ | ⟨x, l, c, zs, hcs, _, hl, hm, hz, _, hcell, hwz⟩
    · exact ⟨none, 0, 0, by simpa using hcs, [], .inl ⟨rfl, rfl, rfl, rfl⟩⟩
    · exact ⟨some x, l, c, by simpa using hcs, zs, .inr ⟨_, rfl, hl, hm, by simpa using hz, hcell, hwz⟩⟩
  obtain ⟨l0_0, rfl, hr0_0, n0_0, w0_0, hc0_0⟩ := Go.Proofs.YtieioddimkafbaaW.PrintWords.ReadsInt.ofRowC row0_0
  unfold maxLen at n0_0
  subst ec0_0
  replace g0_0_1 : DataW.trod enc Try.prog W 0 (fun _ => true) true m0_0 30 [c0_1] = some y0_0_1 := by
    have ce : Try.prog.cellsOf 30 = 1 := by kernel_rfl
    simpa [Value.cells, ce] using g0_0_1
  obtain ⟨A0_1, le0_1, ca0_1, ec0_1, z0_1, row0_1⟩ : ∃ a le ca, c0_1 = .slice a le ca ∧ ∃ zs, IsRow .i64 W a le ca zs := by
    rcases open_ints Try.underlying30 Try.underlying3 (by kernel_rfl) g0_0_1 with ⟨hcs, _⟩ | ⟨x, l, c, zs, hcs, _, hl, hm, hz, _, hcell, hwz⟩
    · exact ⟨none, 0, 0, by simpa using hcs, [], .inl ⟨rfl, rfl, rfl, rfl⟩⟩
    · exact ⟨some x, l, c, by simpa using hcs, zs, .inr ⟨_, rfl, hl, hm, by simpa using hz, hcell, hwz⟩⟩
  obtain ⟨l0_1, rfl, hr0_1, n0_1, w0_1, hc0_1⟩ := Go.Proofs.YtieioddimkafbaaW.PrintWords.ReadsInt.ofRowC row0_1
  unfold maxLen at n0_1
  subst ec0_1
  clear hA0 hval0 hsz0 hsz
  refine (walk l0_0 l0_1 _ _ _ _ W n0_0 w0_0 n0_1 w0_1 hr0_0 hc0_0 hr0_1 hc0_1).mono fun e W' ⟨he, bel⟩ => ?_
  subst he
  exact ⟨_, rfl, _, _, _, [], _, [], hW', trodAll_mk1 (shut_bool Try.underlying4 _), (trodAll_cons_mk (Below.trod laidOut (by kernel_rfl) (of_decide_eq_true (by kernel_rfl)) k0 bel lt0) trodAll_mk0), rfl, bel.frame _, fun h => by cases h⟩
theorem over : Rows.fnExactSumsOfRow.holds Try.pinned (OpenSpec.ofChange Rows.fnExactSumsOfSpec) :=
  OpenClaim.holds_of_wide 10 Try.f10 rfl rfl rfl rfl rfl rfl rfl ⟨rfl, rfl, rfl, rfl, rfl⟩ rfl rfl rfl rfl rfl (by kernel_rfl) Try.func10 (by kernel_rfl)
    (of_decide_eq_true (by kernel_rfl)) (by unfold Func.isWrapper; first | (rw [if_pos (by decide +kernel)]; kernel_rfl) | (rw [if_neg (by decide +kernel)]; exact ⟨rfl, rfl⟩))
    (fun os started H enc _ => lifted os started H enc)
theorem proved : Rows.FnExactSumsOfSaid := over
end Go.Proofs.Ytieioddimkafbaa.fnExactSumsOf
namespace Go.Proofs.Ytieioddimkafbaa
/-- The row, under a short name, for the claim. -/
theorem fnExactSumsOf_holds : Rows.FnExactSumsOfSaid := fnExactSumsOf.proved
end Go.Proofs.Ytieioddimkafbaa
