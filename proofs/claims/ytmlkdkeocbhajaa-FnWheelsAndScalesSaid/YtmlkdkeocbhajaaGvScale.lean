/- Pairs of whole numbers as keys of a map. -/
import Derived.Test.YtmlkdkeocbhajaaGvMap
namespace Go.Proofs.Ytmlkdkeocbhajaa.Gv
open Go.RowKit Go.Maps Go.WideShapes
def ev2 (x : Int × Int) : Value := .agg #[.int .i64 x.1, .int .i64 x.2]
theorem ev2_inj (y x : Int × Int) (h : ev2 y = ev2 x) : y = x := by
  simp [ev2] at h; exact Prod.ext h.1 h.2
theorem kt2 : Try.prog.keyType 150 = true := by kernel_rfl
theorem cc2 : Try.prog.cellsOf 150 = 2 := by kernel_rfl
theorem cc1 : Try.prog.cellsOf 3 = 1 := by kernel_rfl
theorem keyed2 : Keyed Try.prog 150 := Keyed.of_law (deep_law_laid laidOut (m := 2) (by omega) (by decide +kernel) (by kernel_rfl) (by kernel_rfl))
theorem key2 (x y : Int) (hx : (Lit.int .i64 x).wf = true) (hy : (Lit.int .i64 y).wf = true) : ∃ l, keyOf Try.prog 150 (ev2 (x, y)) = some l := by
  have hf : (ev2 (x, y)).formed Try.prog 150 = true := by simp [ev2, Value.formed, Try.underlying150, cc2]
  have h1 : 1 ≤ Try.prog.types.size := by decide +kernel
  obtain ⟨m, hm⟩ : ∃ m, Try.prog.types.size + 1 = m + 1 + 1 := ⟨Try.prog.types.size - 1, by omega⟩
  unfold keyOf
  rw [Try.underlying150]
  simp only [kt2, hf, Bool.and_self, if_true, hm]
  simp [Program.keyLits, Try.underlying150, Try.underlying3, cc2, cc1, ev2, Value.cells, List.range, List.range.loop, hx, hy]
theorem zeroInt (w : World) : (zeroValue 3).run Try.prog w = .ok (.int .i64 0) w := by kernel_rfl
end Go.Proofs.Ytmlkdkeocbhajaa.Gv
