/- A cell that is stored twice in a row reads as what came last. -/
import Derived.Test.YtflbcikfphfkdaaProg
import Derived.WalkKit
import Derived.Laws.Entries
namespace Go.Proofs.Ytflbcikfphfkdaa.Gv
@[go_sem] theorem cell_twice (w : World) (a : Addr) (x y : Value) (h : (w.cell? a).isSome = true) : ((w.setCell a x).setCell a y).cell? a = some y :=
  World.cell?_setCell_same' _ _ _ (by rw [World.cell?_setCell_same' w a x h]; rfl)
end Go.Proofs.Ytflbcikfphfkdaa.Gv
