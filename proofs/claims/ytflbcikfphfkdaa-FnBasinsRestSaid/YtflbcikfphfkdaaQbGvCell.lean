/- Cells that are stored again and again: what is read is what came last; a cell lies there if it lay there before. -/
import Derived.Test.YtflbcikfphfkdaaProg
import Derived.WalkKit
import Derived.Laws.Entries
namespace Go.Proofs.Ytflbcikfphfkdaa.Gv
@[go_sem] theorem cell_isSome_set (w : World) (a b : Addr) (x : Value) : ((w.setCell b x).cell? a).isSome = (w.cell? a).isSome := by
  simp only [World.setCell, World.cell?, Array.getElem?_modify]
  by_cases hb : b.block = a.block
  · simp only [hb, if_true]
    cases w.heap[a.block]? with
    | none => simp
    | some o =>
      cases o with
      | cells c e f =>
        simp only [Option.map_some]
        by_cases h1 : a.spot.isSome = true
        · rw [if_pos h1, if_pos h1]
        · rw [if_neg h1, if_neg h1]
          by_cases h2 : b.spot.isSome = true
          · rw [if_pos h2]
          · rw [if_neg h2, Array.getElem?_setIfInBounds]
            by_cases h3 : b.off = a.off
            · rw [if_pos h3]
              by_cases h4 : a.off < c.size
              · simp [h3, h4]
              · simp [h3, h4]
            · rw [if_neg h3]
      | _ => simp
  · simp only [hb, if_false]
@[go_sem high] theorem cell_same_some (w : World) (a : Addr) (y : Value) (h : (w.cell? a).isSome = true) : (w.setCell a y).cell? a = some y := by
  obtain ⟨v, hv⟩ := Option.isSome_iff_exists.mp h
  exact World.cell?_setCell_same' _ _ _ (by rw [hv]; rfl)
end Go.Proofs.Ytflbcikfphfkdaa.Gv
