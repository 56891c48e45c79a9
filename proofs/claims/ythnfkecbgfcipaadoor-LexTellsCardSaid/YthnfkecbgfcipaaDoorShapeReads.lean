/- The walk of shape.Reads. -/
import Derived.Test.YthnfkecbgfcipaaDoorShapeIns
import Derived.Lib.SliceRun
namespace Go.Proofs.YthnfkecbgfcipaaDoor
open Go.RowKit
set_option linter.unusedVariables false
set_option linter.unusedSimpArgs false
theorem IntsOwn.of_below {w w1 w' : World} {l : List Int} {e : Ending} (hb : Below w.heap.size w w1) (h : IntsOwn w1 l e w') : IntsOwn w l e w' := by
  obtain ⟨v, he, ho, hb2⟩ := h
  refine ⟨v, he, ⟨ho.1, ?_⟩, sbt hb hb2⟩
  rcases ho.2 with h | ⟨g, cap, cur, h1, h2, h3⟩
  · exact .inl h
  · exact .inr ⟨g, cap, cur, h1, Nat.le_trans hb.size h2, h3⟩
end Go.Proofs.YthnfkecbgfcipaaDoor
