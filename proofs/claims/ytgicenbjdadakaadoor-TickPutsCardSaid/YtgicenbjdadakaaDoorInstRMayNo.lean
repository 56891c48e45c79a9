/- The document's May refuses what no operation has. -/
import Derived.Test.YtgicenbjdadakaaDoorInstRKind
namespace Go.Proofs.YtgicenbjdadakaaDoor
open Go.RowKit
set_option linter.unusedVariables false
set_option linter.unusedSimpArgs false
theorem may_out2 {x : Ix} (h : (x.is = true ∧ x.rs2 ≠ 0) ∨ (x.is = false ∧ x.imm ≠ 0)) : mayB x = false := by
  unfold mayB mayP
  refine decide_eq_false ?_
  rintro ⟨h1, h2, h3, h4⟩
  by_cases hl : longK (kindS x.op)
  · have := ok_long hl h4
    rcases h with h | h
    · exact h.2 this.2.2.1
    · rw [this.1] at h; simp at h
  · have := ok_short hl h4
    rcases h with h | h
    · exact h.2 (this.1 h.1).1
    · exact h.2 (this.2 h.1)
end Go.Proofs.YtgicenbjdadakaaDoor
