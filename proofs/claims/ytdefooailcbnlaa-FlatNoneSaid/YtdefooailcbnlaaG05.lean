/- The walk of muntinlaw14.tells. -/
import Derived.Test.YtdefooailcbnlaaG03
import Derived.Deep.RegionHeld3
namespace Go.Proofs.Ytdefooailcbnlaa
open Go.RowKit
set_option linter.unusedVariables false
set_option linter.unusedSimpArgs false
theorem readsS_bd {x : Insx} (hx : x.bd) : ∀ y ∈ readsS x, I64 y := by
  obtain ⟨_, _, xa, xb, _, _, xs, _⟩ := hx
  unfold readsS
  split
  · intro y hy; simp at hy; rcases hy with rfl | rfl <;> assumption
  · split
    · intro y hy; simp at hy; rcases hy with rfl; assumption
    · split
      · exact xs
      · intro y hy; simp at hy
theorem readsS_len {x : Insx} (hl : x.args.length * 8 ≤ 140737488352000) : (readsS x).length * 8 ≤ 140737488352000 := by
  unfold readsS
  split
  · simp
  · split
    · simp
    · split
      · exact hl
      · simp
theorem IntsIn.of_ints {x : Insx} (hx : x.bd) {w w' : World} (hl : x.args.length * 8 ≤ 140737488352000) {v : Value} (h : w'.ownsRow w.heap.size 3 1 v (readsS x).length (ints (readsS x))) : IntsIn w' v (readsS x) :=
  IntsIn.of_own h (readsS_len hl) (readsS_bd hx)
end Go.Proofs.Ytdefooailcbnlaa
