/- Several texts in one: SwapFine. -/
import Derived.Test.YtajholbcpmjhiaaGreatDoorH31
set_option linter.unusedVariables false
set_option linter.unusedSimpArgs false
/- The two handlers of package swap, as words: reckoned for every number of windows. No walk. -/
namespace Go.Proofs.YtajholbcpmjhiaaGreatDoor
open Go.RowKit
def swapFine (nw : Nat) : Bool :=
  decide (wordsE (asm0.swap nw).M 0 (asm0.swap nw).L = 0) && decide (wordsL (asm0.swap nw).M 0 (asm0.swap nw).L = (swapI nw).map encS) && (swapI nw).all (fun x => decide (okI x)) && decide (atN (asm0.swap nw).M ⟨nmYield.toArray⟩ = 4) && decide (atE (asm0.swap nw).M ⟨nmYield.toArray⟩ = 0) && decide (atN (asm0.swap nw).M ⟨nmEnd.toArray⟩ = 0) && decide (atE (asm0.swap nw).M ⟨nmEnd.toArray⟩ = 0) && (asm0.swap nw).M.all (fun e => decide (0 ≤ e.2 ∧ e.2 < 1000))
theorem swap_fine2 : swapFine 2 = true := by kernel_rfl
theorem swap_fine3 : swapFine 3 = true := by kernel_rfl
theorem swap_fine4 : swapFine 4 = true := by kernel_rfl
theorem swap_fine5 : swapFine 5 = true := by kernel_rfl
theorem swap_fine6 : swapFine 6 = true := by kernel_rfl
theorem swap_fine7 : swapFine 7 = true := by kernel_rfl
theorem swap_fine8 : swapFine 8 = true := by kernel_rfl
theorem swap_fine9 : swapFine 9 = true := by kernel_rfl
theorem swap_fine10 : swapFine 10 = true := by kernel_rfl
theorem swap_fine11 : swapFine 11 = true := by kernel_rfl
theorem swap_fine12 : swapFine 12 = true := by kernel_rfl
theorem swap_fine13 : swapFine 13 = true := by kernel_rfl
theorem swap_fine14 : swapFine 14 = true := by kernel_rfl
theorem swap_fine15 : swapFine 15 = true := by kernel_rfl
theorem swap_fine16 : swapFine 16 = true := by kernel_rfl
theorem swap_fine17 : swapFine 17 = true := by kernel_rfl
theorem swap_fine18 : swapFine 18 = true := by kernel_rfl
theorem swap_fine19 : swapFine 19 = true := by kernel_rfl
theorem swap_fine20 : swapFine 20 = true := by kernel_rfl
theorem swap_fine21 : swapFine 21 = true := by kernel_rfl
theorem swap_fine22 : swapFine 22 = true := by kernel_rfl
theorem swap_fine23 : swapFine 23 = true := by kernel_rfl
theorem swap_fine24 : swapFine 24 = true := by kernel_rfl
theorem swap_fine25 : swapFine 25 = true := by kernel_rfl
theorem swap_fine26 : swapFine 26 = true := by kernel_rfl
theorem swap_fine27 : swapFine 27 = true := by kernel_rfl
theorem swap_fine28 : swapFine 28 = true := by kernel_rfl
theorem swap_fine29 : swapFine 29 = true := by kernel_rfl
theorem swap_fine30 : swapFine 30 = true := by kernel_rfl
theorem swap_fine31 : swapFine 31 = true := by kernel_rfl
theorem swap_fine32 : swapFine 32 = true := by kernel_rfl
theorem swap_fine : ∀ {nw : Nat}, 2 ≤ nw → nw ≤ 32 → swapFine nw = true
  | 2, _, _ => swap_fine2
  | 3, _, _ => swap_fine3
  | 4, _, _ => swap_fine4
  | 5, _, _ => swap_fine5
  | 6, _, _ => swap_fine6
  | 7, _, _ => swap_fine7
  | 8, _, _ => swap_fine8
  | 9, _, _ => swap_fine9
  | 10, _, _ => swap_fine10
  | 11, _, _ => swap_fine11
  | 12, _, _ => swap_fine12
  | 13, _, _ => swap_fine13
  | 14, _, _ => swap_fine14
  | 15, _, _ => swap_fine15
  | 16, _, _ => swap_fine16
  | 17, _, _ => swap_fine17
  | 18, _, _ => swap_fine18
  | 19, _, _ => swap_fine19
  | 20, _, _ => swap_fine20
  | 21, _, _ => swap_fine21
  | 22, _, _ => swap_fine22
  | 23, _, _ => swap_fine23
  | 24, _, _ => swap_fine24
  | 25, _, _ => swap_fine25
  | 26, _, _ => swap_fine26
  | 27, _, _ => swap_fine27
  | 28, _, _ => swap_fine28
  | 29, _, _ => swap_fine29
  | 30, _, _ => swap_fine30
  | 31, _, _ => swap_fine31
  | 32, _, _ => swap_fine32
  | 0, h, _ => absurd h (by omega)
  | 1, h, _ => absurd h (by omega)
  | n + 33, _, h => absurd h (by omega)
structure SwapIs (nw : Nat) : Prop where
  e : wordsE (asm0.swap nw).M 0 (asm0.swap nw).L = 0
  l : wordsL (asm0.swap nw).M 0 (asm0.swap nw).L = (swapI nw).map encS
  ok : ∀ x ∈ swapI nw, okI x
  y : atN (asm0.swap nw).M ⟨nmYield.toArray⟩ = 4
  ye : atE (asm0.swap nw).M ⟨nmYield.toArray⟩ = 0
  z : atN (asm0.swap nw).M ⟨nmEnd.toArray⟩ = 0
  ze : atE (asm0.swap nw).M ⟨nmEnd.toArray⟩ = 0
  m : ∀ e ∈ (asm0.swap nw).M, 0 ≤ e.2 ∧ e.2 < 1000
theorem swap_is {nw : Nat} (h2 : 2 ≤ nw) (h32 : nw ≤ 32) : SwapIs nw := by
  have h := swap_fine h2 h32
  unfold swapFine at h
  simp only [Bool.and_eq_true, decide_eq_true_eq, List.all_eq_true] at h
  obtain ⟨⟨⟨⟨⟨⟨⟨a, b⟩, c⟩, d⟩, e⟩, f⟩, g⟩, i⟩ := h
  exact ⟨a, b, c, d, e, f, g, i⟩
end Go.Proofs.YtajholbcpmjhiaaGreatDoor
