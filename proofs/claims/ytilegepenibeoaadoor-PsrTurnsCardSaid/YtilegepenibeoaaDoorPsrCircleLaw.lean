/- Plain law of windows in a circle. -/
import Derived.Test.YtilegepenibeoaaDoorPsrRRes
namespace Go.Proofs.YtilegepenibeoaaDoor
open Go.RowKit
set_option linter.unusedVariables false
set_option linter.unusedSimpArgs false
theorem circ_next {x n : Int} (hw : winP n) (hx : 0 ≤ x ∧ x < n) : (x + 1 < n → (x + 1) % n = x + 1) ∧ (x + 1 = n → (x + 1) % n = 0) := by
  obtain ⟨h1, h2⟩ := hw
  exact ⟨fun h => Int.emod_eq_of_lt (by omega) h, fun h => by rw [h]; exact Int.emod_self⟩
theorem circ_ahead {x n : Int} (hw : winP n) (hx : 0 ≤ x ∧ x < n) : (x = 0 → (x + (n - 1)) % n = n - 1) ∧ (0 < x → (x + (n - 1)) % n = x - 1) := by
  obtain ⟨h1, h2⟩ := hw
  refine ⟨fun h => by rw [h]; rw [show (0 : Int) + (n - 1) = n - 1 by omega]; exact Int.emod_eq_of_lt (by omega) (by omega), fun h => ?_⟩
  rw [show x + (n - 1) = (x - 1) + n by omega, Int.add_emod_right]
  exact Int.emod_eq_of_lt (by omega) (by omega)
theorem circ_far {x v n : Int} (hw : winP n) (hx : 0 ≤ x ∧ x < n) (hv : 0 ≤ v ∧ v < n) : (x ≤ v → (v - x) % n = v - x) ∧ (v < x → (v - x) % n = v - x + n) := by
  obtain ⟨h1, h2⟩ := hw
  refine ⟨fun h => Int.emod_eq_of_lt (by omega) (by omega), fun h => ?_⟩
  rw [← Int.add_emod_right]
  exact Int.emod_eq_of_lt (by omega) (by omega)
theorem circ_facts {x v n : Int} (hw : winP n) (hx : 0 ≤ x ∧ x < n) (hv : 0 ≤ v ∧ v < n) :
    0 ≤ (x + 1) % n ∧ (x + 1) % n < n ∧ ((x + 1) % n + (n - 1)) % n = x ∧ (x + 1) % n ≠ x ∧ 0 ≤ (v - x) % n ∧ (v - x) % n ≤ n - 1 ∧ ((v - x) % n = 0 ↔ x = v) ∧ ((x + (n - 1)) % n = v → (v - x) % n = n - 1) := by
  obtain ⟨a1, a2⟩ := circ_next hw hx
  obtain ⟨d1, d2⟩ := circ_far hw hx hv
  obtain ⟨e1, e2⟩ := circ_ahead hw hx
  have hw' := hw
  obtain ⟨h1, h2⟩ := hw
  have hnx : (x + 1) % n = x + 1 ∧ x + 1 < n ∨ (x + 1) % n = 0 ∧ x + 1 = n := by
    by_cases h : x + 1 < n
    · exact .inl ⟨a1 h, h⟩
    · exact .inr ⟨a2 (by omega), by omega⟩
  have hfar : (v - x) % n = v - x ∧ x ≤ v ∨ (v - x) % n = v - x + n ∧ v < x := by
    by_cases h : x ≤ v
    · exact .inl ⟨d1 h, h⟩
    · exact .inr ⟨d2 (by omega), by omega⟩
  have hah : (x + (n - 1)) % n = n - 1 ∧ x = 0 ∨ (x + (n - 1)) % n = x - 1 ∧ 0 < x := by
    by_cases h : x = 0
    · exact .inl ⟨e1 h, h⟩
    · exact .inr ⟨e2 (by omega), by omega⟩
  have hb : ((x + 1) % n + (n - 1)) % n = x := by
    rcases hnx with ⟨h, h'⟩ | ⟨h, h'⟩
    · rw [h]; obtain ⟨_, g⟩ := circ_ahead hw' (x := x + 1) ⟨by omega, by omega⟩; rw [g (by omega)]; omega
    · rw [h]; obtain ⟨g, _⟩ := circ_ahead hw' (x := 0) ⟨by omega, by omega⟩; rw [g rfl]; omega
  refine ⟨by omega, by omega, hb, by omega, by omega, by omega, ?_, ?_⟩
  · constructor <;> intro h <;> omega
  · intro h; omega
end Go.Proofs.YtilegepenibeoaaDoor
