/- The walk of muntinref14.SameInts. -/
import Derived.Test.YthnfkecbgfcipaaDoorShapeRReads
namespace Go.Proofs.YthnfkecbgfcipaaDoor
open Go.RowKit
set_option linter.unusedVariables false
set_option linter.unusedSimpArgs false
theorem sdrewN {B : Nat} {a w : World} (h : Below B a w) (n : Nat) : Below B a (w.drewN n) := ⟨h.os, h.tape, h.output, h.size, h.block⟩
theorem sret_val {a b : Value} (h : a = b) : Ending.returned a = .returned b := by rw [h]
/-- A row opened for a walk: hidden facts on its place and its things. -/
theorem RowIn.hids {α : Type} {At : World → Nat → Nat → α → Prop} {size bytes : Nat} {w : World} {v : Value} {l : List α} (h : RowIn At size bytes w v l) :
    ∃ p c b o, v = .slice p l.length c ∧ l.length * bytes ≤ 140737488352000 ∧ Hid ((0 < l.length → p = some ⟨b, o, none⟩) ∧ ∀ (k : Nat) (x : α), l[k]? = some x → At w b (o + k * size) x) := by
  obtain ⟨h1, p, c, b, o, h2, ⟨h3, _⟩, h4⟩ := h
  exact ⟨p, c, b, o, h2, h1, shid ⟨h3, h4⟩⟩
end Go.Proofs.YthnfkecbgfcipaaDoor
