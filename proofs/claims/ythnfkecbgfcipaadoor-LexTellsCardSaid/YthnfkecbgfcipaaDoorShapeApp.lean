/- Appending numbers to a slice of one's own. -/
import Derived.Test.YthnfkecbgfcipaaDoorShapeIn
namespace Go.Proofs.YthnfkecbgfcipaaDoor
open Go.RowKit
set_option linter.unusedVariables false
set_option linter.unusedSimpArgs false
theorem IntsIn.one (w : World) (g : Nat) (t : TypeId) (x : Int) (hx : I64 x) (h : w.cell? ⟨g, 0, none⟩ = some (.int .i64 x)) : IntsIn w (.slice (some ⟨g, 0, none⟩) 1 1) [x] :=
  ⟨by simp, some ⟨g, 0, none⟩, 1, g, 0, rfl, ⟨fun _ => rfl, fun h => by cases h⟩, fun k y hy => by
    match k, hy with
    | 0, hy => simp at hy; subst hy; exact ⟨h, hx⟩⟩
theorem ownsRow_low {w : World} {B B' n size : Nat} {e : TypeId} {v : Value} {xs : List Value} (h : w.ownsRow B e size v n xs) (hB : B' ≤ B) : w.ownsRow B' e size v n xs := by
  refine ⟨h.1, ?_⟩
  rcases h.2 with h | ⟨g, cap, cur, h1, h2, h3⟩
  · exact .inl h
  · exact .inr ⟨g, cap, cur, h1, Nat.le_trans hB h2, h3⟩
theorem own_shape {w : World} {B n size : Nat} {e : TypeId} {v : Value} {xs : List Value} (h : w.ownsRow B e size v n xs) : ∃ p c, v = .slice p n c ∧ (∀ k, v.ownBlock = some k → B ≤ k ∧ k < w.heap.size) := by
  rcases h.2 with ⟨rfl, rfl⟩ | ⟨g, cap, cur, rfl, h2, h3, _⟩
  · exact ⟨none, 0, rfl, fun k hk => by cases hk⟩
  · exact ⟨_, _, rfl, fun k hk => by cases hk; exact ⟨h2, lt_of_block h3⟩⟩
/-- A slice of one's own, read. -/
theorem IntsIn.of_own {w : World} {B : Nat} {v : Value} {l : List Int} (h : w.ownsRow B 3 1 v l.length (ints l)) (hl : l.length * 8 ≤ 140737488352000) (hb : ∀ x ∈ l, I64 x) : IntsIn w v l := by
  rcases h.2 with ⟨rfl, h0⟩ | ⟨g, cap, cur, rfl, h2, h3, h4, h5, h6, h7⟩
  · have : l = [] := List.eq_nil_of_length_eq_zero h0
    subst this
    exact ⟨hl, none, 0, 0, 0, rfl, ⟨fun h => by simp at h, fun _ => rfl⟩, fun k x hx => by simp at hx⟩
  · refine ⟨hl, _, _, g, 0, rfl, ⟨fun _ => rfl, fun h => by cases h⟩, fun k x hx => ⟨?_, hb x (List.mem_of_getElem? hx)⟩⟩
    have hk : k < l.length := by
      rcases Nat.lt_or_ge k l.length with h | h
      · exact h
      · rw [List.getElem?_eq_none h] at hx; cases hx
    rw [cell_of_obj h3, Nat.zero_add, Nat.mul_one]
    have e : (cur.toList.take (l.length * 1))[k]? = (ints l)[k]? := by rw [h7]
    rw [List.getElem?_take_of_lt (by omega)] at e
    rw [← Array.getElem?_toList, e]
    simp [ints, hx]
end Go.Proofs.YthnfkecbgfcipaaDoor
