/- The document's list (muntinref07): how it lies; the walk of At. -/
import Derived.Test.YtgicenbjdadakaaDoorAsmCopy
namespace Go.Proofs.YtgicenbjdadakaaDoor
open Go.RowKit Go.Maps
set_option linter.unusedVariables false
set_option linter.unusedSimpArgs false
/-- A slice that was made here (or nil), as it is read: n things of so many cells. -/
def RowC (w : World) (v : Value) (size n : Nat) (cs : List Value) : Prop :=
  cs.length = n * size ∧ ((v = .slice none 0 0 ∧ n = 0) ∨ ∃ g cap, v = .slice (some ⟨g, 0, none⟩) n cap ∧ n ≤ cap ∧ cap ≤ maxLen ∧ g < w.heap.size ∧ ∀ (j : Nat) u, cs[j]? = some u → w.cell? ⟨g, j, none⟩ = some u)
theorem RowC.of_own {w : World} {B : Nat} {e : TypeId} {size n : Nat} {v : Value} {cs : List Value} (h : w.ownsRow B e size v n cs) : RowC w v size n cs := by
  refine ⟨h.1, ?_⟩
  rcases h.2 with h1 | ⟨g, cap, cur, rfl, hb, hc, h2, h3, _⟩
  · exact .inl h1
  · exact .inr ⟨g, cap, rfl, h2, h3, lt_of_block hc, fun j u hu => by have := h.cells rfl j u hu; rwa [addr_add0] at this⟩
theorem RowC.keep {a b : World} {size n : Nat} {v : Value} {cs : List Value} (h : RowC a v size n cs) (hb : Below a.heap.size a b) : RowC b v size n cs := by
  refine ⟨h.1, ?_⟩
  rcases h.2 with h1 | ⟨g, cap, rfl, h2, h3, h4, h5⟩
  · exact .inl h1
  · exact .inr ⟨g, cap, rfl, h2, h3, Nat.lt_of_lt_of_le h4 hb.size, fun j u hu => ((acell hb).1 g j h4).trans (h5 j u hu)⟩
theorem RowC.keepO {S : Nat → Prop} {a b : World} {size n : Nat} {v : Value} {cs : List Value} (h : RowC a v size n cs) (o : Only S a b) (hs : ∀ k, v.ownBlock = some k → ¬ S k) : RowC b v size n cs := by
  refine ⟨h.1, ?_⟩
  rcases h.2 with h1 | ⟨g, cap, rfl, h2, h3, h4, h5⟩
  · exact .inl h1
  · exact .inr ⟨g, cap, rfl, h2, h3, Nat.lt_of_lt_of_le h4 o.size, fun j u hu => (o.cell (p := ⟨g, j, none⟩) h4 (hs g rfl)).trans (h5 j u hu)⟩
theorem RowC.shape {w : World} {size n : Nat} {v : Value} {cs : List Value} (h : RowC w v size n cs) : ∃ p n c, v = .slice p n c := by
  rcases h.2 with h1 | ⟨g, cap, h1, _⟩
  · exact ⟨_, _, _, h1.1⟩
  · exact ⟨_, _, _, h1⟩
theorem RowC.nil (w : World) (size : Nat) : RowC w (.slice none 0 0) size 0 [] := ⟨by simp, .inl ⟨rfl, rfl⟩⟩
/-- An item's cells; a mark's. -/
def It.cells : It → List Value
  | .put x => x.cells ++ [.bool false, .string ⟨#[]⟩]
  | .far x nm => x.cells ++ [.bool true, .string nm]
theorem It.cells_len (it : It) : it.cells.length = 8 := by cases it <;> rfl
def markC (e : List UInt8 × Int) : List Value := [.string ⟨e.1.toArray⟩, .int .i64 e.2]
theorem markC_len (e : List UInt8 × Int) : (markC e).length = 2 := rfl
def ItemsAt (w : World) (v : Value) (L : List It) : Prop := RowC w v 8 L.length (L.flatMap It.cells)
def MarksAt (w : World) (v : Value) (M : List (List UInt8 × Int)) : Prop := RowC w v 2 M.length (M.flatMap markC)
theorem look_append (A B : List (List UInt8 × Int)) (nm : List UInt8) (h : look A nm = none) : look (A ++ B) nm = look B nm := by
  unfold look at *
  rw [List.find?_append]
  cases hf : A.find? (fun e => e.1 == nm) with
  | none => simp
  | some e => rw [hf] at h; cases h
theorem take_get {α : Type} (l : List α) (k : Nat) (x : α) (h : l[k]? = some x) : l.take (k + 1) = l.take k ++ [x] ∧ l = l.take k ++ (x :: l.drop (k + 1)) := by
  have hlt : k < l.length := by
    rcases Nat.lt_or_ge k l.length with h1 | h1
    · exact h1
    · rw [List.getElem?_eq_none h1] at h; cases h
  rw [List.getElem?_eq_getElem hlt] at h
  cases h
  exact ⟨List.take_succ_eq_append_getElem hlt, by rw [← List.drop_eq_getElem_cons hlt, List.take_append_drop]⟩
theorem look_hit {M : List (List UInt8 × Int)} {k : Nat} {e : List UInt8 × Int} {nm : List UInt8} (h : look (M.take k) nm = none) (hk : M[k]? = some e) (he : e.1 = nm) : look M nm = some e.2 := by
  rw [(take_get M k e hk).2, look_append _ _ _ h]
  simp [look, he]
theorem look_miss {M : List (List UInt8 × Int)} {k : Nat} {e : List UInt8 × Int} {nm : List UInt8} (h : look (M.take k) nm = none) (hk : M[k]? = some e) (he : e.1 ≠ nm) : look (M.take (k + 1)) nm = none := by
  rw [(take_get M k e hk).1, look_append _ _ _ h]
  simp [look, he]
theorem mk_toList (b : ByteArray) : (⟨b.data.toList.toArray⟩ : ByteArray) = b := by cases b; simp
end Go.Proofs.YtgicenbjdadakaaDoor
