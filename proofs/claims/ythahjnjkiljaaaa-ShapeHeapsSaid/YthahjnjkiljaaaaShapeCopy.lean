/- Rows of structs, copied into blocks of one's own. No function of the program is walked here. -/
import Derived.Test.YthahjnjkiljaaaaShapeLaw
namespace Go.Proofs.Ythahjnjkiljaaaa
open Go.RowKit
set_option linter.unusedVariables false
set_option linter.unusedSimpArgs false
/-- What lies in size cells, each of them one; and it may lie elsewhere. -/
structure Flat {α : Type} (At : World → Nat → Nat → α → Prop) (size : Nat) : Prop where
  cells : ∀ (w : World) b o x, At w b o x → ∀ j, j < size → ∃ u, w.cell? ⟨b, o + j, none⟩ = some u ∧ u.oneCell' = true
  move : ∀ (w W : World) b o g q x, At w b o x → Below w.heap.size w W → (∀ j, j < size → W.cell? ⟨g, q + j, none⟩ = w.cell? ⟨b, o + j, none⟩) → At W g q x
theorem one_slice {α : Type} {At : World → Nat → Nat → α → Prop} {size bytes : Nat} {w : World} {v : Value} {l : List α} (h : RowIn At size bytes w v l) : v.oneCell' = true := by
  obtain ⟨p, c, rfl⟩ := h.shape; rfl
theorem flat_int : Flat IntAt 1 := by
  refine ⟨fun w b o x h j hj => ?_, fun w W b o g q x h hb hc => ⟨(hc 0 (by omega)).trans h.1, h.2⟩⟩
  obtain rfl : j = 0 := by omega
  exact ⟨_, h.1, rfl⟩
theorem flat_ins : Flat InsxAt 9 := by
  refine ⟨fun w b o x h j hj => ?_, fun w W b o g q x h hb hc => ?_⟩
  · obtain ⟨v, h6, hv⟩ := h.c6
    rcases j with _ | _ | _ | _ | _ | _ | _ | _ | _ | j
    · exact ⟨_, h.c0, rfl⟩
    · exact ⟨_, h.c1, rfl⟩
    · exact ⟨_, h.c2, rfl⟩
    · exact ⟨_, h.c3, rfl⟩
    · exact ⟨_, h.c4, rfl⟩
    · exact ⟨_, h.c5, rfl⟩
    · exact ⟨_, h6, one_slice hv⟩
    · exact ⟨_, h.c7, rfl⟩
    · exact ⟨_, h.c8, rfl⟩
    · omega
  · obtain ⟨v, h6, hv⟩ := h.c6
    exact ⟨(hc 0 (by omega)).trans h.c0, (hc 1 (by omega)).trans h.c1, (hc 2 (by omega)).trans h.c2, (hc 3 (by omega)).trans h.c3, (hc 4 (by omega)).trans h.c4, (hc 5 (by omega)).trans h.c5, ⟨v, (hc 6 (by omega)).trans h6, IntsIn.keep hv hb⟩, (hc 7 (by omega)).trans h.c7, (hc 8 (by omega)).trans h.c8, h.bd⟩
theorem flat_blk : Flat BlkAt 2 := by
  refine ⟨fun w b o x h j hj => ?_, fun w W b o g q x h hb hc => ?_⟩
  · obtain ⟨v, h1, hv⟩ := h.c1
    rcases j with _ | _ | j
    · exact ⟨_, h.c0, rfl⟩
    · exact ⟨_, h1, one_slice hv⟩
    · omega
  · obtain ⟨v, h1, hv⟩ := h.c1
    exact ⟨(hc 0 (by omega)).trans h.c0, ⟨v, (hc 1 (by omega)).trans h1, InsxIn.keep hv hb⟩, h.nm⟩
theorem flat_fn : Flat FnAt 4 := by
  refine ⟨fun w b o x h j hj => ?_, fun w W b o g q x h hb hc => ?_⟩
  · obtain ⟨v, h3, hv⟩ := h.c3
    rcases j with _ | _ | _ | _ | j
    · exact ⟨_, h.c0, rfl⟩
    · exact ⟨_, h.c1, rfl⟩
    · exact ⟨_, h.c2, rfl⟩
    · exact ⟨_, h3, one_slice hv⟩
    · omega
  · obtain ⟨v, h3, hv⟩ := h.c3
    exact ⟨(hc 0 (by omega)).trans h.c0, (hc 1 (by omega)).trans h.c1, (hc 2 (by omega)).trans h.c2, ⟨v, (hc 3 (by omega)).trans h3, BlksIn.keep hv hb⟩, h.nm, h.ba, h.br⟩
/-- The cells of a row. -/
def rowCells (w : World) (b o n : Nat) : List Value := (List.range n).map fun j => (w.cell? ⟨b, o + j, none⟩).getD undef
theorem rowCells_length (w : World) (b o n : Nat) : (rowCells w b o n).length = n := by simp [rowCells]
theorem rowCells_get {w : World} {b o n j : Nat} (hj : j < n) : (rowCells w b o n)[j]? = some ((w.cell? ⟨b, o + j, none⟩).getD undef) := by simp [rowCells, hj]
section
variable {α : Type} {At : World → Nat → Nat → α → Prop} {size bytes : Nat}
theorem row_cells (hF : Flat At size) {w : World} {b o : Nat} {l : List α} (h : ∀ (k : Nat) x, l[k]? = some x → At w b (o + k * size) x) (j : Nat) (hj : j < l.length * size) : ∃ u, w.cell? ⟨b, o + j, none⟩ = some u ∧ u.oneCell' = true := by
  have hs : 0 < size := by rcases Nat.eq_zero_or_pos size with e | e; · rw [e] at hj; simp at hj
                           · exact e
  have hk : j / size < l.length := (Nat.div_lt_iff_lt_mul hs).2 hj
  have h1 := hF.cells w b _ _ (h (j / size) _ (List.getElem?_eq_getElem hk)) (j % size) (Nat.mod_lt _ hs)
  have e : o + j / size * size + j % size = o + j := by rw [Nat.add_assoc, Nat.mul_comm, Nat.div_add_mod]
  rw [e] at h1; exact h1
theorem rowCells_news (hF : Flat At size) {w : World} {b o : Nat} {l : List α} (h : ∀ (k : Nat) x, l[k]? = some x → At w b (o + k * size) x) : (∀ j u, (rowCells w b o (l.length * size))[j]? = some u → w.cell? ⟨b, o + j, none⟩ = some u) ∧ (∀ u ∈ rowCells w b o (l.length * size), u.oneCell' = true) := by
  refine ⟨fun j u hu => ?_, fun u hu => ?_⟩
  · have hj : j < l.length * size := by
      rcases Nat.lt_or_ge j (l.length * size) with h | h
      · exact h
      · rw [List.getElem?_eq_none (by rw [rowCells_length]; exact h)] at hu; cases hu
    obtain ⟨u', h1, _⟩ := row_cells hF h j hj
    rw [rowCells_get hj, h1] at hu
    rw [h1]; simpa using hu
  · obtain ⟨j, hj⟩ := List.getElem?_of_mem hu
    have hjl : j < l.length * size := by
      rcases Nat.lt_or_ge j (l.length * size) with h | h
      · exact h
      · rw [List.getElem?_eq_none (by rw [rowCells_length]; exact h)] at hj; cases hj
    obtain ⟨u', h1, h2⟩ := row_cells hF h j hjl
    rw [rowCells_get hjl, h1] at hj
    simp at hj; rw [← hj]; exact h2
/-- A row that lies in a block of one's own as it lay elsewhere. -/
theorem row_moved (hF : Flat At size) {w W : World} {b o g q : Nat} {l : List α} (h : ∀ (k : Nat) x, l[k]? = some x → At w b (o + k * size) x) (hb : Below w.heap.size w W) (hc : ∀ j, j < l.length * size → W.cell? ⟨g, q + j, none⟩ = w.cell? ⟨b, o + j, none⟩) (k : Nat) (x : α) (hx : l[k]? = some x) : At W g (q + k * size) x := by
  have hk : k < l.length := (List.getElem?_eq_some_iff.1 hx).1
  refine hF.move w W b (o + k * size) g (q + k * size) x (h k x hx) hb fun j hj => ?_
  have hlt : k * size + j < l.length * size := by
    have : (k + 1) * size ≤ l.length * size := Nat.mul_le_mul_right _ hk
    rw [Nat.succ_mul] at this; omega
  have := hc (k * size + j) hlt
  rw [← Nat.add_assoc, ← Nat.add_assoc] at this
  exact this
end
theorem rowIn_upd {α : Type} {At : World → Nat → Nat → α → Prop} {size bytes : Nat} (hF : Flat At size) {w W : World} {b o g c m : Nat} {l : List α} {y : α} (h : ∀ (k : Nat) x, l[k]? = some x → At w b (o + k * size) x) (hby : l.length * bytes ≤ 140737488352000) (hb : Below w.heap.size w W) (hc : ∀ j i, j < l.length → j ≠ m → i < size → W.cell? ⟨g, j * size + i, none⟩ = w.cell? ⟨b, o + (j * size + i), none⟩) (hml : m < l.length) (hm : At W g (m * size) y) :
    RowIn At size bytes W (.slice (some ⟨g, 0, none⟩) l.length c) (l.set m y) := by
  refine ⟨by simpa using hby, some ⟨g, 0, none⟩, c, g, 0, by simp, ⟨fun _ => rfl, fun h => by cases h⟩, fun j x hx => ?_⟩
  rw [Nat.zero_add]
  by_cases e : m = j
  · subst e
    rw [List.getElem?_set_self hml] at hx
    cases hx; exact hm
  · rw [List.getElem?_set_ne e] at hx
    refine hF.move w W b (o + j * size) g (j * size) x (h j x hx) hb fun i hi => ?_
    rw [hc j i (List.getElem?_eq_some_iff.1 hx).1 (fun h => e h.symm) hi, Nat.add_assoc]
theorem rowIn_cons {α : Type} {At : World → Nat → Nat → α → Prop} {size bytes : Nat} (hF : Flat At size) {w W : World} {b o g c n : Nat} {l : List α} {y : α} (h : ∀ (k : Nat) x, l[k]? = some x → At w b (o + k * size) x) (hby : (l.length + 1) * bytes ≤ 140737488352000) (hb : Below w.heap.size w W) (hc : ∀ j i, j < l.length → i < size → W.cell? ⟨g, (j + 1) * size + i, none⟩ = w.cell? ⟨b, o + (j * size + i), none⟩) (hn : n = l.length + 1) (hm : At W g 0 y) :
    RowIn At size bytes W (.slice (some ⟨g, 0, none⟩) n c) (y :: l) := by
  subst hn
  refine ⟨by simpa using hby, some ⟨g, 0, none⟩, c, g, 0, by simp, ⟨fun _ => rfl, fun h => by cases h⟩, fun j x hx => ?_⟩
  rw [Nat.zero_add]
  cases j with
  | zero => simp at hx; subst hx; simpa using hm
  | succ j =>
    rw [List.getElem?_cons_succ] at hx
    refine hF.move w W b (o + j * size) g ((j + 1) * size) x (h j x hx) hb fun i hi => ?_
    rw [hc j i (List.getElem?_eq_some_iff.1 hx).1 hi, Nat.add_assoc]
/-- A block of one's own, whatever its things are long. -/
theorem VRow.of_own' {w : World} {base n size : Nat} {t : TypeId} {v : Value} {xs : List Value} (h : w.ownsRow base t size v n xs) (hv : v ≠ .slice none 0 0) : ∃ g c, v = .slice (some ⟨g, 0, none⟩) n c ∧ base ≤ g ∧ g < w.heap.size ∧ VRow w g t xs := by
  rcases h.2 with ⟨rfl, _⟩ | ⟨g, cap, cur, rfl, h2, h3, h4, h5, h6, h7⟩
  · exact absurd rfl hv
  · refine ⟨g, cap, rfl, h2, lt_of_block h3, cur, h3, fun k x hx => ?_⟩
    rw [← h7] at hx
    rw [List.getElem?_take] at hx
    split at hx
    · rw [← Array.getElem?_toList]; exact hx
    · cases hx
end Go.Proofs.Ythahjnjkiljaaaa
