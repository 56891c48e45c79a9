/- The document's list (muntinref07): Put. -/
import Derived.Test.YtgicenbjdadakaaDoorAsmRef
import Derived.Test.YtgicenbjdadakaaDoorInstREnc
namespace Go.Proofs.YtgicenbjdadakaaDoor
open Go.RowKit Go.Maps
set_option linter.unusedVariables false
set_option linter.unusedSimpArgs false
/-- A struct of two slices, in a box. -/
structure Box2 (w : World) (b : Nat) (lv mv : Value) : Prop where
  c0 : w.cell? ⟨b, 0, none⟩ = some lv
  c1 : w.cell? ⟨b, 1, none⟩ = some mv
  f0 : w.frozen? ⟨b, 0, none⟩ = false
  f1 : w.frozen? ⟨b, 1, none⟩ = false
theorem Box2.lt {w : World} {b : Nat} {lv mv : Value} (h : Box2 w b lv mv) : b < w.heap.size := World.block_lt_of_cell? _ _ h.c0
theorem Box2.new (w : World) (lv mv : Value) (t : TypeId) : Box2 (w.alloc (.cells #[lv, mv] t)) w.heap.size lv mv := by
  have h := heap_alloc_new w (.cells #[lv, mv] t)
  exact ⟨by simp only [World.cell?, h]; rfl, by simp only [World.cell?, h]; rfl, by simp only [World.frozen?, h]; rfl, by simp only [World.frozen?, h]; rfl⟩
theorem Box2.keepB {w w' : World} {B b : Nat} {lv mv : Value} (h : Box2 w b lv mv) (hb : Below B w w') (hl : b < B) : Box2 w' b lv mv :=
  ⟨(hb.cell (p := ⟨b, 0, none⟩) hl).trans h.c0, (hb.cell (p := ⟨b, 1, none⟩) hl).trans h.c1, (hb.frozen (p := ⟨b, 0, none⟩) hl).trans h.f0, (hb.frozen (p := ⟨b, 1, none⟩) hl).trans h.f1⟩
theorem Box2.al {w : World} {b : Nat} {lv mv : Value} (h : Box2 w b lv mv) (o : Obj) : Box2 (w.alloc o) b lv mv := h.keepB ((Below.refl _ _).alloc (Nat.le_refl _) _) h.lt
theorem It.cells_one (it : It) : ∀ u ∈ it.cells, u.oneCell' = true := by
  intro u hu
  cases it <;> simp [It.cells, Ix.cells] at hu <;> (rcases hu with rfl | rfl | rfl | rfl | rfl | rfl | rfl | rfl <;> simp [Value.oneCell'])
theorem items_one (L : List It) : ∀ u ∈ L.flatMap It.cells, u.oneCell' = true := by
  intro u hu
  obtain ⟨it, _, h⟩ := List.mem_flatMap.1 hu
  exact it.cells_one u h
theorem Box2.set {w : World} {b : Nat} {x y : Value} (h : Box2 w b x y) (u v : Value) : Box2 ((w.setCell ⟨b, 0, none⟩ u).setCell ⟨b, 1, none⟩ v) b u v := by
  obtain ⟨c0, c1, f0, f1⟩ := h
  refine ⟨?_, ?_, ?_, ?_⟩
  · exact (World.cell?_setCell_other _ _ _ _ (by simp)).trans (World.cell?_setCell_same _ _ _ c0)
  · exact World.cell?_setCell_same _ _ _ (u := y) ((World.cell?_setCell_other _ _ _ _ (by simp)).trans c1)
  · simpa using f0
  · simpa using f1
theorem Box2.only {w w' : World} {S : Nat → Prop} {b : Nat} (h : Only S w w') (hb : S b) (u v : Value) : Only S w ((w'.setCell ⟨b, 0, none⟩ u).setCell ⟨b, 1, none⟩ v) := (h.setCell (p := ⟨b, 0, none⟩) hb u).setCell (p := ⟨b, 1, none⟩) hb v
/-- What Put of the document leaves. -/
def RPutOk (w : World) (lv mv : Value) (L : List It) (l : List Ix) (e : Ending) (w' : World) : Prop :=
  ∃ lv', e = .returned (.tuple #[.agg #[lv', mv], .int .i64 (if ∀ x ∈ l, mayP x then 0 else 2)]) ∧ ItemsAt w' lv' (if ∀ x ∈ l, mayP x then L ++ l.map .put else L) ∧ Below w.heap.size w w' ∧ ∀ k, lv'.ownBlock = some k → lv.ownBlock = some k ∨ w.heap.size ≤ k
theorem RPutOk.yes {w w' : World} {lv mv lv' : Value} {L : List It} {l : List Ix} (h : ∀ x ∈ l, mayP x) (hi : ItemsAt w' lv' (L ++ l.map .put)) (hb : Below w.heap.size w w') (hk : ∀ k, lv'.ownBlock = some k → w.heap.size ≤ k) : RPutOk w lv mv L l (.returned (.tuple #[.agg #[lv', mv], .int .i64 0])) w' :=
  ⟨lv', by rw [if_pos h], by rw [if_pos h]; exact hi, hb, fun k e => .inr (hk k e)⟩
theorem RPutOk.no {w w' : World} {lv mv : Value} {L : List It} {l : List Ix} {x : Ix} (hx : x ∈ l) (h : ¬ mayP x) (hi : ItemsAt w' lv L) (hb : Below w.heap.size w w') : RPutOk w lv mv L l (.returned (.tuple #[.agg #[lv, mv], .int .i64 2])) w' := by
  have hn : ¬ ∀ x ∈ l, mayP x := fun h2 => h (h2 x hx)
  exact ⟨lv, by rw [if_neg hn], by rw [if_neg hn]; exact hi, hb, fun k e => .inl e⟩
end Go.Proofs.YtgicenbjdadakaaDoor
