/- What lex.Lex and muntinref12.Lex answer, in one form; a place in a box. -/
import Derived.Test.YthnfkecbgfcipaaDoorLexWordsWalk
namespace Go.Proofs.YthnfkecbgfcipaaDoor
open Go.RowKit
set_option linter.unusedVariables false
set_option linter.unusedSimpArgs false
/-- The tokens, the place and the error. -/
def outS : Except (Nat × Nat) (List Tok) → List Tok × Int × Int × Int
  | .ok ts => (ts, 0, 0, 0)
  | .error p => ([], p.1, p.2, 120)
theorem tok_nil (w : World) : TokIn w (.slice none 0 0) [] := ⟨by simp, none, 0, 0, 0, rfl, ⟨by simp, fun _ => rfl⟩, by simp⟩
theorem lex_out (l : List UInt8) (hl : l.length ≤ 65536) {ts : List Tok} {x y er : Int} (h : outS (lexS l) = (ts, x, y, er)) (w : World) (hW : LexW w) :
    Calls Tryd.prog 7 #[.string ⟨l.toArray⟩] w fun e w' => (∃ v, e = .returned (.tuple #[v, .agg #[.int .i64 x, .int .i64 y], .int .i64 er]) ∧ TokIn w' v ts) ∧ Below w.heap.size w w' := by
  cases hx : lexS l with
  | ok us =>
    rw [hx] at h
    cases h
    exact lex_ok l _ hl hx w hW
  | error p =>
    rw [hx] at h
    cases h
    refine (lex_err l p hl hx w hW).mono ?_
    rintro e w' ⟨rfl, hb⟩
    exact ⟨⟨_, rfl, tok_nil _⟩, hb⟩
structure PosBox (w : World) (b : Nat) (x y : Int) : Prop where
  c0 : w.cell? ⟨b, 0, none⟩ = some (.int .i64 x)
  c1 : w.cell? ⟨b, 1, none⟩ = some (.int .i64 y)
theorem PosBox.new (w : World) (x y : Int) (t : TypeId) : PosBox (w.alloc (.cells #[.int .i64 x, .int .i64 y] t)) w.heap.size x y :=
  ⟨blk_cell (World.alloc_heap_new _ _) rfl, blk_cell (World.alloc_heap_new _ _) rfl⟩
theorem PosBox.keep {w w' : World} {b : Nat} {x y : Int} (h : PosBox w b x y) (hb : Below w.heap.size w w') : PosBox w' b x y := by
  have hl := World.block_lt_of_cell? _ _ h.c0
  exact ⟨(hb.cell (p := ⟨b, 0, none⟩) hl).trans h.c0, (hb.cell (p := ⟨b, 1, none⟩) hl).trans h.c1⟩
end Go.Proofs.YthnfkecbgfcipaaDoor
