/- The box of an Act that a call reads field by field. -/
import Derived.Test.YtilegepenibeoaaMemAct
namespace Go.Proofs.Ytilegepenibeoaa
open Go.RowKit
set_option linter.unusedVariables false
structure BoxAt (w : World) (B : Nat) (addr many wv : Int) : Prop where
  c1 : w.cell? ⟨B, 1, none⟩ = some (.int .u32 addr)
  c2 : w.cell? ⟨B, 2, none⟩ = some (.int .i64 many)
  c3 : w.cell? ⟨B, 3, none⟩ = some (.int .u32 wv)
theorem BoxAt.keep {S : Nat → Prop} {a b : World} {B : Nat} {addr many wv : Int} (h : BoxAt a B addr many wv) (o : Only S a b) (hB : ¬ S B) : BoxAt b B addr many wv := by
  have hl := World.block_lt_of_cell? _ _ h.c1
  exact ⟨(o.cell (p := ⟨B, 1, none⟩) hl hB).trans h.c1, (o.cell (p := ⟨B, 2, none⟩) hl hB).trans h.c2, (o.cell (p := ⟨B, 3, none⟩) hl hB).trans h.c3⟩

end Go.Proofs.Ytilegepenibeoaa
