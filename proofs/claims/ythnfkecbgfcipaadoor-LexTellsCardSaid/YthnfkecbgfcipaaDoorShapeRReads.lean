/- The walk of muntinref14.Reads. -/
import Derived.Test.YthnfkecbgfcipaaDoorShapeApp
namespace Go.Proofs.YthnfkecbgfcipaaDoor
open Go.RowKit
set_option linter.unusedVariables false
set_option linter.unusedSimpArgs false
/-- The cells of an instruction's box, that the walks read. -/
structure IBox (w : World) (g : Nat) (x : Insx) (av : Value) : Prop where
  lt : g < w.heap.size
  c0 : w.cell? ⟨g, 0, none⟩ = some (.int .u8 x.op)
  c1 : w.cell? ⟨g, 1, none⟩ = some (.int .i64 x.d)
  c2 : w.cell? ⟨g, 2, none⟩ = some (.int .i64 x.a)
  c3 : w.cell? ⟨g, 3, none⟩ = some (.int .i64 x.b)
  c4 : w.cell? ⟨g, 4, none⟩ = some (.int .u32 x.n)
  c5 : w.cell? ⟨g, 5, none⟩ = some (.int .i64 x.f)
  c6 : w.cell? ⟨g, 6, none⟩ = some av
  c7 : w.cell? ⟨g, 7, none⟩ = some (.int .i64 x.l1)
  c8 : w.cell? ⟨g, 8, none⟩ = some (.int .i64 x.l2)
theorem IBox.new (w : World) (x : Insx) (av : Value) (t : TypeId) : IBox (w.alloc (.cells #[.int .u8 x.op, .int .i64 x.d, .int .i64 x.a, .int .i64 x.b, .int .u32 x.n, .int .i64 x.f, av, .int .i64 x.l1, .int .i64 x.l2] t)) w.heap.size x av := by
  have h := fun i => cell_of_obj (i := i) (heap_alloc_new w (.cells #[.int .u8 x.op, .int .i64 x.d, .int .i64 x.a, .int .i64 x.b, .int .u32 x.n, .int .i64 x.f, av, .int .i64 x.l1, .int .i64 x.l2] t))
  exact ⟨by simp, h 0, h 1, h 2, h 3, h 4, h 5, h 6, h 7, h 8⟩
theorem IBox.only {S : Nat → Prop} {w w' : World} {g : Nat} {x : Insx} {av : Value} (h : IBox w g x av) (o : Only S w w') (hs : ¬ S g) : IBox w' g x av :=
  ⟨Nat.lt_of_lt_of_le h.lt o.size, (o.cell (p := ⟨g, 0, none⟩) h.lt hs).trans h.c0, (o.cell (p := ⟨g, 1, none⟩) h.lt hs).trans h.c1, (o.cell (p := ⟨g, 2, none⟩) h.lt hs).trans h.c2, (o.cell (p := ⟨g, 3, none⟩) h.lt hs).trans h.c3, (o.cell (p := ⟨g, 4, none⟩) h.lt hs).trans h.c4,
    (o.cell (p := ⟨g, 5, none⟩) h.lt hs).trans h.c5, (o.cell (p := ⟨g, 6, none⟩) h.lt hs).trans h.c6, (o.cell (p := ⟨g, 7, none⟩) h.lt hs).trans h.c7, (o.cell (p := ⟨g, 8, none⟩) h.lt hs).trans h.c8⟩
theorem IBox.keep {w w' : World} {g : Nat} {x : Insx} {av : Value} (h : IBox w g x av) (hb : Below w.heap.size w w') : IBox w' g x av := h.only (S := fun _ => False) (Only.of_below hb) id
theorem IBox.grown {w w' : World} {g : Nat} {x : Insx} {av : Value} {row : Option Nat} (h : IBox w g x av) (hb : w.grownBy w' row) (hr : row ≠ some g) : IBox w' g x av :=
  h.only (S := fun k => row = some k) ((Only.refl _ w).grown hb (fun k hk _ => hk)) hr
theorem grown_below {B : Nat} {a b c : World} {row : Option Nat} (h : Below B a b) (g : b.grownBy c row) (hr : ∀ k, row = some k → B ≤ k) (hB : B ≤ b.heap.size) : Below B a c :=
  h.trans ⟨g.os, g.tape, g.output, g.size, fun k hk => g.block k (Nat.lt_of_lt_of_le hk hB) (fun e => by have := hr k e.symm; omega)⟩
end Go.Proofs.YthnfkecbgfcipaaDoor
