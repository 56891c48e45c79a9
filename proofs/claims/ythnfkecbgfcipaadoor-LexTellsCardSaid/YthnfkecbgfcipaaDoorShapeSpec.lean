/- Programs as plain data, and how they lie in the world. No function of the program is walked here. -/
import Derived.Test.YthnfkecbgfcipaaDoorOnly
namespace Go.Proofs.YthnfkecbgfcipaaDoor
open Go.RowKit
set_option linter.unusedVariables false
/-- An instruction of a program. -/
structure Insx where
  op : Int
  d : Int
  a : Int
  b : Int
  n : Int
  f : Int
  args : List Int
  l1 : Int
  l2 : Int
structure Blk where
  name : ByteArray
  ins : List Insx
structure Fnx where
  name : ByteArray
  args : Int
  regs : Int
  blocks : List Blk
structure Prg where
  heap : Int
  threads : List Int
  funcs : List Fnx
def I64 (x : Int) : Prop := -9223372036854775808 ≤ x ∧ x ≤ 9223372036854775807
def Insx.bd (x : Insx) : Prop := (0 ≤ x.op ∧ x.op < 256) ∧ I64 x.d ∧ I64 x.a ∧ I64 x.b ∧ (0 ≤ x.n ∧ x.n < 4294967296) ∧ I64 x.f ∧ (∀ y ∈ x.args, I64 y) ∧ I64 x.l1 ∧ I64 x.l2
/-- A slice, as it is read: its things lie one behind the other, each as At tells. -/
def RowIn {α : Type} (At : World → Nat → Nat → α → Prop) (size bytes : Nat) (w : World) (v : Value) (l : List α) : Prop :=
  l.length * bytes ≤ 140737488352000 ∧ ∃ p c b o, v = .slice p l.length c ∧ ((0 < l.length → p = some ⟨b, o, none⟩) ∧ (p = none → c = 0)) ∧ ∀ (k : Nat) (x : α), l[k]? = some x → At w b (o + k * size) x
theorem RowIn.shape {α : Type} {At : World → Nat → Nat → α → Prop} {size bytes : Nat} {w : World} {v : Value} {l : List α} (h : RowIn At size bytes w v l) : ∃ p c, v = .slice p l.length c := by
  obtain ⟨_, p, c, _, _, h, _⟩ := h; exact ⟨p, c, h⟩
theorem RowIn.keep {α : Type} {At : World → Nat → Nat → α → Prop} {size bytes : Nat} {w w' : World} {v : Value} {l : List α} (h : RowIn At size bytes w v l) (hk : ∀ b o x, x ∈ l → At w b o x → At w' b o x) : RowIn At size bytes w' v l := by
  obtain ⟨h1, p, c, b, o, h2, h3, h4⟩ := h
  exact ⟨h1, p, c, b, o, h2, h3, fun k x hx => hk _ _ _ (List.mem_of_getElem? hx) (h4 k x hx)⟩
def IntAt (w : World) (b o : Nat) (x : Int) : Prop := w.cell? ⟨b, o, none⟩ = some (.int .i64 x) ∧ I64 x
theorem IntAt.keep {w w' : World} {b o : Nat} {x : Int} (h : IntAt w b o x) (hb : Below w.heap.size w w') : IntAt w' b o x :=
  ⟨(hb.cell (World.block_lt_of_cell? _ _ h.1)).trans h.1, h.2⟩
abbrev IntsIn := RowIn IntAt 1 8
structure InsxAt (w : World) (b o : Nat) (x : Insx) : Prop where
  c0 : w.cell? ⟨b, o, none⟩ = some (.int .u8 x.op)
  c1 : w.cell? ⟨b, o + 1, none⟩ = some (.int .i64 x.d)
  c2 : w.cell? ⟨b, o + 2, none⟩ = some (.int .i64 x.a)
  c3 : w.cell? ⟨b, o + 3, none⟩ = some (.int .i64 x.b)
  c4 : w.cell? ⟨b, o + 4, none⟩ = some (.int .u32 x.n)
  c5 : w.cell? ⟨b, o + 5, none⟩ = some (.int .i64 x.f)
  c6 : ∃ v, w.cell? ⟨b, o + 6, none⟩ = some v ∧ IntsIn w v x.args
  c7 : w.cell? ⟨b, o + 7, none⟩ = some (.int .i64 x.l1)
  c8 : w.cell? ⟨b, o + 8, none⟩ = some (.int .i64 x.l2)
  bd : x.bd
theorem InsxAt.keep {w w' : World} {b o : Nat} {x : Insx} (h : InsxAt w b o x) (hb : Below w.heap.size w w') : InsxAt w' b o x := by
  have hl := World.block_lt_of_cell? _ _ h.c0
  obtain ⟨v, h1, h2⟩ := h.c6
  exact ⟨(hb.cell (p := ⟨b, o, none⟩) hl).trans h.c0, (hb.cell (p := ⟨b, o + 1, none⟩) hl).trans h.c1, (hb.cell (p := ⟨b, o + 2, none⟩) hl).trans h.c2, (hb.cell (p := ⟨b, o + 3, none⟩) hl).trans h.c3, (hb.cell (p := ⟨b, o + 4, none⟩) hl).trans h.c4, (hb.cell (p := ⟨b, o + 5, none⟩) hl).trans h.c5,
    ⟨v, (hb.cell (p := ⟨b, o + 6, none⟩) hl).trans h1, h2.keep fun _ _ _ _ hh => hh.keep hb⟩, (hb.cell (p := ⟨b, o + 7, none⟩) hl).trans h.c7, (hb.cell (p := ⟨b, o + 8, none⟩) hl).trans h.c8, h.bd⟩
abbrev InsxIn := RowIn InsxAt 9 88
structure BlkAt (w : World) (b o : Nat) (x : Blk) : Prop where
  c0 : w.cell? ⟨b, o, none⟩ = some (.string x.name)
  c1 : ∃ v, w.cell? ⟨b, o + 1, none⟩ = some v ∧ InsxIn w v x.ins
  nm : x.name.size ≤ 140737488352000
theorem BlkAt.keep {w w' : World} {b o : Nat} {x : Blk} (h : BlkAt w b o x) (hb : Below w.heap.size w w') : BlkAt w' b o x := by
  have hl := World.block_lt_of_cell? _ _ h.c0
  obtain ⟨v, h1, h2⟩ := h.c1
  exact ⟨(hb.cell (p := ⟨b, o, none⟩) hl).trans h.c0, ⟨v, (hb.cell (p := ⟨b, o + 1, none⟩) hl).trans h1, h2.keep fun _ _ _ _ hh => hh.keep hb⟩, h.nm⟩
abbrev BlksIn := RowIn BlkAt 2 40
structure FnAt (w : World) (b o : Nat) (x : Fnx) : Prop where
  c0 : w.cell? ⟨b, o, none⟩ = some (.string x.name)
  c1 : w.cell? ⟨b, o + 1, none⟩ = some (.int .i64 x.args)
  c2 : w.cell? ⟨b, o + 2, none⟩ = some (.int .i64 x.regs)
  c3 : ∃ v, w.cell? ⟨b, o + 3, none⟩ = some v ∧ BlksIn w v x.blocks
  nm : x.name.size ≤ 140737488352000
  ba : I64 x.args
  br : I64 x.regs
theorem FnAt.keep {w w' : World} {b o : Nat} {x : Fnx} (h : FnAt w b o x) (hb : Below w.heap.size w w') : FnAt w' b o x := by
  have hl := World.block_lt_of_cell? _ _ h.c0
  obtain ⟨v, h1, h2⟩ := h.c3
  exact ⟨(hb.cell (p := ⟨b, o, none⟩) hl).trans h.c0, (hb.cell (p := ⟨b, o + 1, none⟩) hl).trans h.c1, (hb.cell (p := ⟨b, o + 2, none⟩) hl).trans h.c2, ⟨v, (hb.cell (p := ⟨b, o + 3, none⟩) hl).trans h1, h2.keep fun _ _ _ _ hh => hh.keep hb⟩, h.nm, h.ba, h.br⟩
abbrev FnsIn := RowIn FnAt 4 56
/-- A program, as it is handed over. -/
structure PrgIn (w : World) (v : Value) (p : Prg) : Prop where
  ex : ∃ tv fv, v = .agg #[.int .i64 p.heap, tv, fv] ∧ IntsIn w tv p.threads ∧ FnsIn w fv p.funcs
  bd : I64 p.heap
theorem PrgIn.keep {w w' : World} {v : Value} {p : Prg} (h : PrgIn w v p) (hb : Below w.heap.size w w') : PrgIn w' v p := by
  obtain ⟨⟨tv, fv, h1, h2, h3⟩, h4⟩ := h
  exact ⟨⟨tv, fv, h1, h2.keep fun _ _ _ _ hh => hh.keep hb, h3.keep fun _ _ _ _ hh => hh.keep hb⟩, h4⟩
end Go.Proofs.YthnfkecbgfcipaaDoor
