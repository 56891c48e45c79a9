/- Whether an instruction may be, as the document says it; the boxes of programs, functions, blocks. -/
import Derived.Test.YthahjnjkiljaaaaShapeEmpty
import Derived.Test.YthahjnjkiljaaaaShapeFuncs
namespace Go.Proofs.Ythahjnjkiljaaaa
open Go.RowKit
set_option linter.unusedVariables false
set_option linter.unusedSimpArgs false
theorem al1 (w : World) (o : Obj) : Below w.heap.size w (w.alloc o) := (Below.refl _ _).alloc (Nat.le_refl _) _
theorem al2 (w : World) (o q : Obj) : Below w.heap.size w ((w.alloc o).alloc q) := sbt (al1 w o) (al1 _ q)
theorem al3 (w : World) (o q r : Obj) : Below w.heap.size w (((w.alloc o).alloc q).alloc r) := sbt (al2 w o q) (al1 _ r)
def argsOf (fs : List Fnx) (k : Nat) : Int := (fs[k]?.map Fnx.args).getD 0
/-- An instruction may be. -/
def insF (fs : List Fnx) (nb : Nat) (op d a b n f : Int) (args : List Int) (l1 l2 : Int) : Prop :=
  op ≤ 10 ∧ emptyF op d a b n f args.length l1 l2 ∧ 0 ≤ d ∧ 0 ≤ a ∧ 0 ≤ b ∧ (∀ y ∈ args, 0 ≤ y) ∧ (op = 1 → n ≤ 13) ∧ (op = 5 → 0 ≤ f ∧ f < fs.length ∧ (args.length : Int) = argsOf fs f.toNat) ∧ (op = 8 ∨ op = 9 → 0 ≤ l1 ∧ l1 < nb ∧ 0 ≤ l2 ∧ l2 < nb)
instance (fs : List Fnx) (nb : Nat) (op d a b n f : Int) (args : List Int) (l1 l2 : Int) : Decidable (insF fs nb op d a b n f args l1 l2) := by unfold insF; infer_instance
/-- A new instruction's box. -/
structure ZBox (w : World) (g : Nat) : Prop where
  lt : g < w.heap.size
  c0 : w.cell? ⟨g, 0, none⟩ = some (.int .u8 0)
  c1 : w.cell? ⟨g, 1, none⟩ = some (.int .i64 0)
  c2 : w.cell? ⟨g, 2, none⟩ = some (.int .i64 0)
  c3 : w.cell? ⟨g, 3, none⟩ = some (.int .i64 0)
  c4 : w.cell? ⟨g, 4, none⟩ = some (.int .u32 0)
  c5 : w.cell? ⟨g, 5, none⟩ = some (.int .i64 0)
  c6 : w.cell? ⟨g, 6, none⟩ = some (.slice none 0 0)
  c7 : w.cell? ⟨g, 7, none⟩ = some (.int .i64 0)
  c8 : w.cell? ⟨g, 8, none⟩ = some (.int .i64 0)
  f0 : w.frozen? ⟨g, 0, none⟩ = false
  f1 : w.frozen? ⟨g, 1, none⟩ = false
  f2 : w.frozen? ⟨g, 2, none⟩ = false
  f3 : w.frozen? ⟨g, 3, none⟩ = false
  f4 : w.frozen? ⟨g, 4, none⟩ = false
  f5 : w.frozen? ⟨g, 5, none⟩ = false
  f6 : w.frozen? ⟨g, 6, none⟩ = false
  f7 : w.frozen? ⟨g, 7, none⟩ = false
  f8 : w.frozen? ⟨g, 8, none⟩ = false
theorem ZBox.new (w : World) (t : TypeId) : ZBox (w.alloc (.cells #[.int .u8 0, .int .i64 0, .int .i64 0, .int .i64 0, .int .u32 0, .int .i64 0, .slice none 0 0, .int .i64 0, .int .i64 0] t)) w.heap.size := by
  have k := fun i => cell_of_obj (i := i) (heap_alloc_new w (.cells #[.int .u8 0, .int .i64 0, .int .i64 0, .int .i64 0, .int .u32 0, .int .i64 0, .slice none 0 0, .int .i64 0, .int .i64 0] t))
  have f := fun i => free_of_obj (i := i) (heap_alloc_new w (.cells #[.int .u8 0, .int .i64 0, .int .i64 0, .int .i64 0, .int .u32 0, .int .i64 0, .slice none 0 0, .int .i64 0, .int .i64 0] t))
  exact ⟨by simp, k 0, k 1, k 2, k 3, k 4, k 5, k 6, k 7, k 8, f 0, f 1, f 2, f 3, f 4, f 5, f 6, f 7, f 8⟩
theorem ZBox.keep {w w' : World} {g : Nat} (k : ZBox w g) (hb : Below w.heap.size w w') : ZBox w' g :=
  ⟨Nat.lt_of_lt_of_le k.lt hb.size, (hb.cell (p := ⟨g, 0, none⟩) k.lt).trans k.c0, (hb.cell (p := ⟨g, 1, none⟩) k.lt).trans k.c1, (hb.cell (p := ⟨g, 2, none⟩) k.lt).trans k.c2, (hb.cell (p := ⟨g, 3, none⟩) k.lt).trans k.c3, (hb.cell (p := ⟨g, 4, none⟩) k.lt).trans k.c4, (hb.cell (p := ⟨g, 5, none⟩) k.lt).trans k.c5, (hb.cell (p := ⟨g, 6, none⟩) k.lt).trans k.c6, (hb.cell (p := ⟨g, 7, none⟩) k.lt).trans k.c7, (hb.cell (p := ⟨g, 8, none⟩) k.lt).trans k.c8, (hb.frozen (p := ⟨g, 0, none⟩) k.lt).trans k.f0, (hb.frozen (p := ⟨g, 1, none⟩) k.lt).trans k.f1, (hb.frozen (p := ⟨g, 2, none⟩) k.lt).trans k.f2, (hb.frozen (p := ⟨g, 3, none⟩) k.lt).trans k.f3, (hb.frozen (p := ⟨g, 4, none⟩) k.lt).trans k.f4, (hb.frozen (p := ⟨g, 5, none⟩) k.lt).trans k.f5, (hb.frozen (p := ⟨g, 6, none⟩) k.lt).trans k.f6, (hb.frozen (p := ⟨g, 7, none⟩) k.lt).trans k.f7, (hb.frozen (p := ⟨g, 8, none⟩) k.lt).trans k.f8⟩
theorem IBox.of_obj {w : World} {g : Nat} {op d a b n f : Int} {av : Value} {l1 l2 : Int} {t : TypeId} {fz : Nat × Nat} (h : w.heap[g]? = some (.cells #[.int .u8 op, .int .i64 d, .int .i64 a, .int .i64 b, .int .u32 n, .int .i64 f, av, .int .i64 l1, .int .i64 l2] t fz)) : IBox w g ⟨op, d, a, b, n, f, [], l1, l2⟩ av := by
  have k := fun i => cell_of_obj (i := i) h
  exact ⟨lt_of_block h, k 0, k 1, k 2, k 3, k 4, k 5, k 6, k 7, k 8⟩
theorem infoins : (Try.prog.info? 44).map (·.size) = some 9 := by kernel_rfl
theorem zrow {W w4 : World} {o : Obj} (hb : Below (W.alloc o).drew.heap.size (W.alloc o).drew w4) : w4.heap[W.heap.size]? = some o :=
  (hb.block W.heap.size (by show W.heap.size < (W.alloc o).heap.size; simp)).trans (heap_alloc_new W o)
theorem inscells_one (op d a b n f l1 l2 : Int) : ((#[.int .u8 op, .int .i64 d, .int .i64 a, .int .i64 b, .int .u32 n, .int .i64 f, .slice none 0 0, .int .i64 l1, .int .i64 l2] : Array Value).all fun x => x.oneCell') = true := by simp [Value.oneCell']
/-- A struct stored whole, in a region that draws its order. -/
theorem step_store_row {P : Program} {ops : Array Oper} {o : Oper} {a : Act} {w : World} {K : Act → World → Prop} {Q : Exit → Act → World → Prop} {E : Prop} (hgd : o.guard = none) (ty : TypeId) (x y : Operand) (ho : o.op = .store ty x y)
    (g : Nat) (cells : Array Value) (hx : a.eval x = .pointer (some ⟨g, 0, none⟩)) (hy : a.eval y = .agg cells)
    (t : TypeId) (old : Array Value) (hg : w.heap[g]? = some (.cells old t (0, 0))) (hi : (P.info? ty).map (·.size) = some cells.size)
    (hold : old.size = cells.size) (h1 : cells.all (·.oneCell') = true) (h : K (a.put o.dst undef) (w.setRow g cells)) :
    if Region.wanted o (yielded ops a.tmps) = true then Oper.wp P o a w K Q else E := by
  have hw : Region.wanted o (yielded ops a.tmps) = true := by simp [Region.wanted, hgd]
  rw [if_pos hw]
  exact wp_store_row ty x y ho g cells hx hy t old hg hi hold h1 h
theorem ZBox.put {w : World} {g : Nat} (h : ZBox w g) (op d a b n f l1 l2 : Int) : IBox (((((((((w.setCell ⟨g, 0, none⟩ (.int .u8 op)).setCell ⟨g, 1, none⟩ (.int .i64 d)).setCell ⟨g, 2, none⟩ (.int .i64 a)).setCell ⟨g, 3, none⟩ (.int .i64 b)).setCell ⟨g, 4, none⟩ (.int .u32 n)).setCell ⟨g, 5, none⟩ (.int .i64 f)).setCell ⟨g, 6, none⟩ (.slice none 0 0)).setCell ⟨g, 7, none⟩ (.int .i64 l1)).setCell ⟨g, 8, none⟩ (.int .i64 l2)) g ⟨op, d, a, b, n, f, [], l1, l2⟩ (.slice none 0 0) := by
  obtain ⟨zl, z0, z1, z2, z3, z4, z5, z6, z7, z8, _⟩ := h
  refine ⟨by simpa [World.setCell] using zl, ?_, ?_, ?_, ?_, ?_, ?_, ?_, ?_, ?_⟩
  all_goals simp [go_sem, z0, z1, z2, z3, z4, z5, z6, z7, z8]
structure PBox (w : World) (g : Nat) (h : Int) (tv fv : Value) : Prop where
  lt : g < w.heap.size
  c0 : w.cell? ⟨g, 0, none⟩ = some (.int .i64 h)
  c1 : w.cell? ⟨g, 1, none⟩ = some tv
  c2 : w.cell? ⟨g, 2, none⟩ = some fv
theorem PBox.new (w : World) (h : Int) (tv fv : Value) (t : TypeId) : PBox (w.alloc (.cells #[.int .i64 h, tv, fv] t)) w.heap.size h tv fv := by
  have k := fun i => cell_of_obj (i := i) (heap_alloc_new w (.cells #[.int .i64 h, tv, fv] t))
  exact ⟨by simp, k 0, k 1, k 2⟩
theorem PBox.keep {w w' : World} {g : Nat} {h : Int} {tv fv : Value} (k : PBox w g h tv fv) (hb : Below w.heap.size w w') : PBox w' g h tv fv :=
  ⟨Nat.lt_of_lt_of_le k.lt hb.size, (hb.cell (p := ⟨g, 0, none⟩) k.lt).trans k.c0, (hb.cell (p := ⟨g, 1, none⟩) k.lt).trans k.c1, (hb.cell (p := ⟨g, 2, none⟩) k.lt).trans k.c2⟩
structure FBox (w : World) (g : Nat) (nm : ByteArray) (a r : Int) (bv : Value) : Prop where
  lt : g < w.heap.size
  c0 : w.cell? ⟨g, 0, none⟩ = some (.string nm)
  c1 : w.cell? ⟨g, 1, none⟩ = some (.int .i64 a)
  c2 : w.cell? ⟨g, 2, none⟩ = some (.int .i64 r)
  c3 : w.cell? ⟨g, 3, none⟩ = some bv
theorem FBox.new (w : World) (nm : ByteArray) (a r : Int) (bv : Value) (t : TypeId) : FBox (w.alloc (.cells #[.string nm, .int .i64 a, .int .i64 r, bv] t)) w.heap.size nm a r bv := by
  have k := fun i => cell_of_obj (i := i) (heap_alloc_new w (.cells #[.string nm, .int .i64 a, .int .i64 r, bv] t))
  exact ⟨by simp, k 0, k 1, k 2, k 3⟩
theorem FBox.keep {w w' : World} {g : Nat} {nm : ByteArray} {a r : Int} {bv : Value} (k : FBox w g nm a r bv) (hb : Below w.heap.size w w') : FBox w' g nm a r bv :=
  ⟨Nat.lt_of_lt_of_le k.lt hb.size, (hb.cell (p := ⟨g, 0, none⟩) k.lt).trans k.c0, (hb.cell (p := ⟨g, 1, none⟩) k.lt).trans k.c1, (hb.cell (p := ⟨g, 2, none⟩) k.lt).trans k.c2, (hb.cell (p := ⟨g, 3, none⟩) k.lt).trans k.c3⟩
structure BBox (w : World) (g : Nat) (nm : ByteArray) (iv : Value) : Prop where
  lt : g < w.heap.size
  c0 : w.cell? ⟨g, 0, none⟩ = some (.string nm)
  c1 : w.cell? ⟨g, 1, none⟩ = some iv
theorem BBox.new (w : World) (nm : ByteArray) (iv : Value) (t : TypeId) : BBox (w.alloc (.cells #[.string nm, iv] t)) w.heap.size nm iv := by
  have k := fun i => cell_of_obj (i := i) (heap_alloc_new w (.cells #[.string nm, iv] t))
  exact ⟨by simp, k 0, k 1⟩
theorem BBox.keep {w w' : World} {g : Nat} {nm : ByteArray} {iv : Value} (k : BBox w g nm iv) (hb : Below w.heap.size w w') : BBox w' g nm iv :=
  ⟨Nat.lt_of_lt_of_le k.lt hb.size, (hb.cell (p := ⟨g, 0, none⟩) k.lt).trans k.c0, (hb.cell (p := ⟨g, 1, none⟩) k.lt).trans k.c1⟩
/-- The arguments' count of a function that lies in a row. -/
theorem fnargs_cell {w : World} {b o : Nat} {fs : List Fnx} (h : ∀ (k : Nat) (x : Fnx), fs[k]? = some x → FnAt w b (o + k * 4) x) (k : Nat) (hk : k < fs.length) : w.cell? ⟨b, o + k * 4 + 1, none⟩ = some (.int .i64 (argsOf fs k)) := by
  have := (h k fs[k] (List.getElem?_eq_getElem hk)).c1
  rw [this]
  simp [argsOf, List.getElem?_eq_getElem hk]
theorem FnsIn.keep {w w' : World} {v : Value} {fs : List Fnx} (h : FnsIn w v fs) (hb : Below w.heap.size w w') : FnsIn w' v fs := RowIn.keep h fun _ _ _ _ hh => hh.keep hb
theorem BlksIn.keep {w w' : World} {v : Value} {fs : List Blk} (h : BlksIn w v fs) (hb : Below w.heap.size w w') : BlksIn w' v fs := RowIn.keep h fun _ _ _ _ hh => hh.keep hb
theorem InsxIn.keep {w w' : World} {v : Value} {fs : List Insx} (h : InsxIn w v fs) (hb : Below w.heap.size w w') : InsxIn w' v fs := RowIn.keep h fun _ _ _ _ hh => hh.keep hb
theorem IntsIn.keep {w w' : World} {v : Value} {fs : List Int} (h : IntsIn w v fs) (hb : Below w.heap.size w w') : IntsIn w' v fs := RowIn.keep h fun _ _ _ _ hh => hh.keep hb
theorem IBox.far {w : World} {g : Nat} {x : Insx} {av : Value} (k : IBox w g x av) {p : Addr} (hp : p.block ≠ g) (u : Value) : IBox (w.setCell p u) g x av :=
  ⟨by simpa [World.setCell] using k.lt, (World.cell?_setCell_other _ _ _ _ (show p ≠ (⟨g, 0, none⟩ : Addr) from fun e => hp (congrArg Addr.block e))).trans k.c0, (World.cell?_setCell_other _ _ _ _ (show p ≠ (⟨g, 1, none⟩ : Addr) from fun e => hp (congrArg Addr.block e))).trans k.c1, (World.cell?_setCell_other _ _ _ _ (show p ≠ (⟨g, 2, none⟩ : Addr) from fun e => hp (congrArg Addr.block e))).trans k.c2, (World.cell?_setCell_other _ _ _ _ (show p ≠ (⟨g, 3, none⟩ : Addr) from fun e => hp (congrArg Addr.block e))).trans k.c3, (World.cell?_setCell_other _ _ _ _ (show p ≠ (⟨g, 4, none⟩ : Addr) from fun e => hp (congrArg Addr.block e))).trans k.c4, (World.cell?_setCell_other _ _ _ _ (show p ≠ (⟨g, 5, none⟩ : Addr) from fun e => hp (congrArg Addr.block e))).trans k.c5, (World.cell?_setCell_other _ _ _ _ (show p ≠ (⟨g, 6, none⟩ : Addr) from fun e => hp (congrArg Addr.block e))).trans k.c6, (World.cell?_setCell_other _ _ _ _ (show p ≠ (⟨g, 7, none⟩ : Addr) from fun e => hp (congrArg Addr.block e))).trans k.c7, (World.cell?_setCell_other _ _ _ _ (show p ≠ (⟨g, 8, none⟩ : Addr) from fun e => hp (congrArg Addr.block e))).trans k.c8⟩
theorem PBox.far {w : World} {g : Nat} {h : Int} {tv fv : Value} (k : PBox w g h tv fv) {p : Addr} (hp : p.block ≠ g) (u : Value) : PBox (w.setCell p u) g h tv fv :=
  ⟨by simpa [World.setCell] using k.lt, (World.cell?_setCell_other _ _ _ _ (show p ≠ (⟨g, 0, none⟩ : Addr) from fun e => hp (congrArg Addr.block e))).trans k.c0, (World.cell?_setCell_other _ _ _ _ (show p ≠ (⟨g, 1, none⟩ : Addr) from fun e => hp (congrArg Addr.block e))).trans k.c1, (World.cell?_setCell_other _ _ _ _ (show p ≠ (⟨g, 2, none⟩ : Addr) from fun e => hp (congrArg Addr.block e))).trans k.c2⟩
theorem FBox.far {w : World} {g : Nat} {nm : ByteArray} {a r : Int} {bv : Value} (k : FBox w g nm a r bv) {p : Addr} (hp : p.block ≠ g) (u : Value) : FBox (w.setCell p u) g nm a r bv :=
  ⟨by simpa [World.setCell] using k.lt, (World.cell?_setCell_other _ _ _ _ (show p ≠ (⟨g, 0, none⟩ : Addr) from fun e => hp (congrArg Addr.block e))).trans k.c0, (World.cell?_setCell_other _ _ _ _ (show p ≠ (⟨g, 1, none⟩ : Addr) from fun e => hp (congrArg Addr.block e))).trans k.c1, (World.cell?_setCell_other _ _ _ _ (show p ≠ (⟨g, 2, none⟩ : Addr) from fun e => hp (congrArg Addr.block e))).trans k.c2, (World.cell?_setCell_other _ _ _ _ (show p ≠ (⟨g, 3, none⟩ : Addr) from fun e => hp (congrArg Addr.block e))).trans k.c3⟩
theorem BBox.far {w : World} {g : Nat} {nm : ByteArray} {iv : Value} (k : BBox w g nm iv) {p : Addr} (hp : p.block ≠ g) (u : Value) : BBox (w.setCell p u) g nm iv :=
  ⟨by simpa [World.setCell] using k.lt, (World.cell?_setCell_other _ _ _ _ (show p ≠ (⟨g, 0, none⟩ : Addr) from fun e => hp (congrArg Addr.block e))).trans k.c0, (World.cell?_setCell_other _ _ _ _ (show p ≠ (⟨g, 1, none⟩ : Addr) from fun e => hp (congrArg Addr.block e))).trans k.c1⟩
theorem IBox.nil {w : World} {g : Nat} {x : Insx} {av : Value} (k : IBox w g x av) (u : Value) : IBox (w.setCell ⟨g, 6, none⟩ u) g x u :=
  ⟨by simpa [World.setCell] using k.lt, (World.cell?_setCell_other _ _ _ _ (show (⟨g, 6, none⟩ : Addr) ≠ ⟨g, 0, none⟩ by simp)).trans k.c0, (World.cell?_setCell_other _ _ _ _ (show (⟨g, 6, none⟩ : Addr) ≠ ⟨g, 1, none⟩ by simp)).trans k.c1, (World.cell?_setCell_other _ _ _ _ (show (⟨g, 6, none⟩ : Addr) ≠ ⟨g, 2, none⟩ by simp)).trans k.c2, (World.cell?_setCell_other _ _ _ _ (show (⟨g, 6, none⟩ : Addr) ≠ ⟨g, 3, none⟩ by simp)).trans k.c3, (World.cell?_setCell_other _ _ _ _ (show (⟨g, 6, none⟩ : Addr) ≠ ⟨g, 4, none⟩ by simp)).trans k.c4, (World.cell?_setCell_other _ _ _ _ (show (⟨g, 6, none⟩ : Addr) ≠ ⟨g, 5, none⟩ by simp)).trans k.c5, World.cell?_setCell_same _ _ _ k.c6, (World.cell?_setCell_other _ _ _ _ (show (⟨g, 6, none⟩ : Addr) ≠ ⟨g, 7, none⟩ by simp)).trans k.c7, (World.cell?_setCell_other _ _ _ _ (show (⟨g, 6, none⟩ : Addr) ≠ ⟨g, 8, none⟩ by simp)).trans k.c8⟩
end Go.Proofs.Ythahjnjkiljaaaa
