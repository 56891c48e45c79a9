/- Several texts in one: ShapeOneLaw, ShapeGreatest, ShapeRegs, ShapeGoes, ShapeWrites, ShapeFix, ShapeSets, ShapeThrough, ShapeMeet, ShapeTop, ShapeOne, ShapeGreat. -/
import Derived.Test.YtdefooailcbnlaaG07
import Derived.Test.YtdefooailcbnlaaG08
/- Whether an instruction may be, as the document says it; the boxes of programs, functions, blocks. -/
namespace Go.Proofs.Ytdefooailcbnlaa
open Go.RowKit
set_option linter.unusedVariables false
set_option linter.unusedSimpArgs false
theorem al1 (w : World) (o : Obj) : Below w.heap.size w (w.alloc o) := (Below.refl _ _).alloc (Nat.le_refl _) _
theorem al2 (w : World) (o q : Obj) : Below w.heap.size w ((w.alloc o).alloc q) := sbt (al1 w o) (al1 _ q)
theorem al3 (w : World) (o q r : Obj) : Below w.heap.size w (((w.alloc o).alloc q).alloc r) := sbt (al2 w o q) (al1 _ r)
def argsOf (fs : List Fnx) (k : Nat) : Int := (fs[k]?.map Fnx.args).getD 0
/-- An instruction may be. -/
def insF (fs : List Fnx) (nb : Nat) (op d a b n f : Int) (args : List Int) (l1 l2 : Int) : Prop :=
  op ≤ 10 ∧ emptyF op d a b n f args.length l1 l2 ∧ 0 ≤ d ∧ 0 ≤ a ∧ 0 ≤ b ∧ (∀ y ∈ args, 0 ≤ y) ∧ (op = 1 → n ≤ 13) ∧ (op = 5 → 0 ≤ f ∧ f < fs.length ∧ (args.length : Int) = argsOf fs f.toNat) ∧ (op = 8 ∨ op = 9 → 0 ≤ l1 ∧ l1 < nb ∧ 0 ≤ l2 ∧ l2 < nb)
instance (fs : List Fnx) (nb : Nat) (op d a b n f : Int) (args : List Int) (l1 l2 : Int) : Decidable (insF fs nb op d a b n f args l1 l2) := by unfold insF; infer_instance
/-- A new instruction's box. -/
structure ZBox (w : World) (g : Nat) : Prop where
  lt : g < w.heap.size
  c0 : w.cell? ⟨g, 0, none⟩ = some (.int .u8 0)
  c1 : w.cell? ⟨g, 1, none⟩ = some (.int .i64 0)
  c2 : w.cell? ⟨g, 2, none⟩ = some (.int .i64 0)
  c3 : w.cell? ⟨g, 3, none⟩ = some (.int .i64 0)
  c4 : w.cell? ⟨g, 4, none⟩ = some (.int .u32 0)
  c5 : w.cell? ⟨g, 5, none⟩ = some (.int .i64 0)
  c6 : w.cell? ⟨g, 6, none⟩ = some (.slice none 0 0)
  c7 : w.cell? ⟨g, 7, none⟩ = some (.int .i64 0)
  c8 : w.cell? ⟨g, 8, none⟩ = some (.int .i64 0)
  f0 : w.frozen? ⟨g, 0, none⟩ = false
  f1 : w.frozen? ⟨g, 1, none⟩ = false
  f2 : w.frozen? ⟨g, 2, none⟩ = false
  f3 : w.frozen? ⟨g, 3, none⟩ = false
  f4 : w.frozen? ⟨g, 4, none⟩ = false
  f5 : w.frozen? ⟨g, 5, none⟩ = false
  f6 : w.frozen? ⟨g, 6, none⟩ = false
  f7 : w.frozen? ⟨g, 7, none⟩ = false
  f8 : w.frozen? ⟨g, 8, none⟩ = false
theorem ZBox.new (w : World) (t : TypeId) : ZBox (w.alloc (.cells #[.int .u8 0, .int .i64 0, .int .i64 0, .int .i64 0, .int .u32 0, .int .i64 0, .slice none 0 0, .int .i64 0, .int .i64 0] t)) w.heap.size := by
  have k := fun i => cell_of_obj (i := i) (heap_alloc_new w (.cells #[.int .u8 0, .int .i64 0, .int .i64 0, .int .i64 0, .int .u32 0, .int .i64 0, .slice none 0 0, .int .i64 0, .int .i64 0] t))
  have f := fun i => free_of_obj (i := i) (heap_alloc_new w (.cells #[.int .u8 0, .int .i64 0, .int .i64 0, .int .i64 0, .int .u32 0, .int .i64 0, .slice none 0 0, .int .i64 0, .int .i64 0] t))
  exact ⟨by simp, k 0, k 1, k 2, k 3, k 4, k 5, k 6, k 7, k 8, f 0, f 1, f 2, f 3, f 4, f 5, f 6, f 7, f 8⟩
theorem ZBox.keep {w w' : World} {g : Nat} (k : ZBox w g) (hb : Below w.heap.size w w') : ZBox w' g :=
  ⟨Nat.lt_of_lt_of_le k.lt hb.size, (hb.cell (p := ⟨g, 0, none⟩) k.lt).trans k.c0, (hb.cell (p := ⟨g, 1, none⟩) k.lt).trans k.c1, (hb.cell (p := ⟨g, 2, none⟩) k.lt).trans k.c2, (hb.cell (p := ⟨g, 3, none⟩) k.lt).trans k.c3, (hb.cell (p := ⟨g, 4, none⟩) k.lt).trans k.c4, (hb.cell (p := ⟨g, 5, none⟩) k.lt).trans k.c5, (hb.cell (p := ⟨g, 6, none⟩) k.lt).trans k.c6, (hb.cell (p := ⟨g, 7, none⟩) k.lt).trans k.c7, (hb.cell (p := ⟨g, 8, none⟩) k.lt).trans k.c8, (hb.frozen (p := ⟨g, 0, none⟩) k.lt).trans k.f0, (hb.frozen (p := ⟨g, 1, none⟩) k.lt).trans k.f1, (hb.frozen (p := ⟨g, 2, none⟩) k.lt).trans k.f2, (hb.frozen (p := ⟨g, 3, none⟩) k.lt).trans k.f3, (hb.frozen (p := ⟨g, 4, none⟩) k.lt).trans k.f4, (hb.frozen (p := ⟨g, 5, none⟩) k.lt).trans k.f5, (hb.frozen (p := ⟨g, 6, none⟩) k.lt).trans k.f6, (hb.frozen (p := ⟨g, 7, none⟩) k.lt).trans k.f7, (hb.frozen (p := ⟨g, 8, none⟩) k.lt).trans k.f8⟩
theorem IBox.of_obj {w : World} {g : Nat} {op d a b n f : Int} {av : Value} {l1 l2 : Int} {t : TypeId} {fz : Nat × Nat} (h : w.heap[g]? = some (.cells #[.int .u8 op, .int .i64 d, .int .i64 a, .int .i64 b, .int .u32 n, .int .i64 f, av, .int .i64 l1, .int .i64 l2] t fz)) : IBox w g ⟨op, d, a, b, n, f, [], l1, l2⟩ av := by
  have k := fun i => cell_of_obj (i := i) h
  exact ⟨lt_of_block h, k 0, k 1, k 2, k 3, k 4, k 5, k 6, k 7, k 8⟩
theorem infoins : (Try.prog.info? 44).map (·.size) = some 9 := by kernel_rfl
theorem zrow {W w4 : World} {o : Obj} (hb : Below (W.alloc o).drew.heap.size (W.alloc o).drew w4) : w4.heap[W.heap.size]? = some o :=
  (hb.block W.heap.size (by show W.heap.size < (W.alloc o).heap.size; simp)).trans (heap_alloc_new W o)
theorem inscells_one (op d a b n f l1 l2 : Int) : ((#[.int .u8 op, .int .i64 d, .int .i64 a, .int .i64 b, .int .u32 n, .int .i64 f, .slice none 0 0, .int .i64 l1, .int .i64 l2] : Array Value).all fun x => x.oneCell') = true := by simp [Value.oneCell']
/-- A struct stored whole, in a region that draws its order. -/
theorem step_store_row {P : Program} {ops : Array Oper} {o : Oper} {a : Act} {w : World} {K : Act → World → Prop} {Q : Exit → Act → World → Prop} {E : Prop} (hgd : o.guard = none) (ty : TypeId) (x y : Operand) (ho : o.op = .store ty x y)
    (g : Nat) (cells : Array Value) (hx : a.eval x = .pointer (some ⟨g, 0, none⟩)) (hy : a.eval y = .agg cells)
    (t : TypeId) (old : Array Value) (hg : w.heap[g]? = some (.cells old t (0, 0))) (hi : (P.info? ty).map (·.size) = some cells.size)
    (hold : old.size = cells.size) (h1 : cells.all (·.oneCell') = true) (h : K (a.put o.dst undef) (w.setRow g cells)) :
    if Region.wanted o (yielded ops a.tmps) = true then Oper.wp P o a w K Q else E := by
  have hw : Region.wanted o (yielded ops a.tmps) = true := by simp [Region.wanted, hgd]
  rw [if_pos hw]
  exact wp_store_row ty x y ho g cells hx hy t old hg hi hold h1 h
theorem ZBox.put {w : World} {g : Nat} (h : ZBox w g) (op d a b n f l1 l2 : Int) : IBox (((((((((w.setCell ⟨g, 0, none⟩ (.int .u8 op)).setCell ⟨g, 1, none⟩ (.int .i64 d)).setCell ⟨g, 2, none⟩ (.int .i64 a)).setCell ⟨g, 3, none⟩ (.int .i64 b)).setCell ⟨g, 4, none⟩ (.int .u32 n)).setCell ⟨g, 5, none⟩ (.int .i64 f)).setCell ⟨g, 6, none⟩ (.slice none 0 0)).setCell ⟨g, 7, none⟩ (.int .i64 l1)).setCell ⟨g, 8, none⟩ (.int .i64 l2)) g ⟨op, d, a, b, n, f, [], l1, l2⟩ (.slice none 0 0) := by
  obtain ⟨zl, z0, z1, z2, z3, z4, z5, z6, z7, z8, _⟩ := h
  refine ⟨by simpa [World.setCell] using zl, ?_, ?_, ?_, ?_, ?_, ?_, ?_, ?_, ?_⟩
  all_goals simp [go_sem, z0, z1, z2, z3, z4, z5, z6, z7, z8]
structure PBox (w : World) (g : Nat) (h : Int) (tv fv : Value) : Prop where
  lt : g < w.heap.size
  c0 : w.cell? ⟨g, 0, none⟩ = some (.int .i64 h)
  c1 : w.cell? ⟨g, 1, none⟩ = some tv
  c2 : w.cell? ⟨g, 2, none⟩ = some fv
theorem PBox.new (w : World) (h : Int) (tv fv : Value) (t : TypeId) : PBox (w.alloc (.cells #[.int .i64 h, tv, fv] t)) w.heap.size h tv fv := by
  have k := fun i => cell_of_obj (i := i) (heap_alloc_new w (.cells #[.int .i64 h, tv, fv] t))
  exact ⟨by simp, k 0, k 1, k 2⟩
theorem PBox.keep {w w' : World} {g : Nat} {h : Int} {tv fv : Value} (k : PBox w g h tv fv) (hb : Below w.heap.size w w') : PBox w' g h tv fv :=
  ⟨Nat.lt_of_lt_of_le k.lt hb.size, (hb.cell (p := ⟨g, 0, none⟩) k.lt).trans k.c0, (hb.cell (p := ⟨g, 1, none⟩) k.lt).trans k.c1, (hb.cell (p := ⟨g, 2, none⟩) k.lt).trans k.c2⟩
structure FBox (w : World) (g : Nat) (nm : ByteArray) (a r : Int) (bv : Value) : Prop where
  lt : g < w.heap.size
  c0 : w.cell? ⟨g, 0, none⟩ = some (.string nm)
  c1 : w.cell? ⟨g, 1, none⟩ = some (.int .i64 a)
  c2 : w.cell? ⟨g, 2, none⟩ = some (.int .i64 r)
  c3 : w.cell? ⟨g, 3, none⟩ = some bv
theorem FBox.new (w : World) (nm : ByteArray) (a r : Int) (bv : Value) (t : TypeId) : FBox (w.alloc (.cells #[.string nm, .int .i64 a, .int .i64 r, bv] t)) w.heap.size nm a r bv := by
  have k := fun i => cell_of_obj (i := i) (heap_alloc_new w (.cells #[.string nm, .int .i64 a, .int .i64 r, bv] t))
  exact ⟨by simp, k 0, k 1, k 2, k 3⟩
theorem FBox.keep {w w' : World} {g : Nat} {nm : ByteArray} {a r : Int} {bv : Value} (k : FBox w g nm a r bv) (hb : Below w.heap.size w w') : FBox w' g nm a r bv :=
  ⟨Nat.lt_of_lt_of_le k.lt hb.size, (hb.cell (p := ⟨g, 0, none⟩) k.lt).trans k.c0, (hb.cell (p := ⟨g, 1, none⟩) k.lt).trans k.c1, (hb.cell (p := ⟨g, 2, none⟩) k.lt).trans k.c2, (hb.cell (p := ⟨g, 3, none⟩) k.lt).trans k.c3⟩
structure BBox (w : World) (g : Nat) (nm : ByteArray) (iv : Value) : Prop where
  lt : g < w.heap.size
  c0 : w.cell? ⟨g, 0, none⟩ = some (.string nm)
  c1 : w.cell? ⟨g, 1, none⟩ = some iv
theorem BBox.new (w : World) (nm : ByteArray) (iv : Value) (t : TypeId) : BBox (w.alloc (.cells #[.string nm, iv] t)) w.heap.size nm iv := by
  have k := fun i => cell_of_obj (i := i) (heap_alloc_new w (.cells #[.string nm, iv] t))
  exact ⟨by simp, k 0, k 1⟩
theorem BBox.keep {w w' : World} {g : Nat} {nm : ByteArray} {iv : Value} (k : BBox w g nm iv) (hb : Below w.heap.size w w') : BBox w' g nm iv :=
  ⟨Nat.lt_of_lt_of_le k.lt hb.size, (hb.cell (p := ⟨g, 0, none⟩) k.lt).trans k.c0, (hb.cell (p := ⟨g, 1, none⟩) k.lt).trans k.c1⟩
/-- The arguments' count of a function that lies in a row. -/
theorem fnargs_cell {w : World} {b o : Nat} {fs : List Fnx} (h : ∀ (k : Nat) (x : Fnx), fs[k]? = some x → FnAt w b (o + k * 4) x) (k : Nat) (hk : k < fs.length) : w.cell? ⟨b, o + k * 4 + 1, none⟩ = some (.int .i64 (argsOf fs k)) := by
  have := (h k fs[k] (List.getElem?_eq_getElem hk)).c1
  rw [this]
  simp [argsOf, List.getElem?_eq_getElem hk]
theorem FnsIn.keep {w w' : World} {v : Value} {fs : List Fnx} (h : FnsIn w v fs) (hb : Below w.heap.size w w') : FnsIn w' v fs := RowIn.keep h fun _ _ _ _ hh => hh.keep hb
theorem BlksIn.keep {w w' : World} {v : Value} {fs : List Blk} (h : BlksIn w v fs) (hb : Below w.heap.size w w') : BlksIn w' v fs := RowIn.keep h fun _ _ _ _ hh => hh.keep hb
theorem InsxIn.keep {w w' : World} {v : Value} {fs : List Insx} (h : InsxIn w v fs) (hb : Below w.heap.size w w') : InsxIn w' v fs := RowIn.keep h fun _ _ _ _ hh => hh.keep hb
theorem IntsIn.keep {w w' : World} {v : Value} {fs : List Int} (h : IntsIn w v fs) (hb : Below w.heap.size w w') : IntsIn w' v fs := RowIn.keep h fun _ _ _ _ hh => hh.keep hb
theorem IBox.far {w : World} {g : Nat} {x : Insx} {av : Value} (k : IBox w g x av) {p : Addr} (hp : p.block ≠ g) (u : Value) : IBox (w.setCell p u) g x av :=
  ⟨by simpa [World.setCell] using k.lt, (World.cell?_setCell_other _ _ _ _ (show p ≠ (⟨g, 0, none⟩ : Addr) from fun e => hp (congrArg Addr.block e))).trans k.c0, (World.cell?_setCell_other _ _ _ _ (show p ≠ (⟨g, 1, none⟩ : Addr) from fun e => hp (congrArg Addr.block e))).trans k.c1, (World.cell?_setCell_other _ _ _ _ (show p ≠ (⟨g, 2, none⟩ : Addr) from fun e => hp (congrArg Addr.block e))).trans k.c2, (World.cell?_setCell_other _ _ _ _ (show p ≠ (⟨g, 3, none⟩ : Addr) from fun e => hp (congrArg Addr.block e))).trans k.c3, (World.cell?_setCell_other _ _ _ _ (show p ≠ (⟨g, 4, none⟩ : Addr) from fun e => hp (congrArg Addr.block e))).trans k.c4, (World.cell?_setCell_other _ _ _ _ (show p ≠ (⟨g, 5, none⟩ : Addr) from fun e => hp (congrArg Addr.block e))).trans k.c5, (World.cell?_setCell_other _ _ _ _ (show p ≠ (⟨g, 6, none⟩ : Addr) from fun e => hp (congrArg Addr.block e))).trans k.c6, (World.cell?_setCell_other _ _ _ _ (show p ≠ (⟨g, 7, none⟩ : Addr) from fun e => hp (congrArg Addr.block e))).trans k.c7, (World.cell?_setCell_other _ _ _ _ (show p ≠ (⟨g, 8, none⟩ : Addr) from fun e => hp (congrArg Addr.block e))).trans k.c8⟩
theorem PBox.far {w : World} {g : Nat} {h : Int} {tv fv : Value} (k : PBox w g h tv fv) {p : Addr} (hp : p.block ≠ g) (u : Value) : PBox (w.setCell p u) g h tv fv :=
  ⟨by simpa [World.setCell] using k.lt, (World.cell?_setCell_other _ _ _ _ (show p ≠ (⟨g, 0, none⟩ : Addr) from fun e => hp (congrArg Addr.block e))).trans k.c0, (World.cell?_setCell_other _ _ _ _ (show p ≠ (⟨g, 1, none⟩ : Addr) from fun e => hp (congrArg Addr.block e))).trans k.c1, (World.cell?_setCell_other _ _ _ _ (show p ≠ (⟨g, 2, none⟩ : Addr) from fun e => hp (congrArg Addr.block e))).trans k.c2⟩
theorem FBox.far {w : World} {g : Nat} {nm : ByteArray} {a r : Int} {bv : Value} (k : FBox w g nm a r bv) {p : Addr} (hp : p.block ≠ g) (u : Value) : FBox (w.setCell p u) g nm a r bv :=
  ⟨by simpa [World.setCell] using k.lt, (World.cell?_setCell_other _ _ _ _ (show p ≠ (⟨g, 0, none⟩ : Addr) from fun e => hp (congrArg Addr.block e))).trans k.c0, (World.cell?_setCell_other _ _ _ _ (show p ≠ (⟨g, 1, none⟩ : Addr) from fun e => hp (congrArg Addr.block e))).trans k.c1, (World.cell?_setCell_other _ _ _ _ (show p ≠ (⟨g, 2, none⟩ : Addr) from fun e => hp (congrArg Addr.block e))).trans k.c2, (World.cell?_setCell_other _ _ _ _ (show p ≠ (⟨g, 3, none⟩ : Addr) from fun e => hp (congrArg Addr.block e))).trans k.c3⟩
theorem BBox.far {w : World} {g : Nat} {nm : ByteArray} {iv : Value} (k : BBox w g nm iv) {p : Addr} (hp : p.block ≠ g) (u : Value) : BBox (w.setCell p u) g nm iv :=
  ⟨by simpa [World.setCell] using k.lt, (World.cell?_setCell_other _ _ _ _ (show p ≠ (⟨g, 0, none⟩ : Addr) from fun e => hp (congrArg Addr.block e))).trans k.c0, (World.cell?_setCell_other _ _ _ _ (show p ≠ (⟨g, 1, none⟩ : Addr) from fun e => hp (congrArg Addr.block e))).trans k.c1⟩
theorem IBox.nil {w : World} {g : Nat} {x : Insx} {av : Value} (k : IBox w g x av) (u : Value) : IBox (w.setCell ⟨g, 6, none⟩ u) g x u :=
  ⟨by simpa [World.setCell] using k.lt, (World.cell?_setCell_other _ _ _ _ (show (⟨g, 6, none⟩ : Addr) ≠ ⟨g, 0, none⟩ by simp)).trans k.c0, (World.cell?_setCell_other _ _ _ _ (show (⟨g, 6, none⟩ : Addr) ≠ ⟨g, 1, none⟩ by simp)).trans k.c1, (World.cell?_setCell_other _ _ _ _ (show (⟨g, 6, none⟩ : Addr) ≠ ⟨g, 2, none⟩ by simp)).trans k.c2, (World.cell?_setCell_other _ _ _ _ (show (⟨g, 6, none⟩ : Addr) ≠ ⟨g, 3, none⟩ by simp)).trans k.c3, (World.cell?_setCell_other _ _ _ _ (show (⟨g, 6, none⟩ : Addr) ≠ ⟨g, 4, none⟩ by simp)).trans k.c4, (World.cell?_setCell_other _ _ _ _ (show (⟨g, 6, none⟩ : Addr) ≠ ⟨g, 5, none⟩ by simp)).trans k.c5, World.cell?_setCell_same _ _ _ k.c6, (World.cell?_setCell_other _ _ _ _ (show (⟨g, 6, none⟩ : Addr) ≠ ⟨g, 7, none⟩ by simp)).trans k.c7, (World.cell?_setCell_other _ _ _ _ (show (⟨g, 6, none⟩ : Addr) ≠ ⟨g, 8, none⟩ by simp)).trans k.c8⟩
end Go.Proofs.Ytdefooailcbnlaa
/- The walk of shape.greatest. -/
namespace Go.Proofs.Ytdefooailcbnlaa
open Go.RowKit
set_option linter.unusedVariables false
set_option linter.unusedSimpArgs false
theorem ownsRow_below {w w' : World} {B size n : Nat} {e : TypeId} {v : Value} {xs : List Value} (h : w.ownsRow B e size v n xs) (hb : Below w.heap.size w w') : w'.ownsRow B e size v n xs := by
  refine ⟨h.1, ?_⟩
  rcases h.2 with h | ⟨g, cap, cur, h1, h2, h3, h4⟩
  · exact .inl h
  · exact .inr ⟨g, cap, cur, h1, h2, (hb.block g (lt_of_block h3)).trans h3, h4⟩
theorem own_cells {w : World} {B : Nat} {p : Option Addr} {n c : Nat} {l : List Int} (h : w.ownsRow B 3 1 (.slice p n c) n (ints l)) (hn : n = l.length) :
    ∃ g, (0 < l.length → p = some ⟨g, 0, none⟩) ∧ ∀ (k : Nat) (x : Int), l[k]? = some x → w.cell? ⟨g, k, none⟩ = some (.int .i64 x) := by
  subst hn
  rcases h.2 with ⟨h1, h0⟩ | ⟨g, cap, cur, h1, h2, h3, h4, h5, h6, h7⟩
  · have : l = [] := List.eq_nil_of_length_eq_zero h0
    subst this
    exact ⟨0, fun h => by simp at h, fun k x hx => by simp at hx⟩
  · cases h1
    refine ⟨g, fun _ => rfl, fun k x hx => ?_⟩
    have hk : k < l.length := by
      rcases Nat.lt_or_ge k l.length with h | h
      · exact h
      · rw [List.getElem?_eq_none h] at hx; cases hx
    rw [cell_of_obj h3]
    have e : (cur.toList.take (l.length * 1))[k]? = (ints l)[k]? := by rw [h7]
    rw [List.getElem?_take_of_lt (by omega)] at e
    rw [← Array.getElem?_toList, e]
    simp [ints, hx]
def greatN (l : List Int) (n : Int) : Int := l.foldl (fun n r => max n (min r 4096 + 1)) n
/-- The registers that an instruction names. -/
def regsOf (x : Insx) : List Int := if writesB x = true then readsS x ++ [writesD x] else readsS x
def insGreat (l : List Insx) (n : Int) : Int := l.foldl (fun n x => greatN (regsOf x) n) n
def greatestS (bs : List Blk) : Int := bs.foldl (fun n b => insGreat b.ins n) 0
theorem stake_get {α : Type} {l : List α} {k : Nat} {x : α} (h : l[k]? = some x) : l.take (k + 1) = l.take k ++ [x] := by
  obtain ⟨hk, hx⟩ := List.getElem?_eq_some_iff.1 h
  rw [List.take_succ_eq_append_getElem hk, hx]
theorem greatN_bd : ∀ (l : List Int) (n : Int), 0 ≤ n → n ≤ 4097 → (∀ y ∈ l, I64 y) → 0 ≤ greatN l n ∧ greatN l n ≤ 4097
  | [], n, h0, h1, _ => ⟨h0, h1⟩
  | y :: l, n, h0, h1, hl => greatN_bd l _ (show 0 ≤ max n (min y 4096 + 1) by omega) (show max n (min y 4096 + 1) ≤ 4097 by have := (hl y (by simp)).1; omega) (fun z hz => hl z (by simp [hz]))
theorem regsOf_bd {x : Insx} (hx : x.bd) : ∀ y ∈ regsOf x, I64 y := by
  unfold regsOf
  split
  · intro y hy
    rcases List.mem_append.1 hy with h | h
    · exact readsS_bd hx y h
    · rename_i hw
      simp only [List.mem_singleton] at h
      rw [h, show writesD x = x.d from if_pos hw]
      exact hx.2.1
  · exact readsS_bd hx
theorem insGreat_bd : ∀ (l : List Insx) (n : Int), 0 ≤ n → n ≤ 4097 → (∀ x ∈ l, x.bd) → 0 ≤ insGreat l n ∧ insGreat l n ≤ 4097
  | [], n, h0, h1, _ => ⟨h0, h1⟩
  | x :: l, n, h0, h1, hl => by
    have h := greatN_bd (regsOf x) n h0 h1 (regsOf_bd (hl x (by simp)))
    exact insGreat_bd l _ h.1 h.2 (fun z hz => hl z (by simp [hz]))
def blksBd (bs : List Blk) : Prop := ∀ b ∈ bs, ∀ x ∈ b.ins, x.bd
theorem greatest_go : ∀ (bs : List Blk) (n : Int), 0 ≤ n → n ≤ 4097 → blksBd bs → 0 ≤ bs.foldl (fun n b => insGreat b.ins n) n ∧ bs.foldl (fun n b => insGreat b.ins n) n ≤ 4097
  | [], n, h0, h1, _ => ⟨h0, h1⟩
  | b :: bs, n, h0, h1, hl => by
    have h := insGreat_bd b.ins n h0 h1 (hl b (by simp))
    exact greatest_go bs _ h.1 h.2 (fun z hz => hl z (by simp [hz]))
theorem greatest_bd {bs : List Blk} (h : blksBd bs) : 0 ≤ greatestS bs ∧ greatestS bs ≤ 4097 := greatest_go bs 0 (by omega) (by omega) h
theorem InsxIn.bds {w : World} {v : Value} {l : List Insx} (h : InsxIn w v l) : ∀ x ∈ l, x.bd := by
  intro x hx
  obtain ⟨k, hk⟩ := List.getElem?_of_mem hx
  obtain ⟨_, p, c, b, o, _, _, h4⟩ := h
  exact (h4 k x hk).bd
theorem BlksIn.bds {w : World} {v : Value} {l : List Blk} (h : BlksIn w v l) : blksBd l := by
  intro b hb
  obtain ⟨k, hk⟩ := List.getElem?_of_mem hb
  obtain ⟨_, p, c, g, o, _, _, h4⟩ := h
  obtain ⟨v, _, h⟩ := (h4 k b hk).c1
  exact h.bds
theorem blksBd_take {bs : List Blk} (h : blksBd bs) (k : Nat) : blksBd (bs.take k) := fun b hb => h b (List.mem_of_mem_take hb)
theorem InsxIn.argLen {w : World} {v : Value} {l : List Insx} (h : InsxIn w v l) : ∀ x ∈ l, x.args.length * 8 ≤ 140737488352000 := by
  intro x hx
  obtain ⟨k, hk⟩ := List.getElem?_of_mem hx
  obtain ⟨_, p, c, b, o, _, _, h4⟩ := h
  obtain ⟨v, _, h⟩ := (h4 k x hk).c6
  exact h.1
set_option maxRecDepth 100000 in
set_option maxHeartbeats 4000000 in
theorem greatest_any (nm : ByteArray) (fa fr : Int) (bs : List Blk) (pb : Option Addr) (cb : Nat) (w : World) (hB : BlksIn w (.slice pb bs.length cb) bs) :
    Calls Try.prog 59 #[.agg #[.string nm, .int .i64 fa, .int .i64 fr, .slice pb bs.length cb]] w fun e w' => e = .returned (.int .i64 (greatestS bs)) ∧ Below w.heap.size w w' := by
  have HBD := shid hB.bds
  obtain ⟨pbb, cbb, b, o, hbe, hbl, HBS⟩ := hB.hids
  cases hbe
  have HKB := shid (fun (W : World) (hb : Below w.heap.size w W) (k : Nat) (x : Blk) (hk : bs[k]? = some x) => (HBS.out.2 k x hk).keep hb)
  have HPB := shid HBS.out.1
  clear hB HBS
  have HW0 := shid (al1 w (.cells #[.string nm, .int .i64 fa, .int .i64 fr, .slice pb bs.length cb] 41))
  go_enter Try.func59, Try.ntmps59
  go_wp2_with fail
  generalize w.alloc (.cells #[.string nm, .int .i64 fa, .int .i64 fr, .slice pb bs.length cb] 41) = W0 at *
  go_loopw [3, 16] (fun n i wr => ∃ k : Nat, k ≤ bs.length ∧ i = .int .i64 k ∧ n = .int .i64 (greatestS (bs.take k)) ∧ Below w.heap.size w wr) (fun _ i _ => bs.length - (intOf i).toNat)
  case atStart => exact ⟨0, Nat.zero_le _, rfl, rfl, HW0.out⟩
  case round =>
    obtain ⟨k, hk, rfl, rfl, hbw⟩ := hrel
    have HBW := shid hbw
    clear hbw HW0
    by_cases hlt : k < bs.length
    · obtain rfl := HPB.out (by omega)
      have HX := shid (List.getElem?_eq_getElem hlt)
      generalize bs[k] = x at HX
      have HTK := shid (stake_get HX.out)
      have HGB := shid (greatest_bd (blksBd_take HBD.out k))
      have hxat := HKB.out wr HBW.out k x HX.out
      obtain ⟨c0, ⟨vi, c1, hvi⟩, _⟩ := hxat
      have HVB := shid hvi.bds
      have HAL := shid hvi.argLen
      obtain ⟨pi, ci, ib, io, rfl, hil, HIS⟩ := hvi.hids
      have HKI := shid (fun (W : World) (hb : Below wr.heap.size wr W) (j : Nat) (y : Insx) (hj : x.ins[j]? = some y) => (HIS.out.2 j y hj).keep hb)
      have HPI := shid HIS.out.1
      clear hvi HIS
      have h1 : (k : Int) < bs.length := by omega
      have HG0 := shid (show greatestS (bs.take (k + 1)) = insGreat x.ins (greatestS (bs.take k)) by rw [HTK.out]; simp [greatestS])
      generalize greatestS (bs.take k) = n0 at HGB HG0 ⊢
      have HWR := shid (al1 wr (.cells #[.string x.name, .slice pi x.ins.length ci] 46))
      go_wp2_with fail
      generalize wr.alloc (.cells #[.string x.name, .slice pi x.ins.length ci] 46) = W1 at *
      have HB0 := shid (sbt HBW.out HWR.out)
      have HKJ := shid (fun (W : World) (hb : Below W1.heap.size W1 W) => HKI.out W (sbt HWR.out hb))
      clear HKI HWR HBW c0 c1
      go_loopw [3, 23] (fun n i w2 => ∃ j : Nat, j ≤ x.ins.length ∧ i = .int .i64 j ∧ n = .int .i64 (insGreat (x.ins.take j) n0) ∧ Below W1.heap.size W1 w2) (fun _ i _ => x.ins.length - (intOf i).toNat)
      case atStart => exact ⟨0, Nat.zero_le _, rfl, rfl, Below.refl _ _⟩
      case round =>
        obtain ⟨j, hj, rfl, rfl, hb2⟩ := hrel
        have HB2 := shid hb2
        clear hb2
        by_cases hltj : j < x.ins.length
        · obtain rfl := HPI.out (by omega)
          have HY := shid (List.getElem?_eq_getElem hltj)
          have HYM := shid (List.getElem_mem hltj)
          generalize x.ins[j] = y at HY HYM
          have HTJ := shid (stake_get HY.out)
          have hyat := HKJ.out _ HB2.out j y HY.out
          obtain ⟨d0, d1, d2, d3, d4, d5, ⟨va, d6, hva⟩, d7, d8, hybd⟩ := hyat
          have HYB := shid hybd
          obtain ⟨pa, ca, rfl⟩ := hva.shape
          have HVA := shid hva
          have HAY := shid (HAL.out y HYM.out)
          have HG1 := shid (insGreat_bd (x.ins.take j) n0 HGB.out.1 HGB.out.2 (fun z hz => HVB.out z (List.mem_of_mem_take hz)))
          have HG2 := shid (show insGreat (x.ins.take (j + 1)) n0 = greatN (regsOf y) (insGreat (x.ins.take j) n0) by rw [HTJ.out]; simp [insGreat])
          generalize insGreat (x.ins.take j) n0 = n1 at HG1 HG2 ⊢
          clear hybd hva
          have h2 : (j : Int) < x.ins.length := by omega
          have HBX := shid (IBox.new wr y (.slice pa y.args.length ca) 44)
          have HW2 := shid (al1 wr (.cells #[.int .u8 y.op, .int .i64 y.d, .int .i64 y.a, .int .i64 y.b, .int .u32 y.n, .int .i64 y.f, .slice pa y.args.length ca, .int .i64 y.l1, .int .i64 y.l2] 44))
          go_wp2_with fail
          generalize wr.alloc (.cells #[.int .u8 y.op, .int .i64 y.d, .int .i64 y.a, .int .i64 y.b, .int .u32 y.n, .int .i64 y.f, .slice pa y.args.length ca, .int .i64 y.l1, .int .i64 y.l2] 44) = W2 at *
          refine (reads_any y HYB.out pa y.args.length ca W2 (IntsIn.keep HVA.out HW2.out)).mono ?_
          rintro e W3 ⟨v3, rfl, ho3, hb3⟩
          have hz3 := hb3.size
          have HO3 := shid ho3
          have HB3 := shid hb3
          have HBX3 := shid (HBX.out.keep hb3)
          obtain ⟨p3, c3, rfl, hs3⟩ := own_shape ho3
          have HS3 := shid hs3
          clear ho3 hb3 hs3 d0 d1 d2 d3 d4 d5 d6 d7 d8 HBX
          obtain ⟨_, x0, x1, x2, x3, x4, x5, x6, x7, x8⟩ := HBX3.out
          go_wp2_with fail
          clear x0 x1 x2 x3 x4 x5 x6 x7 x8
          refine (writes_any y HYB.out pa y.args.length ca W3).mono ?_
          rintro e W4 ⟨rfl, hb4⟩
          have HB4 := shid (sbt HB3.out hb4)
          have HO4 : Hid (W4.ownsRow W2.heap.size 3 1 (.slice p3 (readsS y).length c3) (readsS y).length (ints (readsS y))) := shid (ownsRow_below HO3.out hb4)
          have hz4 := HB4.out.size
          have hlr := readsS_len HAY.out
          cases hwb : writesB y
          case false =>
            have hrs : regsOf y = readsS y := by unfold regsOf; rw [hwb]; rfl
            have HRB := shid (regsOf_bd HYB.out)
            have HRL := shid (show (regsOf y).length = (readsS y).length by rw [hrs])
            obtain ⟨g5, hp5, hc5⟩ := own_cells HO4.out rfl
            rw [← hrs] at hp5 hc5
            have HP5 := shid hp5
            have HC5 := shid hc5
            have HB5 := shid (sbt HB2.out (sbt HW2.out HB4.out))
            clear hwb hrs hp5 hc5
            go_wp2_with fail
            go_loop [3, 41] (fun n i => ∃ q : Nat, q ≤ (regsOf y).length ∧ i = .int .i64 q ∧ n = .int .i64 (greatN ((regsOf y).take q) n1)) (fun _ i => (regsOf y).length - (intOf i).toNat)
            case atStart => exact ⟨0, Nat.zero_le _, rfl, rfl⟩
            case round =>
              obtain ⟨q, hq, rfl, rfl⟩ := hrel
              by_cases hltq : q < (regsOf y).length
              · obtain rfl := HP5.out (by omega)
                have HZ := shid (List.getElem?_eq_getElem hltq)
                have HZM := shid (HRB.out _ (List.getElem_mem hltq))
                generalize (regsOf y)[q] = z at HZ HZM
                have e0 := HC5.out q z HZ.out
                have HG4 := shid (greatN_bd ((regsOf y).take q) n1 HG1.out.1 HG1.out.2 (fun u hu => HRB.out u (List.mem_of_mem_take hu)))
                have HG3 := shid (show greatN ((regsOf y).take (q + 1)) n1 = max (greatN ((regsOf y).take q) n1) (min z 4096 + 1) by rw [stake_get HZ.out]; simp [greatN])
                generalize greatN ((regsOf y).take q) n1 = n2 at HG4 HG3 ⊢
                have hz1 := HZM.out.1
                have hz2 := HZM.out.2
                have hg1 := HG4.out.1
                have hg2 := HG4.out.2
                rw [HRL.out] at hltq hq
                have h3 : (q : Int) < (readsS y).length := by omega
                go_wp2_with fail
                all_goals
                  go_round
                  case rel => exact ⟨q + 1, by rw [HRL.out]; omega, by go_num, congrArg (Value.int .i64) (by rw [HG3.out]; omega)⟩
                  case measure => have := HRL.out; simp [intOf]; omega
              · have HG3 := shid (show greatN ((regsOf y).take q) n1 = insGreat (x.ins.take (j + 1)) n0 by rw [HG2.out, List.take_of_length_le (by omega)])
                have hge : ¬ q < (readsS y).length := by rw [← HRL.out]; exact hltq
                rw [HG3.out]
                clear hltq hq HC5 HP5
                go_wp2_with fail
                go_roundw
                case rel => exact ⟨j + 1, by omega, by go_num, rfl, HB5.out⟩
                case measure => simp [intOf]; omega
          case true =>
            have hrs : regsOf y = readsS y ++ [writesD y] := by unfold regsOf; rw [hwb]; rfl
            have HRB := shid (regsOf_bd HYB.out)
            have hwd : I64 (writesD y) := HRB.out _ (by rw [hrs]; simp)
            have hrb : (regsOf y).length * 8 ≤ 140737488352008 := by rw [hrs]; simp; omega
            have HRS := shid hrs
            clear hwb hrs
            go_wp2_with (at_builtin; refine wpList_append_ints rfl _ _ rfl W2.heap.size _ (readsS y) rfl (HO4.out.alloc _) _ [writesD y] rfl (IntsIn.one _ _ 3 _ hwd (cell_of_obj (heap_alloc_new W4 _))) (by simp; omega) (by simp; omega) ?_; rw [← HRS.out]; intro v' w5 hown hgrow)
            have HB5 := shid (sbt HB2.out (sbt HW2.out (grown_below (HB4.out.alloc hz4 _) hgrow (by intro kk hkk; exact (HS3.out kk hkk).1) (by simp; omega))))
            obtain ⟨p5, c5, rfl, _⟩ := own_shape hown
            obtain ⟨g5, hp5, hc5⟩ := own_cells hown rfl
            have HP5 := shid hp5
            have HC5 := shid hc5
            clear hown hgrow hp5 hc5
            go_simp
            go_wp2_with fail
            go_loop [3, 41] (fun n i => ∃ q : Nat, q ≤ (regsOf y).length ∧ i = .int .i64 q ∧ n = .int .i64 (greatN ((regsOf y).take q) n1)) (fun _ i => (regsOf y).length - (intOf i).toNat)
            case atStart => exact ⟨0, Nat.zero_le _, rfl, rfl⟩
            case round =>
              obtain ⟨q, hq, rfl, rfl⟩ := hrel
              by_cases hltq : q < (regsOf y).length
              · obtain rfl := HP5.out (by omega)
                have HZ := shid (List.getElem?_eq_getElem hltq)
                have HZM := shid (HRB.out _ (List.getElem_mem hltq))
                generalize (regsOf y)[q] = z at HZ HZM
                have e0 := HC5.out q z HZ.out
                have HG4 := shid (greatN_bd ((regsOf y).take q) n1 HG1.out.1 HG1.out.2 (fun u hu => HRB.out u (List.mem_of_mem_take hu)))
                have HG3 := shid (show greatN ((regsOf y).take (q + 1)) n1 = max (greatN ((regsOf y).take q) n1) (min z 4096 + 1) by rw [stake_get HZ.out]; simp [greatN])
                generalize greatN ((regsOf y).take q) n1 = n2 at HG4 HG3 ⊢
                have hz1 := HZM.out.1
                have hz2 := HZM.out.2
                have hg1 := HG4.out.1
                have hg2 := HG4.out.2
                have h3 : (q : Int) < (regsOf y).length := by omega
                go_wp2_with fail
                all_goals
                  go_round
                  case rel => exact ⟨q + 1, by omega, by go_num, congrArg (Value.int .i64) (by rw [HG3.out]; omega)⟩
                  case measure => simp [intOf]; omega
              · have HG3 := shid (show greatN ((regsOf y).take q) n1 = insGreat (x.ins.take (j + 1)) n0 by rw [HG2.out, List.take_of_length_le (by omega)])
                rw [HG3.out]
                clear HC5 HP5
                go_wp2_with fail
                go_roundw
                case rel => exact ⟨j + 1, by omega, by go_num, rfl, HB5.out⟩
                case measure => simp [intOf]; omega
        · have HG3 := shid (show insGreat (x.ins.take j) n0 = greatestS (bs.take (k + 1)) by rw [HG0.out, List.take_of_length_le (by omega)])
          have HB3 := shid (sbt HB0.out HB2.out)
          rw [HG3.out]
          go_wp2_with fail
          go_roundw
          case rel => exact ⟨k + 1, by omega, by go_num, rfl, HB3.out⟩
          case measure => simp [intOf]; omega
    · have HG3 := shid (show greatestS (bs.take k) = greatestS bs by rw [List.take_of_length_le (by omega)])
      rw [HG3.out]
      go_wp2_with fail
      go_ret
      exact ⟨rfl, HBW.out⟩
end Go.Proofs.Ytdefooailcbnlaa
/- The walk of muntinref14.regs. -/
namespace Go.Proofs.Ytdefooailcbnlaa
open Go.RowKit
set_option linter.unusedVariables false
set_option linter.unusedSimpArgs false
end Go.Proofs.Ytdefooailcbnlaa
/- The walks of shape.goes and muntinref14.Next. -/
namespace Go.Proofs.Ytdefooailcbnlaa
open Go.RowKit
set_option linter.unusedVariables false
set_option linter.unusedSimpArgs false
def goesS (x : Insx) : List Int := if x.op = 8 then [x.l1] else if x.op = 9 then [x.l1, x.l2] else []
set_option maxRecDepth 100000 in
set_option maxHeartbeats 1000000 in
theorem goes_any (x : Insx) (av : Value) (pa : Option Addr) (n c : Nat) (hav : av = .slice pa n c) (w : World) :
    Calls Try.prog 63 #[x.agg av] w (IntsOwn w (goesS x)) := by
  subst hav
  have HG := shid (show goesS x = if x.op = 8 then [x.l1] else if x.op = 9 then [x.l1, x.l2] else [] from rfl)
  have HBX := shid (IBox.new w x (.slice pa n c) 44)
  have HW0 := shid (al1 w (.cells #[.int .u8 x.op, .int .i64 x.d, .int .i64 x.a, .int .i64 x.b, .int .u32 x.n, .int .i64 x.f, .slice pa n c, .int .i64 x.l1, .int .i64 x.l2] 44))
  unfold Insx.agg
  by_cases h8 : x.op = 8
  · have e8 : (x.op == 8) = true := by simpa using h8
    have HR := shid (show goesS x = [x.l1] by rw [HG.out, if_pos h8])
    clear h8 HG
    obtain ⟨_, b0, _, _, _, _, _, _, b7, b8⟩ := HBX.out
    go_enter Try.func63, Try.ntmps63
    go_wp2_with fail
    go_ret
    rw [HR.out]
    have ho := own_new (w.alloc (.cells #[.int .u8 x.op, .int .i64 x.d, .int .i64 x.a, .int .i64 x.b, .int .u32 x.n, .int .i64 x.f, .slice pa n c, .int .i64 x.l1, .int .i64 x.l2] 44)) w.heap.size #[.int .i64 x.l1] 3 1 1 rfl (by simp [maxLen]) (by simp)
    rw [World.size_alloc] at ho
    exact ⟨_, rfl, ho, al2 _ _ _⟩
  · have e8 : (x.op == 8) = false := by simpa using h8
    by_cases h9 : x.op = 9
    · have e9 : (x.op == 9) = true := by simpa using h9
      have HR := shid (show goesS x = [x.l1, x.l2] by rw [HG.out, if_neg h8, if_pos h9])
      clear h8 h9 HG
      obtain ⟨_, b0, _, _, _, _, _, _, b7, b8⟩ := HBX.out
      go_enter Try.func63, Try.ntmps63
      go_wp2_with fail
      go_ret
      rw [HR.out]
      have ho := own_new (w.alloc (.cells #[.int .u8 x.op, .int .i64 x.d, .int .i64 x.a, .int .i64 x.b, .int .u32 x.n, .int .i64 x.f, .slice pa n c, .int .i64 x.l1, .int .i64 x.l2] 44)) w.heap.size #[.int .i64 x.l1, .int .i64 x.l2] 3 2 1 rfl (by simp [maxLen]) (by simp)
      rw [World.size_alloc] at ho
      exact ⟨_, rfl, ho, al2 _ _ _⟩
    · have e9 : (x.op == 9) = false := by simpa using h9
      have HR := shid (show goesS x = [] by rw [HG.out, if_neg h8, if_neg h9])
      clear h8 h9 HG
      obtain ⟨_, b0, _, _, _, _, _, _, b7, b8⟩ := HBX.out
      go_enter Try.func63, Try.ntmps63
      go_wp2_with fail
      go_ret
      rw [HR.out]
      exact ⟨_, rfl, World.ownsRow_nil _ _ _ _, HW0.out⟩
end Go.Proofs.Ytdefooailcbnlaa
/- The walk of muntinref14.writes. -/
namespace Go.Proofs.Ytdefooailcbnlaa
open Go.RowKit
set_option linter.unusedVariables false
set_option linter.unusedSimpArgs false
/-- A register is written in the first instructions, so many. -/
def wrB (l : List Insx) (r : Int) (m : Nat) : Bool := (l.take m).any fun x => writesB x && decide (writesD x = r)
end Go.Proofs.Ytdefooailcbnlaa
/- The registers that are surely there: plain laws on lists. No function of the program is walked here. -/
namespace Go.Proofs.Ytdefooailcbnlaa
open Go.RowKit
set_option linter.unusedVariables false
set_option linter.unusedSimpArgs false
def insAt (bs : List Blk) (i : Nat) : List Insx := (bs[i]?.map Blk.ins).getD []
def goesOf (bs : List Blk) (i : Nat) : List Int := ((insAt bs i)[(insAt bs i).length - 1]?.map goesS).getD []
abbrev Sets := List (Option (List Bool))
def wr1 (s : List Bool) (x : Insx) : List Bool := if writesB x = true then s.set x.d.toNat true else s
def thru (l : List Insx) (s : List Bool) : List Bool := l.foldl wr1 s
def andL (l b : List Bool) : List Bool := List.zipWith (fun x y => x && y) l b
def lostL (l b : List Bool) : Bool := (List.zipWith (fun x y => x && !y) l b).any id
def meetS (S : Sets) (k : Nat) (b : List Bool) : Sets × Bool :=
  match S[k]? with
  | some (some l) => (S.set k (some (andL l b)), lostL l b)
  | _ => (S.set k (some b), true)
def edgeS (b : List Bool) (st : Sets × Bool) (k : Int) : Sets × Bool := ((meetS st.1 k.toNat b).1, (meetS st.1 k.toNat b).2 || st.2)
def stepS (bs : List Blk) (st : Sets × Bool) (i : Nat) : Sets × Bool :=
  match st.1[i]? with
  | some (some l) => (goesOf bs i).foldl (edgeS (thru (insAt bs i) l)) st
  | _ => st
def sweepS (bs : List Blk) (S : Sets) (n : Nat) : Sets × Bool := (List.range n).foldl (stepS bs) (S, false)
/-- A path goes to the beginning of a block that does not write a register. -/
inductive Lack (bs : List Blk) (args : Int) (r : Nat) : Nat → Prop where
  | start : args ≤ r → Lack bs args r 0
  | next (i : Nat) (k : Int) : Lack bs args r i → wrB (insAt bs i) r (insAt bs i).length = false → k ∈ goesOf bs i → Lack bs args r k.toNat
structure Inv (bs : List Blk) (args : Int) (R : Nat) (S : Sets) : Prop where
  len : S.length = bs.length
  sound : ∀ i l, S[i]? = some (some l) → l.length = R ∧ ∀ r, l[r]? = some false → Lack bs args r i
  head : ∃ l, S[0]? = some (some l) ∧ ∀ r : Nat, args ≤ r → r < R → l[r]? = some false
def EdgeOk (b : List Bool) (S : Sets) (k : Int) : Prop := ∃ m, S[k.toNat]? = some (some m) ∧ ∀ r : Nat, r < m.length → b[r]? = some false → m[r]? = some false
def Stable (bs : List Blk) (S : Sets) : Prop := ∀ i, i < bs.length → ∀ l, S[i]? = some (some l) → ∀ k ∈ goesOf bs i, EdgeOk (thru (insAt bs i) l) S k
def mu1 (R : Nat) : Option (List Bool) → Nat
  | none => R + 1
  | some l => l.count true
def mu (R : Nat) (S : Sets) : Nat := (S.map (mu1 R)).sum
/-- What the writes of instructions say: none is below 0. -/
def WritesOk (l : List Insx) : Prop := ∀ x ∈ l, writesB x = true → 0 ≤ x.d
theorem wr1_length (s : List Bool) (x : Insx) : (wr1 s x).length = s.length := by unfold wr1; split <;> simp
theorem thru_length : ∀ (l : List Insx) (s : List Bool), (thru l s).length = s.length
  | [], _ => rfl
  | x :: l, s => by
    have := thru_length l (wr1 s x)
    rw [wr1_length] at this
    exact this
theorem wrB_cons (x : Insx) (l : List Insx) (r : Int) : wrB (x :: l) r (x :: l).length = ((writesB x && decide (writesD x = r)) || wrB l r l.length) := by
  unfold wrB; simp
theorem thru_get : ∀ (l : List Insx) (s : List Bool) (r : Nat), WritesOk l → ((thru l s)[r]? = some false ↔ s[r]? = some false ∧ wrB l r l.length = false)
  | [], s, r, _ => by simp [thru, wrB]
  | x :: l, s, r, hw => by
    have ih := thru_get l (wr1 s x) r (fun y hy => hw y (by simp [hy]))
    rw [show thru (x :: l) s = thru l (wr1 s x) from rfl, ih, wrB_cons]
    unfold wr1
    by_cases hx : writesB x = true
    · have h0 := hw x (by simp) hx
      have hD : writesD x = x.d := if_pos hx
      rw [if_pos hx, hx, hD]
      by_cases e : x.d = r
      · subst_vars
        rw [e]
        simp only [Int.toNat_natCast, Bool.true_and, decide_true, Bool.true_or]
        constructor
        · rintro ⟨h1, _⟩
          rw [List.getElem?_set_self'] at h1
          cases hs : s[r]? <;> rw [hs] at h1 <;> simp at h1
        · rintro ⟨_, h⟩; cases h
      · rw [List.getElem?_set_ne (by omega), decide_eq_false e]; simp
    · rw [if_neg hx]; simp [hx]
theorem mu1_le (R : Nat) (l : List Bool) (h : l.length = R) : l.count true ≤ R := by
  rw [← h]; exact List.count_le_length
theorem andL_length (l b : List Bool) (h : l.length = b.length) : (andL l b).length = l.length := by simp [andL, h]
theorem andL_get {l b : List Bool} {r : Nat} (h : (andL l b)[r]? = some false) : l[r]? = some false ∨ b[r]? = some false := by
  unfold andL at h
  rw [List.getElem?_zipWith] at h
  cases hl : l[r]? <;> cases hb : b[r]? <;> rw [hl, hb] at h <;> simp at h
  rename_i x y
  cases x <;> cases y <;> simp_all
theorem andL_left : ∀ (l b : List Bool) (r : Nat), l.length = b.length → l[r]? = some false → (andL l b)[r]? = some false
  | l, b, r, hl, h => by
    have hr : r < l.length := (List.getElem?_eq_some_iff.1 h).1
    unfold andL
    rw [List.getElem?_zipWith, h, List.getElem?_eq_getElem (by omega)]
    simp
theorem andL_count : ∀ (l b : List Bool), l.length = b.length → (andL l b).count true ≤ l.count true ∧ (lostL l b = true → (andL l b).count true < l.count true) ∧ (lostL l b = false → andL l b = l ∧ ∀ r : Nat, b[r]? = some false → l[r]? = some false)
  | [], [], _ => by simp [andL, lostL]
  | x :: l, y :: b, h => by
    obtain ⟨h1, h2, h3⟩ := andL_count l b (by simpa using h)
    have e1 : andL (x :: l) (y :: b) = (x && y) :: andL l b := rfl
    have e2 : lostL (x :: l) (y :: b) = ((x && !y) || lostL l b) := by simp [lostL]
    rw [e1, e2]
    cases x <;> cases y <;> simp [List.count_cons]
    · refine ⟨h1, h2, fun h => ⟨(h3 h).1, fun r hr => ?_⟩⟩
      cases r with
      | zero => rfl
      | succ r => simpa using (h3 h).2 r (by simpa using hr)
    · refine ⟨h1, h2, fun h => ⟨(h3 h).1, fun r hr => ?_⟩⟩
      cases r with
      | zero => rfl
      | succ r => simpa using (h3 h).2 r (by simpa using hr)
    · omega
    · refine ⟨h1, h2, fun h => ⟨(h3 h).1, fun r hr => ?_⟩⟩
      cases r with
      | zero => simp at hr
      | succ r => simpa using (h3 h).2 r (by simpa using hr)
theorem mu_set : ∀ (S : Sets) (R k : Nat) (o n : Option (List Bool)), S[k]? = some o → mu R (S.set k n) + mu1 R o = mu R S + mu1 R n
  | s :: S, R, 0, o, n, h => by
    simp at h; subst h
    simp [mu]; omega
  | s :: S, R, k + 1, o, n, h => by
    have := mu_set S R k o n (by simpa using h)
    simp only [mu, List.set_cons_succ, List.map_cons, List.sum_cons] at this ⊢
    omega
theorem set_self {α : Type} {l : List α} {k : Nat} {x : α} (h : l[k]? = some x) : l.set k x = l := by
  obtain ⟨hk, hx⟩ := List.getElem?_eq_some_iff.1 h
  rw [← hx]; exact List.set_getElem_self hk
/-- One edge. -/
theorem meet_ok (bs : List Blk) (args : Int) (R : Nat) (S : Sets) (k : Int) (b : List Bool) (hI : Inv bs args R S) (hk : k.toNat < bs.length) (hbl : b.length = R) (hb : ∀ r : Nat, b[r]? = some false → Lack bs args r k.toNat) :
    Inv bs args R (meetS S k.toNat b).1 ∧ mu R (meetS S k.toNat b).1 ≤ mu R S ∧ ((meetS S k.toNat b).2 = true → mu R (meetS S k.toNat b).1 < mu R S) ∧ ((meetS S k.toNat b).2 = false → (meetS S k.toNat b).1 = S ∧ EdgeOk b S k) := by
  have hkS : k.toNat < S.length := by rw [hI.len]; exact hk
  obtain ⟨o, ho⟩ : ∃ o, S[k.toNat]? = some o := ⟨_, List.getElem?_eq_getElem hkS⟩
  unfold meetS
  rw [ho]
  cases o with
  | none =>
    dsimp only
    have hm := mu_set S R k.toNat none (some b) ho
    have hc := mu1_le R b hbl
    refine ⟨⟨by simpa using hI.len, ?_, ?_⟩, ?_, ?_, ?_⟩
    · intro i l hl
      by_cases e : k.toNat = i
      · subst e
        rw [List.getElem?_set_self hkS] at hl
        cases hl
        exact ⟨hbl, hb⟩
      · rw [List.getElem?_set_ne e] at hl
        exact hI.sound i l hl
    · obtain ⟨l, h1, h2⟩ := hI.head
      refine ⟨l, ?_, h2⟩
      rw [List.getElem?_set_ne (by intro e; rw [e, h1] at ho; cases ho)]
      exact h1
    · simp only [mu1] at hm ⊢; omega
    · intro _; simp only [mu1] at hm ⊢; omega
    · intro h; cases h
  | some l =>
    have hl := hI.sound _ _ ho
    have hm := mu_set S R k.toNat (some l) (some (andL l b)) ho
    obtain ⟨c1, c2, c3⟩ := andL_count l b (by rw [hl.1, hbl])
    simp only [mu1] at hm
    dsimp only
    refine ⟨⟨by simpa using hI.len, ?_, ?_⟩, ?_, ?_, ?_⟩
    · intro i m hm
      by_cases e : k.toNat = i
      · subst e
        rw [List.getElem?_set_self hkS] at hm
        cases hm
        refine ⟨by rw [andL_length _ _ (by rw [hl.1, hbl])]; exact hl.1, fun r hr => ?_⟩
        rcases andL_get hr with h | h
        · exact hl.2 r h
        · exact hb r h
      · rw [List.getElem?_set_ne e] at hm
        exact hI.sound i m hm
    · obtain ⟨l0, h1, h2⟩ := hI.head
      by_cases e : k.toNat = 0
      · rw [e] at ho ⊢
        rw [h1] at ho
        obtain rfl : l0 = l := by cases ho; rfl
        refine ⟨andL l0 b, List.getElem?_set_self (by omega), fun r hr hR => andL_left _ _ _ (by rw [hl.1, hbl]) (h2 r hr hR)⟩
      · exact ⟨l0, by rw [List.getElem?_set_ne e]; exact h1, h2⟩
    · omega
    · intro h; have := c2 h; omega
    · intro h
      obtain ⟨e1, e2⟩ := c3 h
      refine ⟨?_, l, ho, fun r _ hr => e2 r hr⟩
      rw [e1]
      exact set_self ho
theorem edge_ok (bs : List Blk) (args : Int) (R : Nat) (b : List Bool) (hbl : b.length = R) (st : Sets × Bool) (k : Int) (hI : Inv bs args R st.1) (hk : k.toNat < bs.length) (hb : ∀ r : Nat, b[r]? = some false → Lack bs args r k.toNat) :
    Inv bs args R (edgeS b st k).1 ∧ mu R (edgeS b st k).1 ≤ mu R st.1 ∧ ((edgeS b st k).2 = true → st.2 = true ∨ mu R (edgeS b st k).1 < mu R st.1) ∧ ((edgeS b st k).2 = false → st.2 = false ∧ (edgeS b st k).1 = st.1 ∧ EdgeOk b st.1 k) := by
  obtain ⟨h1, h2, h3, h4⟩ := meet_ok bs args R st.1 k b hI hk hbl hb
  unfold edgeS
  dsimp only
  refine ⟨h1, h2, fun h => ?_, fun h => ?_⟩
  · simp only [Bool.or_eq_true] at h
    rcases h with h | h
    · exact .inr (h3 h)
    · exact .inl h
  · obtain ⟨ha, hb⟩ := (Bool.or_eq_false_iff).1 h
    exact ⟨hb, h4 ha⟩
theorem edges_ok (bs : List Blk) (args : Int) (R : Nat) (b : List Bool) (hbl : b.length = R) : ∀ (ks : List Int) (st : Sets × Bool), Inv bs args R st.1 → (∀ k ∈ ks, k.toNat < bs.length ∧ ∀ r : Nat, b[r]? = some false → Lack bs args r k.toNat) →
    Inv bs args R (ks.foldl (edgeS b) st).1 ∧ mu R (ks.foldl (edgeS b) st).1 ≤ mu R st.1 ∧ ((ks.foldl (edgeS b) st).2 = true → st.2 = true ∨ mu R (ks.foldl (edgeS b) st).1 < mu R st.1) ∧ ((ks.foldl (edgeS b) st).2 = false → st.2 = false ∧ (ks.foldl (edgeS b) st).1 = st.1 ∧ ∀ k ∈ ks, EdgeOk b st.1 k)
  | [], st, hI, _ => ⟨hI, Nat.le_refl _, fun h => .inl h, fun h => ⟨h, rfl, by simp⟩⟩
  | k :: ks, st, hI, hk => by
    obtain ⟨h1, h2, h3, h4⟩ := edge_ok bs args R b hbl st k hI (hk k (by simp)).1 (hk k (by simp)).2
    obtain ⟨g1, g2, g3, g4⟩ := edges_ok bs args R b hbl ks (edgeS b st k) h1 (fun j hj => hk j (by simp [hj]))
    simp only [List.foldl_cons]
    refine ⟨g1, Nat.le_trans g2 h2, fun h => ?_, fun h => ?_⟩
    · rcases g3 h with h | h
      · rcases h3 h with h | h
        · exact .inl h
        · exact .inr (by omega)
      · exact .inr (by omega)
    · obtain ⟨e1, e2, e3⟩ := g4 h
      obtain ⟨f1, f2, f3⟩ := h4 e1
      refine ⟨f1, e2.trans f2, fun j hj => ?_⟩
      rcases List.mem_cons.1 hj with rfl | hj
      · exact f3
      · rw [← f2]; exact e3 j hj
/-- What blocks must be for this: where they go is there, and what they write. -/
structure Flow (bs : List Blk) : Prop where
  to : ∀ i, ∀ k ∈ goesOf bs i, k.toNat < bs.length
  wr : ∀ i, WritesOk (insAt bs i)
theorem step_ok (bs : List Blk) (args : Int) (R : Nat) (hF : Flow bs) (st : Sets × Bool) (i : Nat) (hI : Inv bs args R st.1) :
    Inv bs args R (stepS bs st i).1 ∧ mu R (stepS bs st i).1 ≤ mu R st.1 ∧ ((stepS bs st i).2 = true → st.2 = true ∨ mu R (stepS bs st i).1 < mu R st.1) ∧ ((stepS bs st i).2 = false → st.2 = false ∧ (stepS bs st i).1 = st.1 ∧ ∀ l, st.1[i]? = some (some l) → ∀ k ∈ goesOf bs i, EdgeOk (thru (insAt bs i) l) st.1 k) := by
  unfold stepS
  split
  · rename_i l hl
    obtain ⟨hlen, hs⟩ := hI.sound i l hl
    obtain ⟨h1, h2, h3, h4⟩ := edges_ok bs args R (thru (insAt bs i) l) (by rw [thru_length]; exact hlen) (goesOf bs i) st hI (fun k hk => ⟨hF.to i k hk, fun r hr => by
      obtain ⟨e1, e2⟩ := (thru_get _ _ _ (hF.wr i)).1 hr
      exact .next i k (hs r e1) e2 hk⟩)
    refine ⟨h1, h2, h3, fun h => ?_⟩
    obtain ⟨e1, e2, e3⟩ := h4 h
    refine ⟨e1, e2, fun l' hl' => ?_⟩
    rw [hl] at hl'
    cases hl'
    exact e3
  · rename_i hn
    refine ⟨hI, Nat.le_refl _, fun h => .inl h, fun h => ⟨h, rfl, fun l hl => absurd hl (hn l)⟩⟩
theorem sweep_ok (bs : List Blk) (args : Int) (R : Nat) (hF : Flow bs) (S : Sets) (hI : Inv bs args R S) : ∀ n,
    Inv bs args R (sweepS bs S n).1 ∧ mu R (sweepS bs S n).1 ≤ mu R S ∧ ((sweepS bs S n).2 = true → mu R (sweepS bs S n).1 < mu R S) ∧ ((sweepS bs S n).2 = false → (sweepS bs S n).1 = S ∧ ∀ i, i < n → ∀ l, S[i]? = some (some l) → ∀ k ∈ goesOf bs i, EdgeOk (thru (insAt bs i) l) S k)
  | 0 => ⟨hI, Nat.le_refl _, (fun h => by cases h), (fun _ => ⟨rfl, fun i hi => by omega⟩)⟩
  | n + 1 => by
    obtain ⟨h1, h2, h3, h4⟩ := sweep_ok bs args R hF S hI n
    have e : sweepS bs S (n + 1) = stepS bs (sweepS bs S n) n := by unfold sweepS; rw [List.range_succ, List.foldl_append]; rfl
    rw [e]
    obtain ⟨g1, g2, g3, g4⟩ := step_ok bs args R hF (sweepS bs S n) n h1
    refine ⟨g1, Nat.le_trans g2 h2, fun h => ?_, fun h => ?_⟩
    · rcases g3 h with h | h
      · have := h3 h; omega
      · omega
    · obtain ⟨e1, e2, e3⟩ := g4 h
      obtain ⟨f1, f2⟩ := h4 e1
      refine ⟨e2.trans f1, fun i hi l hl k hk => ?_⟩
      rcases Nat.lt_or_ge i n with hin | hin
      · exact f2 i hin l hl k hk
      · obtain rfl : i = n := by omega
        rw [f1] at e3
        exact e3 l hl k hk
/-- Where nothing is lost any more: what is not surely there is what a path lacks. -/
structure Final (bs : List Blk) (args : Int) (R : Nat) (S : Sets) : Prop where
  inv : Inv bs args R S
  stable : Stable bs S
theorem final_iff {bs : List Blk} {args : Int} {R : Nat} {S : Sets} (hF : Flow bs) (h : Final bs args R S) (r : Nat) (hr : r < R) (i : Nat) : Lack bs args r i ↔ ∃ l, S[i]? = some (some l) ∧ l[r]? = some false := by
  constructor
  · intro hl
    induction hl with
    | start ha =>
      obtain ⟨l, h1, h2⟩ := h.inv.head
      exact ⟨l, h1, h2 r ha hr⟩
    | next i k hl hw hk ih =>
      obtain ⟨l, h1, h2⟩ := ih
      have hi : i < bs.length := by
        have := (List.getElem?_eq_some_iff.1 h1).1
        rw [h.inv.len] at this; exact this
      obtain ⟨m, m1, m2⟩ := h.stable i hi l h1 k hk
      exact ⟨m, m1, m2 r (by rw [(h.inv.sound _ _ m1).1]; exact hr) ((thru_get _ _ _ (hF.wr i)).2 ⟨h2, hw⟩)⟩
  · rintro ⟨l, h1, h2⟩
    exact (h.inv.sound i l h1).2 r h2
/-! ### The document's way: so many passes over all blocks -/
def lstep (bs : List Blk) (r : Nat) (o : List Bool) (i : Nat) : List Bool :=
  if o[i]? = some true ∧ wrB (insAt bs i) r (insAt bs i).length = false then (goesOf bs i).foldl (fun o k => o.set k.toNat true) o else o
def lpass (bs : List Blk) (r : Nat) (o : List Bool) (n : Nat) : List Bool := (List.range n).foldl (lstep bs r) o
def lpasses (bs : List Blk) (r : Nat) (o : List Bool) : Nat → List Bool
  | 0 => o
  | n + 1 => lpass bs r (lpasses bs r o n) bs.length
def linit (bs : List Blk) (args : Int) (r : Nat) : List Bool := (List.replicate bs.length false).set 0 (decide (args ≤ r))
def lacksL (bs : List Blk) (args : Int) (r : Nat) : List Bool := lpasses bs r (linit bs args r) bs.length
def lsets (ks : List Int) (o : List Bool) : List Bool := ks.foldl (fun o k => o.set k.toNat true) o
theorem count_set (o : List Bool) (k : Nat) : o.count true ≤ (o.set k true).count true ∧ ((o.set k true).count true = o.count true → o.set k true = o) := by
  induction o generalizing k with
  | nil => simp
  | cons x o ih =>
    cases k with
    | zero => cases x <;> simp [List.count_cons]
    | succ k =>
      obtain ⟨h1, h2⟩ := ih k
      simp only [List.set_cons_succ, List.count_cons]
      refine ⟨by omega, fun h => ?_⟩
      rw [h2 (by omega)]
theorem lsets_ok : ∀ (ks : List Int) (o : List Bool), (lsets ks o).length = o.length ∧ o.count true ≤ (lsets ks o).count true ∧ ((lsets ks o).count true = o.count true → lsets ks o = o ∧ ∀ k ∈ ks, k.toNat < o.length → o[k.toNat]? = some true) ∧ (∀ j : Nat, (lsets ks o)[j]? = some true → o[j]? = some true ∨ ∃ k ∈ ks, k.toNat = j)
  | [], o => ⟨rfl, Nat.le_refl _, fun _ => ⟨rfl, by simp⟩, fun j h => .inl h⟩
  | k :: ks, o => by
    obtain ⟨h0, h1, h2, h3⟩ := lsets_ok ks (o.set k.toNat true)
    obtain ⟨c1, c2⟩ := count_set o k.toNat
    rw [show lsets (k :: ks) o = lsets ks (o.set k.toNat true) from rfl]
    refine ⟨by rw [h0]; simp, by omega, fun h => ?_, fun j hj => ?_⟩
    · have e := c2 (by omega)
      obtain ⟨g1, g2⟩ := h2 (by omega)
      rw [e] at g1 g2
      rw [e]
      refine ⟨g1, fun j hj hl => ?_⟩
      rcases List.mem_cons.1 hj with rfl | hj
      · rw [← e]; exact List.getElem?_set_self hl
      · exact g2 j hj hl
    · rcases h3 j hj with h | ⟨i, hi, rfl⟩
      · by_cases e : k.toNat = j
        · exact .inr ⟨k, by simp, e⟩
        · rw [List.getElem?_set_ne e] at h; exact .inl h
      · exact .inr ⟨i, by simp [hi], rfl⟩
def LEdge (bs : List Blk) (r : Nat) (o : List Bool) (i : Nat) : Prop := o[i]? = some true → wrB (insAt bs i) r (insAt bs i).length = false → ∀ k ∈ goesOf bs i, k.toNat < o.length → o[k.toNat]? = some true
theorem lstep_ok (bs : List Blk) (args : Int) (r : Nat) (o : List Bool) (i : Nat) (hs : ∀ j : Nat, o[j]? = some true → Lack bs args r j) :
    (lstep bs r o i).length = o.length ∧ o.count true ≤ (lstep bs r o i).count true ∧ ((lstep bs r o i).count true = o.count true → lstep bs r o i = o ∧ LEdge bs r o i) ∧ (∀ j : Nat, (lstep bs r o i)[j]? = some true → Lack bs args r j) := by
  unfold lstep
  split
  · rename_i h
    obtain ⟨h0, h1, h2, h3⟩ := lsets_ok (goesOf bs i) o
    refine ⟨h0, h1, fun e => ⟨(h2 e).1, fun _ _ => (h2 e).2⟩, fun j hj => ?_⟩
    rcases h3 j hj with g | ⟨k, hk, rfl⟩
    · exact hs j g
    · exact .next i k (hs i h.1) h.2 hk
  · rename_i h
    exact ⟨rfl, Nat.le_refl _, fun _ => ⟨rfl, fun a b => absurd ⟨a, b⟩ h⟩, hs⟩
theorem lpass_ok (bs : List Blk) (args : Int) (r : Nat) (o : List Bool) (hs : ∀ j : Nat, o[j]? = some true → Lack bs args r j) : ∀ n,
    (lpass bs r o n).length = o.length ∧ o.count true ≤ (lpass bs r o n).count true ∧ ((lpass bs r o n).count true = o.count true → lpass bs r o n = o ∧ ∀ i, i < n → LEdge bs r o i) ∧ (∀ j : Nat, (lpass bs r o n)[j]? = some true → Lack bs args r j)
  | 0 => ⟨rfl, Nat.le_refl _, (fun _ => ⟨rfl, fun i hi => by omega⟩), hs⟩
  | n + 1 => by
    obtain ⟨h0, h1, h2, h3⟩ := lpass_ok bs args r o hs n
    have e : lpass bs r o (n + 1) = lstep bs r (lpass bs r o n) n := by unfold lpass; rw [List.range_succ, List.foldl_append]; rfl
    rw [e]
    obtain ⟨g0, g1, g2, g3⟩ := lstep_ok bs args r (lpass bs r o n) n h3
    refine ⟨g0.trans h0, Nat.le_trans h1 g1, fun e => ?_, g3⟩
    obtain ⟨a1, a2⟩ := h2 (by omega)
    obtain ⟨b1, b2⟩ := g2 (by omega)
    rw [a1] at b1 b2
    rw [a1]
    refine ⟨b1, fun i hi => ?_⟩
    rcases Nat.lt_or_ge i n with h | h
    · exact a2 i h
    · obtain rfl : i = n := by omega
      exact b2
def LStable (bs : List Blk) (r : Nat) (o : List Bool) : Prop := ∀ i, i < bs.length → LEdge bs r o i
theorem lpass_stable {bs : List Blk} {r : Nat} {o : List Bool} : ∀ n, n ≤ bs.length → o.length = bs.length → Flow bs → LStable bs r o → lpass bs r o n = o
  | 0, _, _, _, _ => rfl
  | n + 1, hn, hl, hF, h => by
    have e : lpass bs r o (n + 1) = lstep bs r (lpass bs r o n) n := by unfold lpass; rw [List.range_succ, List.foldl_append]; rfl
    rw [e, lpass_stable n (by omega) hl hF h]
    unfold lstep
    split
    · rename_i hc
      have key : ∀ ks : List Int, (∀ k ∈ ks, o[k.toNat]? = some true) → ks.foldl (fun o k => o.set k.toNat true) o = o := by
        intro ks
        induction ks with
        | nil => intro _; rfl
        | cons k ks ih =>
          intro hk
          rw [List.foldl_cons, set_self (hk k (by simp))]
          exact ih fun j hj => hk j (by simp [hj])
      exact key _ fun k hk => h n (by omega) hc.1 hc.2 k hk (by rw [hl]; exact hF.to n k hk)
    · rfl
theorem lpasses_ok (bs : List Blk) (args : Int) (r : Nat) (hF : Flow bs) (o : List Bool) (hl : o.length = bs.length) (hs : ∀ j : Nat, o[j]? = some true → Lack bs args r j) : ∀ n,
    (lpasses bs r o n).length = o.length ∧ (LStable bs r (lpasses bs r o n) ∨ o.count true + n ≤ (lpasses bs r o n).count true) ∧ (∀ j : Nat, (lpasses bs r o n)[j]? = some true → Lack bs args r j)
  | 0 => ⟨rfl, .inr (Nat.le_refl _), hs⟩
  | n + 1 => by
    obtain ⟨h0, h1, h2⟩ := lpasses_ok bs args r hF o hl hs n
    rw [show lpasses bs r o (n + 1) = lpass bs r (lpasses bs r o n) bs.length from rfl]
    obtain ⟨g0, g1, g2, g3⟩ := lpass_ok bs args r (lpasses bs r o n) h2 bs.length
    refine ⟨g0.trans h0, ?_, g3⟩
    rcases h1 with h | h
    · rw [lpass_stable _ (Nat.le_refl _) (h0.trans hl) hF h]
      exact .inl h
    · by_cases e : (lpass bs r (lpasses bs r o n) bs.length).count true = (lpasses bs r o n).count true
      · obtain ⟨a, b⟩ := g2 e
        rw [a]; exact .inl b
      · exact .inr (by omega)
theorem lacks_iff {bs : List Blk} {args : Int} {r : Nat} (hF : Flow bs) (h0 : 0 < bs.length) (i : Nat) : (lacksL bs args r)[i]? = some true ↔ Lack bs args r i := by
  have hl : (linit bs args r).length = bs.length := by simp [linit]
  have hs : ∀ j : Nat, (linit bs args r)[j]? = some true → Lack bs args r j := by
    intro j hj
    unfold linit at hj
    by_cases e : 0 = j
    · subst e
      rw [List.getElem?_set_self (by simpa using h0)] at hj
      exact .start (by simpa using hj)
    · rw [List.getElem?_set_ne e, List.getElem?_replicate] at hj
      split at hj <;> simp at hj
  obtain ⟨g0, g1, g2⟩ := lpasses_ok bs args r hF _ hl hs bs.length
  constructor
  · exact g2 i
  · intro h
    have hst : args ≤ r → LStable bs r (lacksL bs args r) ∧ (lacksL bs args r)[0]? = some true := by
      intro ha
      have hc : 0 < (linit bs args r).count true := by
        rw [List.count_pos_iff]
        refine List.mem_of_getElem? (i := 0) ?_
        unfold linit
        rw [List.getElem?_set_self (by simpa using h0), decide_eq_true ha]
      have hle : (lpasses bs r (linit bs args r) bs.length).count true ≤ bs.length := by
        have := List.count_le_length (a := true) (l := lpasses bs r (linit bs args r) bs.length)
        rw [g0, hl] at this; exact this
      refine ⟨?_, ?_⟩
      · rcases g1 with h | h
        · exact h
        · omega
      · have key : ∀ n, (lpasses bs r (linit bs args r) n)[0]? = some true := by
          have mono1 : ∀ (ks : List Int) (o : List Bool), o[0]? = some true → (ks.foldl (fun o k => o.set k.toNat true) o)[0]? = some true := by
            intro ks
            induction ks with
            | nil => intro o h; exact h
            | cons k ks ih =>
              intro o h
              refine ih _ ?_
              show (o.set k.toNat true)[0]? = some true
              by_cases e : k.toNat = 0
              · rw [e]; exact List.getElem?_set_self (List.getElem?_eq_some_iff.1 h).1
              · rw [List.getElem?_set_ne e]; exact h
          have mono2 : ∀ (o : List Bool) (n : Nat), o[0]? = some true → (lpass bs r o n)[0]? = some true := by
            intro o n h
            induction n with
            | zero => exact h
            | succ n ih =>
              have e : lpass bs r o (n + 1) = lstep bs r (lpass bs r o n) n := by unfold lpass; rw [List.range_succ, List.foldl_append]; rfl
              rw [e]; unfold lstep
              split
              · exact mono1 _ _ ih
              · exact ih
          intro n
          induction n with
          | zero =>
            show (linit bs args r)[0]? = some true
            unfold linit
            rw [List.getElem?_set_self (by simpa using h0), decide_eq_true ha]
          | succ n ih => exact mono2 _ _ ih
        exact key _
    have ha : args ≤ r := by
      clear g0 g1 g2 hst
      induction h with
      | start ha => exact ha
      | next _ _ _ _ _ ih => exact ih
    obtain ⟨s1, s2⟩ := hst ha
    clear hst
    induction h with
    | start _ => exact s2
    | next i k hl' hw hk ih =>
      have hi := (List.getElem?_eq_some_iff.1 ih).1
      have hlen : (lacksL bs args r).length = bs.length := g0.trans hl
      rw [hlen] at hi
      exact s1 i hi ih hw k hk (by rw [hlen]; exact hF.to i k hk)
end Go.Proofs.Ytdefooailcbnlaa
/- Rows of cells that the call made; a set of registers, cloned. -/
namespace Go.Proofs.Ytdefooailcbnlaa
open Go.RowKit
set_option linter.unusedVariables false
set_option linter.unusedSimpArgs false
/-- Block g begins with the cells vs; none is frozen. -/
def VRow (w : World) (g : Nat) (t : TypeId) (vs : List Value) : Prop :=
  ∃ cur : Array Value, w.heap[g]? = some (.cells cur t (0, 0)) ∧ ∀ (k : Nat) x, vs[k]? = some x → cur[k]? = some x
namespace VRow
variable {w w' : World} {g : Nat} {t : TypeId} {vs : List Value}
theorem cell (h : VRow w g t vs) {k : Nat} {x : Value} (hx : vs[k]? = some x) : w.cell? ⟨g, k, none⟩ = some x := by
  obtain ⟨cur, hb, hc⟩ := h
  simp [World.cell?, hb, hc k x hx]
theorem frozen (h : VRow w g t vs) (k : Nat) : w.frozen? ⟨g, k, none⟩ = false := by
  obtain ⟨cur, hb, _⟩ := h
  simp [World.frozen?, hb]
theorem lt (h : VRow w g t vs) : g < w.heap.size := by
  obtain ⟨cur, hb, _⟩ := h
  exact (Array.getElem?_eq_some_iff.1 hb).1
theorem of_block (h : VRow w g t vs) (e : w'.heap[g]? = w.heap[g]?) : VRow w' g t vs := by
  obtain ⟨cur, hb, hc⟩ := h
  exact ⟨cur, e.trans hb, hc⟩
theorem keep {B : Nat} (h : VRow w g t vs) (hb : Below B w w') (hg : g < B) : VRow w' g t vs := h.of_block (hb.block g hg)
theorem below (h : VRow w g t vs) (hb : Below w.heap.size w w') : VRow w' g t vs := h.keep hb h.lt
theorem set (h : VRow w g t vs) {k : Nat} (hk : k < vs.length) (v : Value) : VRow (w.setCell ⟨g, k, none⟩ v) g t (vs.set k v) := by
  obtain ⟨cur, hb, hc⟩ := h
  have hk' : k < cur.size := by
    have := hc k _ (List.getElem?_eq_getElem hk)
    exact (Array.getElem?_eq_some_iff.1 this).1
  refine ⟨cur.setIfInBounds k v, ?_, fun j x hx => ?_⟩
  · simp [World.setCell, Array.getElem?_modify, hb]
  · rw [Array.getElem?_setIfInBounds]
    by_cases e : k = j
    · subst e
      rw [List.getElem?_set_self hk] at hx
      simp [hk', hx]
    · rw [if_neg e]
      rw [List.getElem?_set_ne e] at hx
      exact hc j x hx
theorem other (h : VRow w g t vs) {a : Addr} (ha : g ≠ a.block) (v : Value) : VRow (w.setCell a v) g t vs := h.of_block (Below.heap_setCell _ _ _ _ ha)
theorem alloc (h : VRow w g t vs) (o : Obj) : VRow (w.alloc o) g t vs := h.of_block (Below.heap_alloc _ _ _ h.lt)
theorem of_own {base n : Nat} {v : Value} {xs : List Value} (h : w.ownsRow base t 1 v n xs) (hv : v ≠ .slice none 0 0) : ∃ g c, v = .slice (some ⟨g, 0, none⟩) n c ∧ base ≤ g ∧ VRow w g t xs := by
  rcases h.2 with ⟨rfl, _⟩ | ⟨g, cap, cur, rfl, h2, h3, h4, h5, h6, h7⟩
  · exact absurd rfl hv
  · refine ⟨g, cap, rfl, h2, cur, h3, fun k x hx => ?_⟩
    rw [← h7] at hx
    rw [List.getElem?_take] at hx
    split at hx
    · rw [← Array.getElem?_toList]; exact hx
    · cases hx
end VRow
def bools (l : List Bool) : List Value := l.map .bool
theorem bools_length (l : List Bool) : (bools l).length = l.length := by simp [bools]
theorem bools_get {l : List Bool} {k : Nat} {x : Bool} (h : l[k]? = some x) : (bools l)[k]? = some (.bool x) := by simp [bools, h]
theorem bools_set (l : List Bool) (k : Nat) (x : Bool) : (bools l).set k (.bool x) = bools (l.set k x) := by unfold bools; rw [List.map_set]
theorem bools_one (l : List Bool) : ∀ u ∈ bools l, u.oneCell' = true := by
  intro u hu
  obtain ⟨x, _, rfl⟩ := List.mem_map.1 hu
  simp [Value.oneCell']
/-- A set: it lies in block g, and is as long as l. -/
def SetAt (w : World) (g : Nat) (v : Value) (l : List Bool) : Prop := (∃ c, v = .slice (some ⟨g, 0, none⟩) l.length c) ∧ VRow w g 4 (bools l)
theorem SetAt.below {w w' : World} {g : Nat} {v : Value} {l : List Bool} (h : SetAt w g v l) (hb : Below w.heap.size w w') : SetAt w' g v l := ⟨h.1, h.2.below hb⟩
theorem SetAt.lt {w : World} {g : Nat} {v : Value} {l : List Bool} (h : SetAt w g v l) : g < w.heap.size := h.2.lt
theorem SetAt.cell {w : World} {g : Nat} {v : Value} {l : List Bool} (h : SetAt w g v l) {k : Nat} {x : Bool} (hx : l[k]? = some x) : w.cell? ⟨g, k, none⟩ = some (.bool x) := h.2.cell (bools_get hx)
theorem infobool : (Try.prog.info? 4).map (fun i => (i.zero, i.size, i.bytes)) = some (some (.bool false), 1, 1) := by kernel_rfl
set_option maxHeartbeats 1000000 in
theorem sclone_any (w : World) (v : Value) (g0 : Nat) (l : List Bool) (hl : l.length ≤ 4096) (h : SetAt w g0 v l) :
    Calls Try.prog 65 #[v] w fun e w' => ∃ v' g, e = .returned v' ∧ w.heap.size ≤ g ∧ SetAt w' g v' l ∧ Below w.heap.size w w' := by
  obtain ⟨i0, hi, hz0, hz1, hz2⟩ := info_parts infobool
  obtain ⟨⟨c, rfl⟩, hr⟩ := h
  have q22 : ∀ (w : World) (a : Option Addr) (n c n' c' : Nat), (binOp .eql 98 (.slice a n c) (.slice none n' c')).run Try.prog w = .ok (.bool a.isNone) w := fun w a n c n' c' => Lib.run_eql_slice_nil w _ _ a n c n' c' Try.underlying98
  have HCl := shid (show ∀ (j : Nat) u, (bools l)[j]? = some u → w.cell? ((⟨g0, 0, none⟩ : Addr).add j) = some u from by
    intro j u hu
    have := hr.cell hu
    have e : (⟨g0, 0, none⟩ : Addr).add j = ⟨g0, j, none⟩ := by unfold Addr.add; split <;> simp [*]
    rw [e]; exact this)
  clear hr
  go_enter Try.func65, Try.ntmps65
  go_wp2_with (at_builtin; refine wpList_append_own _ rfl _ _ 98 rfl w.heap.size 4 i0 _ 1 1 Try.underlying98 hi hz0 hz1 hz2 rfl (by decide) (.slice (some ⟨w.heap.size, 0, none⟩) 0 0) _ _ rfl (World.ownsRow_made w #[] 0 (Nat.le_refl _) (Nat.zero_le _) (by simp)) ⟨g0, 0, none⟩ l.length c (bools l) rfl (by simp [bools]) (fun j u hj => by rw [World.cell?_alloc_lt]; exact HCl.out j u hj; exact World.block_lt_of_cell? _ _ (HCl.out j u hj)) (bools_one l) (by unfold maxLen; omega) (by omega) (by simp) ?_; intro v' w1 hown hgrow hnil; rw [Nat.zero_add, List.nil_append] at hown)
  have HN := shid (show v' ≠ .slice none 0 0 from fun h => by have := (hnil.1 h).1; cases this)
  clear hnil
  go_wp2
  go_ret
  obtain ⟨g, cap, rfl, hg, hv⟩ := VRow.of_own hown HN.out
  exact ⟨_, g, rfl, hg, ⟨⟨cap, rfl⟩, hv⟩, ((Below.refl _ w).alloc (Nat.le_refl _) _).grown hgrow (by simp) (by intro k hk; simp [Value.ownBlock] at hk; omega)⟩
end Go.Proofs.Ytdefooailcbnlaa
/- The walk of shape.through. -/
namespace Go.Proofs.Ytdefooailcbnlaa
open Go.RowKit
set_option linter.unusedVariables false
set_option linter.unusedSimpArgs false
/-- Whether a register that is read is there. -/
def hasR (s : List Bool) (r : Int) : Bool := s[r.toNat]?.getD false
/-- Whether all that the j-th instruction reads is there. -/
def fineAt (l : List Insx) (s : List Bool) (j : Nat) : Bool :=
  match l[j]? with
  | some x => (readsS x).all (hasR (thru (l.take j) s))
  | none => true
def fineL (l : List Insx) (s : List Bool) (n : Nat) : Bool := (List.range n).all (fineAt l s)
theorem fineL_succ {l : List Insx} {s : List Bool} {n : Nat} {x : Insx} (h : l[n]? = some x) : fineL l s (n + 1) = (fineL l s n && (readsS x).all (hasR (thru (l.take n) s))) := by
  unfold fineL
  rw [List.range_succ, List.all_append]
  simp [fineAt, h]
theorem thru_succ {l : List Insx} {s : List Bool} {n : Nat} {x : Insx} (h : l[n]? = some x) : thru (l.take (n + 1)) s = wr1 (thru (l.take n) s) x := by
  rw [stake_get h]; simp [thru]
/-- What instructions name is below R, and not below 0. -/
def NamesOk (R : Nat) (l : List Insx) : Prop := ∀ x ∈ l, (∀ r ∈ readsS x, 0 ≤ r ∧ r < R) ∧ (writesB x = true → 0 ≤ x.d ∧ x.d < R)
set_option maxRecDepth 100000 in
set_option maxHeartbeats 4000000 in
theorem through_any (nm : ByteArray) (l : List Insx) (pi : Option Addr) (ci : Nat) (s : List Bool) (hsl : s.length ≤ 4096) (hN : NamesOk s.length l) (av : Value) (ga : Nat) (w : World) (hI : InsxIn w (.slice pi l.length ci) l) (hA : SetAt w ga av s) :
    Calls Try.prog 37 #[.agg #[.string nm, .slice pi l.length ci], av] w fun e w' => ∃ v g, e = .returned (.tuple #[v, .bool (fineL l s l.length)]) ∧ w.heap.size ≤ g ∧ SetAt w' g v (thru l s) ∧ Below w.heap.size w w' := by
  have hil := hI.1
  have HIB := shid hI.bds
  have HAL := shid hI.argLen
  obtain ⟨_, _, ib, io, hie, _, HIS⟩ := hI.hids
  cases hie
  have HPI := shid HIS.out.1
  have HKI := shid (fun (W : World) (hb : Below w.heap.size w W) (j : Nat) (y : Insx) (hy : l[j]? = some y) => (HIS.out.2 j y hy).keep hb)
  have HBK := shid (BBox.new w nm (.slice pi l.length ci) 46)
  have HW0 := shid (al1 w (.cells #[.string nm, .slice pi l.length ci] 46))
  have HCL := shid (sclone_any _ av ga s hsl (hA.below HW0.out))
  have HNO := shid hN
  obtain ⟨⟨ca, rfl⟩, _⟩ := hA
  clear hI HIS hN
  go_enter Try.func37, Try.ntmps37
  go_wp2_with fail
  refine HCL.out.mono ?_
  rintro e W1 ⟨v1, g, rfl, hg, ⟨⟨c1, rfl⟩, hr⟩, hb1⟩
  have HR0 := shid hr
  have HB1 := shid hb1
  have HG := shid (show w.heap.size < g by simp at hg; omega)
  have HBK1 := shid (HBK.out.keep hb1)
  have HW1 := shid (sbt HW0.out hb1)
  clear hg hr hb1 HCL HBK
  obtain ⟨_, k0, k1⟩ := HBK1.out
  generalize w.alloc (.cells #[.string nm, .slice pi l.length ci] 46) = W0 at *
  go_wp2_with fail
  clear k0 k1
  go_loopw [7, 19] (fun fv i wr => ∃ k : Nat, k ≤ l.length ∧ i = .int .i64 k ∧ fv = .bool (fineL l s k) ∧ VRow wr g 4 (bools (thru (l.take k) s)) ∧ Below w.heap.size w wr ∧ g < wr.heap.size) (fun _ i _ => l.length - (intOf i).toNat)
  case atStart => exact ⟨0, Nat.zero_le _, rfl, rfl, HR0.out, HW1.out, HR0.out.lt⟩
  case round =>
    obtain ⟨k, hk, rfl, rfl, hv, hbw, hgl⟩ := hrel
    have HV := shid hv
    have HBW := shid hbw
    clear hv hbw
    by_cases hlt : k < l.length
    · obtain rfl := HPI.out (by omega)
      have HY := shid (List.getElem?_eq_getElem hlt)
      have HYM := shid (List.getElem_mem hlt)
      generalize l[k] = y at HY HYM
      obtain ⟨d0, d1, d2, d3, d4, d5, ⟨va, d6, hva⟩, d7, d8, hybd⟩ := HKI.out _ HBW.out k y HY.out
      have HYB := shid hybd
      obtain ⟨pa, ca2, rfl⟩ := hva.shape
      have HVA := shid hva
      have HAY := shid (HAL.out y HYM.out)
      have HNY := shid (HNO.out y HYM.out)
      have HF1 := shid (fineL_succ (s := s) HY.out)
      have HT1 := shid (thru_succ (s := s) HY.out)
      have HTL := shid (show (thru (l.take k) s).length = s.length from thru_length _ _)
      generalize thru (l.take k) s = s1 at HV HF1 HT1 HTL
      generalize fineL l s k = f1 at HF1 ⊢
      clear hybd hva
      have h2 : (k : Int) < l.length := by omega
      have HBX := shid (IBox.new wr y (.slice pa y.args.length ca2) 44)
      have HW2 := shid (al1 wr (.cells #[.int .u8 y.op, .int .i64 y.d, .int .i64 y.a, .int .i64 y.b, .int .u32 y.n, .int .i64 y.f, .slice pa y.args.length ca2, .int .i64 y.l1, .int .i64 y.l2] 44))
      have HV2 := shid (HV.out.below HW2.out)
      go_wp2_with fail
      generalize wr.alloc (.cells #[.int .u8 y.op, .int .i64 y.d, .int .i64 y.a, .int .i64 y.b, .int .u32 y.n, .int .i64 y.f, .slice pa y.args.length ca2, .int .i64 y.l1, .int .i64 y.l2] 44) = W2 at *
      refine (reads_any y HYB.out pa y.args.length ca2 W2 (IntsIn.keep HVA.out HW2.out)).mono ?_
      rintro e W3 ⟨v3, rfl, ho3, hb3⟩
      have HO3 := shid ho3
      have HB3 := shid hb3
      have HBX3 := shid (HBX.out.keep hb3)
      have HV3 := shid (HV2.out.below hb3)
      obtain ⟨p3, c3, rfl, hs3⟩ := own_shape ho3
      obtain ⟨g3, hp3, hc3⟩ := own_cells ho3 rfl
      have HP3 := shid hp3
      have HC3 := shid hc3
      have hlr := readsS_len HAY.out
      clear ho3 hb3 hs3 d0 d1 d2 d3 d4 d5 d6 d7 d8 HBX hp3 hc3
      obtain ⟨_, x0, x1, x2, x3, x4, x5, x6, x7, x8⟩ := HBX3.out
      go_wp2_with fail
      clear x0 x1 x2 x3 x4 x5 x6 x7 x8
      go_loop [7, 26] (fun fv i => ∃ q : Nat, q ≤ (readsS y).length ∧ i = .int .i64 q ∧ fv = .bool (f1 && ((readsS y).take q).all (hasR s1))) (fun _ i => (readsS y).length - (intOf i).toNat)
      case atStart => exact ⟨0, Nat.zero_le _, rfl, by simp⟩
      case round =>
        obtain ⟨q, hq, rfl, rfl⟩ := hrel
        by_cases hltq : q < (readsS y).length
        · obtain rfl := HP3.out (by omega)
          have HZ := shid (List.getElem?_eq_getElem hltq)
          have HZM := shid (HNY.out.1 _ (List.getElem_mem hltq))
          generalize (readsS y)[q] = z at HZ HZM
          have e0 := HC3.out q z HZ.out
          obtain ⟨zn, rfl⟩ := Int.eq_ofNat_of_zero_le HZM.out.1
          have hz1 : (zn : Int) < s.length := HZM.out.2
          have HZL := shid (show zn < s1.length by rw [HTL.out]; omega)
          have e1 := HV3.out.cell (bools_get (List.getElem?_eq_getElem HZL.out))
          have HG3 := shid (show (f1 && ((readsS y).take (q + 1)).all (hasR s1)) = ((f1 && ((readsS y).take q).all (hasR s1)) && s1[zn]'HZL.out) by
            rw [stake_get HZ.out, List.all_append]
            simp [hasR, List.getElem?_eq_getElem HZL.out, Bool.and_assoc])
          generalize s1[zn]'HZL.out = sb at e1 HG3
          generalize (f1 && ((readsS y).take q).all (hasR s1)) = f2 at HG3 ⊢
          have h3 : (q : Int) < (readsS y).length := by omega
          cases f2
          all_goals
            go_wp2_with fail
            go_round
            case rel => exact ⟨q + 1, by omega, by go_num, by rw [HG3.out]; rfl⟩
            case measure => simp [intOf]; omega
        · have HG3 := shid (show (f1 && ((readsS y).take q).all (hasR s1)) = fineL l s (k + 1) by rw [HF1.out, List.take_of_length_le (by omega)])
          rw [HG3.out]
          obtain ⟨_, x0, x1, x2, x3, x4, x5, x6, x7, x8⟩ := HBX3.out
          go_wp2_with fail
          clear x0 x1 x2 x3 x4 x5 x6 x7 x8
          refine (writes_any y HYB.out pa y.args.length ca2 W3).mono ?_
          rintro e W4 ⟨rfl, hb4⟩
          have HB4 := shid (sbt HBW.out (sbt HW2.out (sbt HB3.out hb4)))
          have HV4 := shid (HV3.out.below hb4)
          have HGL := shid (show g < W4.heap.size from HV4.out.lt)
          clear hb4
          cases hwb : writesB y
          case false =>
            have HT2 := shid (show thru (l.take (k + 1)) s = s1 by rw [HT1.out]; unfold wr1; rw [if_neg (by rw [hwb]; simp)])
            clear hwb
            go_wp2_with fail
            go_roundw
            case rel => exact ⟨k + 1, by omega, by go_num, rfl, by rw [HT2.out]; exact HV4.out, HB4.out, HGL.out⟩
            case measure => simp [intOf]; omega
          case true =>
            have HD := shid (HNY.out.2 hwb)
            have HT2 := shid (show thru (l.take (k + 1)) s = s1.set y.d.toNat true by rw [HT1.out]; unfold wr1; rw [if_pos hwb])
            have HWD := shid (show writesD y = y.d from if_pos hwb)
            clear hwb
            rw [HWD.out]
            obtain ⟨dn, hdn⟩ := Int.eq_ofNat_of_zero_le HD.out.1
            have HDN := shid hdn
            rw [hdn]
            clear hdn
            have h3 : (dn : Int) < s.length := by rw [← HDN.out]; exact HD.out.2
            have HDL := shid (show dn < s1.length by rw [HTL.out]; omega)
            have f0 := HV4.out.frozen dn
            have e0 := HV4.out.cell (bools_get (List.getElem?_eq_getElem HDL.out))
            have HV5 := shid (show VRow (W4.setCell ⟨g, dn, none⟩ (.bool true)) g 4 (bools (thru (l.take (k + 1)) s)) by
              have h := HV4.out.set (k := dn) (by rw [bools_length]; exact HDL.out) (.bool true)
              rw [bools_set] at h
              rw [HT2.out, HDN.out]; exact h)
            have HB5 := shid (show Below w.heap.size w (W4.setCell ⟨g, dn, none⟩ (.bool true)) from HB4.out.setCell (Nat.le_of_lt HG.out) _)
            generalize s1[dn]'HDL.out = sb at e0
            go_wp2_with fail
            go_roundw
            case rel => exact ⟨k + 1, by omega, by go_num, rfl, HV5.out, HB5.out, HV5.out.lt⟩
            case measure => simp [intOf]; omega
    · have HT2 := shid (show thru (l.take k) s = thru l s by rw [List.take_of_length_le (by omega)])
      have HK := shid (show fineL l s k = fineL l s l.length by rw [show k = l.length by omega])
      rw [HK.out]
      go_wp2_with fail
      go_ret2
      exact ⟨.slice (some ⟨g, 0, none⟩) s.length c1, g, rfl, Nat.le_of_lt HG.out, ⟨⟨c1, by rw [thru_length]⟩, by rw [← HT2.out]; exact HV.out⟩, HBW.out⟩
end Go.Proofs.Ytdefooailcbnlaa
/- The sets of all blocks, as they lie in the world; the walk of shape.meet. -/
namespace Go.Proofs.Ytdefooailcbnlaa
open Go.RowKit
set_option linter.unusedVariables false
set_option linter.unusedSimpArgs false
/-- The sets S lie in the slice whose cells vs are those of block Bo; set i lies in block gs i; all of these blocks are from B on, and of O. -/
structure SetsAt (w : World) (B Bo : Nat) (vs : List Value) (S : Sets) (R : Nat) (gs : Nat → Nat) (O : Nat → Prop) : Prop where
  len : vs.length = S.length
  row : VRow w Bo 98 vs
  base : B ≤ Bo ∧ O Bo
  nil : ∀ i : Nat, S[i]? = some none → vs[i]? = some (Value.slice none 0 0)
  set : ∀ (i : Nat) (l : List Bool), S[i]? = some (some l) → l.length = R ∧ (∃ c, vs[i]? = some (Value.slice (some ⟨gs i, 0, none⟩) R c)) ∧ VRow w (gs i) 4 (bools l) ∧ B ≤ gs i ∧ gs i ≠ Bo ∧ O (gs i)
  apart : ∀ (i j : Nat) (l m : List Bool), i ≠ j → S[i]? = some (some l) → S[j]? = some (some m) → gs i ≠ gs j
namespace SetsAt
variable {w w' : World} {B Bo R : Nat} {vs : List Value} {S : Sets} {gs : Nat → Nat} {O O' : Nat → Prop}
theorem below (h : SetsAt w B Bo vs S R gs O) (hb : Below w.heap.size w w') : SetsAt w' B Bo vs S R gs O :=
  ⟨h.len, h.row.below hb, h.base, h.nil, fun i l hl => by
    obtain ⟨a, b, c, d⟩ := h.set i l hl
    exact ⟨a, b, c.below hb, d⟩, h.apart⟩
theorem wide (h : SetsAt w B Bo vs S R gs O) (ho : ∀ x, O x → O' x) : SetsAt w B Bo vs S R gs O' :=
  ⟨h.len, h.row, ⟨h.base.1, ho _ h.base.2⟩, h.nil, fun i l hl => by
    obtain ⟨a, b, c, d, e, f⟩ := h.set i l hl
    exact ⟨a, b, c, d, e, ho _ f⟩, h.apart⟩
/-- Only what is there. -/
theorem tight (h : SetsAt w B Bo vs S R gs O) : SetsAt w B Bo vs S R gs (fun x => B ≤ x ∧ x < w.heap.size) :=
  ⟨h.len, h.row, ⟨h.base.1, h.base.1, h.row.lt⟩, h.nil, fun i l hl => by
    obtain ⟨a, b, c, d, e, f⟩ := h.set i l hl
    exact ⟨a, b, c, d, e, d, c.lt⟩, h.apart⟩
theorem own (h : SetsAt w B Bo vs S R gs O) : SetsAt w B Bo vs S R gs (fun x => x = Bo ∨ ∃ (i : Nat) (l : List Bool), S[i]? = some (some l) ∧ gs i = x) :=
  ⟨h.len, h.row, ⟨h.base.1, .inl rfl⟩, h.nil, fun i l hl => by
    obtain ⟨a, b, c, d, e, f⟩ := h.set i l hl
    exact ⟨a, b, c, d, e, .inr ⟨i, l, hl, rfl⟩⟩, h.apart⟩
theorem own_lt (h : SetsAt w B Bo vs S R gs O) {x : Nat} (hx : x = Bo ∨ ∃ (i : Nat) (l : List Bool), S[i]? = some (some l) ∧ gs i = x) : B ≤ x ∧ x < w.heap.size := by
  rcases hx with rfl | ⟨i, l, hl, rfl⟩
  · exact ⟨h.base.1, h.row.lt⟩
  · obtain ⟨a, b, c, d, e, f⟩ := h.set i l hl
    exact ⟨d, c.lt⟩
/-- A new set takes place k. -/
theorem put (h : SetsAt w B Bo vs S R gs O) {k : Nat} (hk : k < S.length) {g : Nat} {v : Value} {b : List Bool} (hv : SetAt w g v b) (hbl : b.length = R) (hg : B ≤ g) (hn : g ≠ Bo) (hne : ∀ (i : Nat) (l : List Bool), S[i]? = some (some l) → gs i ≠ g) (hO : O g) :
    SetsAt (w.setCell ⟨Bo, k, none⟩ v) B Bo (vs.set k v) (S.set k (some b)) R (fun j => if j = k then g else gs j) O := by
  refine ⟨by simp [h.len], h.row.set (by rw [h.len]; exact hk) v, h.base, fun i hi => ?_, fun i l hl => ?_, fun i j l m hij hl hm => ?_⟩
  · by_cases e : k = i
    · subst e; rw [List.getElem?_set_self hk] at hi; cases hi
    · rw [List.getElem?_set_ne e] at hi ⊢; exact h.nil i hi
  · by_cases e : k = i
    · subst e
      rw [List.getElem?_set_self hk] at hl
      cases hl
      obtain ⟨⟨c, rfl⟩, hr⟩ := hv
      refine ⟨hbl, ⟨c, ?_⟩, ?_, ?_, ?_, ?_⟩
      · rw [List.getElem?_set_self (by rw [h.len]; exact hk)]; simp [hbl]
      all_goals simp only [if_true]
      · exact hr.other hn _
      · exact hg
      · exact hn
      · exact hO
    · rw [List.getElem?_set_ne e] at hl
      obtain ⟨a, ⟨c, hc⟩, b', d, e', f⟩ := h.set i l hl
      have e2 : ¬ i = k := fun h => e h.symm
      refine ⟨a, ⟨c, ?_⟩, ?_, ?_, ?_, ?_⟩
      · rw [List.getElem?_set_ne e]; simp only [if_neg e2]; exact hc
      all_goals simp only [if_neg e2]
      · exact b'.other e' _
      · exact d
      · exact e'
      · exact f
  · by_cases e : k = i
    · subst e
      have e2 : ¬ j = k := fun h => hij h.symm
      rw [List.getElem?_set_ne hij] at hm
      simp only [if_true, if_neg e2]
      exact fun e => hne j m hm e.symm
    · rw [List.getElem?_set_ne e] at hl
      have e2 : ¬ i = k := fun h => e h.symm
      by_cases e3 : k = j
      · subst e3
        simp only [if_neg e2, if_true]
        exact hne i l hl
      · rw [List.getElem?_set_ne e3] at hm
        simp only [if_neg e2, if_neg (fun h : j = k => e3 h.symm)]
        exact h.apart i j l m hij hl hm
/-- Set k loses a register. -/
theorem lose (h : SetsAt w B Bo vs S R gs O) {k r : Nat} {l : List Bool} (hl : S[k]? = some (some l)) (hr : r < R) (x : Bool) :
    SetsAt (w.setCell ⟨gs k, r, none⟩ (.bool x)) B Bo vs (S.set k (some (l.set r x))) R gs O := by
  have hk : k < S.length := (List.getElem?_eq_some_iff.1 hl).1
  obtain ⟨hlen, hc, hrow, hB, hne, hO⟩ := h.set k l hl
  refine ⟨by simp [h.len], h.row.other (fun e => hne e.symm) _, h.base, fun i hi => ?_, fun i m hm => ?_, fun i j m m' hij hm hm' => ?_⟩
  · by_cases e : k = i
    · subst e; rw [List.getElem?_set_self hk] at hi; cases hi
    · rw [List.getElem?_set_ne e] at hi; exact h.nil i hi
  · by_cases e : k = i
    · subst e
      rw [List.getElem?_set_self hk] at hm
      cases hm
      refine ⟨by simpa using hlen, hc, ?_, hB, hne, hO⟩
      have := hrow.set (k := r) (by rw [bools_length]; omega) (.bool x)
      rw [bools_set] at this
      exact this
    · rw [List.getElem?_set_ne e] at hm
      obtain ⟨a1, a2, a3, a4, a5, a6⟩ := h.set i m hm
      exact ⟨a1, a2, a3.other (h.apart i k m l (fun e' => e e'.symm) hm hl) _, a4, a5, a6⟩
  · have hh : ∀ (i : Nat) (m : List Bool), (S.set k (some (l.set r x)))[i]? = some (some m) → ∃ m', S[i]? = some (some m') := by
      intro i m hm
      by_cases e : k = i
      · subst e; exact ⟨l, hl⟩
      · rw [List.getElem?_set_ne e] at hm; exact ⟨m, hm⟩
    obtain ⟨a, ha⟩ := hh i m hm
    obtain ⟨b, hb⟩ := hh j m' hm'
    exact h.apart i j a b hij ha hb
theorem congr {S' : Sets} (h : SetsAt w B Bo vs S R gs O) (e : S = S') : SetsAt w B Bo vs S' R gs O := e ▸ h
end SetsAt
def partL (l b : List Bool) (r : Nat) : List Bool := andL (l.take r) (b.take r) ++ l.drop r
theorem partL_get (l b : List Bool) (r j : Nat) (h : l.length = b.length) (hr : r ≤ l.length) : (partL l b r)[j]? = if j < r then (andL l b)[j]? else l[j]? := by
  unfold partL
  have hlen : (andL (l.take r) (b.take r)).length = r := by rw [andL_length _ _ (by simp; omega)]; simp; omega
  split
  · rename_i hj
    rw [List.getElem?_append_left (by omega)]
    unfold andL
    rw [List.getElem?_zipWith, List.getElem?_zipWith, List.getElem?_take_of_lt hj, List.getElem?_take_of_lt hj]
  · rename_i hj
    rw [List.getElem?_append_right (by omega), hlen, List.getElem?_drop]
    congr 1; omega
theorem partL_length (l b : List Bool) (r : Nat) (h : l.length = b.length) (hr : r ≤ l.length) : (partL l b r).length = l.length := by
  unfold partL
  rw [List.length_append, andL_length _ _ (by simp; omega)]
  simp; omega
theorem partL_succ (l b : List Bool) (r : Nat) (x y : Bool) (h : l.length = b.length) (hx : l[r]? = some x) (hy : b[r]? = some y) : partL l b (r + 1) = (partL l b r).set r (x && y) := by
  have hr : r < l.length := (List.getElem?_eq_some_iff.1 hx).1
  apply List.ext_getElem?
  intro j
  rw [partL_get _ _ _ _ h (by omega)]
  by_cases e : r = j
  · subst e
    rw [if_pos (by omega), List.getElem?_set_self (by rw [partL_length _ _ _ h (by omega)]; exact hr)]
    unfold andL
    rw [List.getElem?_zipWith, hx, hy]
  · rw [List.getElem?_set_ne e, partL_get _ _ _ _ h (by omega)]
    by_cases hj : j < r
    · rw [if_pos (by omega), if_pos hj]
    · rw [if_neg (by omega), if_neg hj]
theorem partL_keep (l b : List Bool) (r : Nat) (x y : Bool) (h : l.length = b.length) (hx : l[r]? = some x) (hy : b[r]? = some y) (hxy : (x && y) = x) : partL l b (r + 1) = partL l b r := by
  rw [partL_succ l b r x y h hx hy, hxy]
  have hr : r < l.length := (List.getElem?_eq_some_iff.1 hx).1
  apply set_self
  rw [partL_get _ _ _ _ h (by omega), if_neg (by omega)]
  exact hx
theorem lostL_succ (l b : List Bool) (r : Nat) (x y : Bool) (hx : l[r]? = some x) (hy : b[r]? = some y) : lostL (l.take (r + 1)) (b.take (r + 1)) = (lostL (l.take r) (b.take r) || (x && !y)) := by
  unfold lostL
  rw [stake_get hx, stake_get hy, List.zipWith_append (by
    have h1 := (List.getElem?_eq_some_iff.1 hx).1
    have h2 := (List.getElem?_eq_some_iff.1 hy).1
    simp; omega)]
  simp
theorem partL_full (l b : List Bool) (h : l.length = b.length) : partL l b l.length = andL l b := by
  unfold partL
  rw [List.take_of_length_le (Nat.le_refl _), List.take_of_length_le (by omega), List.drop_of_length_le (Nat.le_refl _), List.append_nil]
set_option maxRecDepth 100000 in
set_option maxHeartbeats 4000000 in
theorem meet_any (B Bo R : Nat) (vs : List Value) (S : Sets) (gs : Nat → Nat) (O : Nat → Prop) (c k : Nat) (b : List Bool) (bv : Value) (gb : Nat) (w : World) (hS : SetsAt w B Bo vs S R gs O) (hk : k < S.length) (hb : SetAt w gb bv b) (hbl : b.length = R) (hR : R ≤ 4096) (hgb : ¬ O gb) (hB : B ≤ w.heap.size) (hO : ∀ x, w.heap.size ≤ x → O x) :
    Calls Try.prog 64 #[.slice (some ⟨Bo, 0, none⟩) S.length c, .int .i64 k, bv] w fun e w' => e = .returned (.bool (meetS S k b).2) ∧ ∃ vs' gs', SetsAt w' B Bo vs' (meetS S k b).1 R gs' O ∧ Only O w w' := by
  have q22 : ∀ (w : World) (a : Option Addr) (n c n' c' : Nat), (binOp .eql 98 (.slice a n c) (.slice none n' c')).run Try.prog w = .ok (.bool a.isNone) w := fun w a n c n' c' => Lib.run_eql_slice_nil w _ _ a n c n' c' Try.underlying98
  have HM := shid (show meetS S k b = match S[k]? with | some (some l) => (S.set k (some (andL l b)), lostL l b) | _ => (S.set k (some b), true) from rfl)
  have hkI : (k : Int) < S.length := by omega
  have hBo := hS.row.lt
  obtain ⟨o, ho⟩ : ∃ o, S[k]? = some o := ⟨_, List.getElem?_eq_getElem hk⟩
  have HSS := shid hS
  have HBB := shid hb
  have HO := shid hO
  have HGB := shid hgb
  have HBL := shid hbl
  have hbR : b.length ≤ 4096 := by omega
  clear hbl
  cases o with
  | none =>
    have HR1 := shid (show (meetS S k b).1 = S.set k (some b) by rw [HM.out, ho])
    have HR2 := shid (show (meetS S k b).2 = true by rw [HM.out, ho])
    have c0 := hS.row.cell (hS.nil k ho)
    have HHO := shid ho
    have HCL := shid (sclone_any w bv gb b hbR hb)
    obtain ⟨⟨cb, rfl⟩, _⟩ := hb
    clear HM ho hS hO
    go_enter Try.func64, Try.ntmps64
    go_wp2_with fail
    refine HCL.out.mono ?_
    rintro e w1 ⟨v1, g, rfl, hg, hv, hb1⟩
    have HG := shid hg
    have HV := shid hv
    have HB1 := shid hb1
    have HS1 := shid (HSS.out.below hb1)
    obtain ⟨⟨c1, rfl⟩, _⟩ := hv
    have e0 := HS1.out.row.cell (HS1.out.nil k HHO.out)
    have f0 := HS1.out.row.frozen k
    clear hg hb1 c0 HCL
    go_wp2_with fail
    go_ret
    have hne : g ≠ Bo := by have := HG.out; omega
    have hfr : ∀ (i : Nat) (l : List Bool), S[i]? = some (some l) → gs i ≠ g := fun i l hl e => by
      have h1 := (HSS.out.set i l hl).2.2.1.lt
      have := HG.out
      omega
    have hfin := HS1.out.put (k := k) hk HV.out HBL.out (Nat.le_trans hB HG.out) hne hfr (HO.out g HG.out)
    refine ⟨by rw [HR2.out]; rfl, _, _, hfin.congr HR1.out.symm, (Only.of_below HB1.out).setCell HSS.out.base.2 _⟩
  | some l =>
    have hl := hS.set k l ho
    have HR1 := shid (show (meetS S k b).1 = S.set k (some (andL l b)) by rw [HM.out, ho])
    have HR2 := shid (show (meetS S k b).2 = lostL l b by rw [HM.out, ho])
    have HLL := shid (show l.length = R from hl.1)
    have HHO := shid ho
    obtain ⟨ck, hck⟩ := hl.2.1
    have HCK := shid hck
    have HNB := shid (show gs k ≠ gb from fun e => hgb (e ▸ hl.2.2.2.2.2))
    have HOK := shid (show O (gs k) from hl.2.2.2.2.2)
    have c0 := hS.row.cell hck
    have hnb : Bo ≠ gs k := fun e => hl.2.2.2.2.1 e.symm
    have HNBO := shid hnb
    obtain ⟨⟨cb, rfl⟩, _⟩ := hb
    clear HM ho hS hO hl hck hnb
    go_enter Try.func64, Try.ntmps64
    go_wp2_with fail
    clear c0
    go_loopw [7, 24] (fun lv i wr => ∃ r : Nat, r ≤ R ∧ i = .int .i64 r ∧ lv = .bool (lostL (l.take r) (b.take r)) ∧ SetsAt wr B Bo vs (S.set k (some (partL l b r))) R gs O ∧ VRow wr gb 4 (bools b) ∧ Only O w wr) (fun _ i _ => R - (intOf i).toNat)
    case atStart => exact ⟨0, Nat.zero_le _, rfl, by simp [lostL], HSS.out.congr (by rw [show partL l b 0 = l by simp [partL, andL]]; exact (set_self HHO.out).symm), HBB.out.2, Only.refl _ _⟩
    case round =>
      obtain ⟨r, hr, rfl, rfl, hs1, hv1, ho1⟩ := hrel
      have HS1 := shid hs1
      have HV1 := shid hv1
      have HO1 := shid ho1
      clear hs1 hv1 ho1
      by_cases hlt : r < R
      · have HX := shid (show l[r]? = some _ from List.getElem?_eq_getElem (by rw [HLL.out]; exact hlt))
        have HY := shid (show b[r]? = some _ from List.getElem?_eq_getElem (by rw [HBL.out]; exact hlt))
        generalize l[r]'(by rw [HLL.out]; exact hlt) = x at HX
        generalize b[r]'(by rw [HBL.out]; exact hlt) = y at HY
        have HST := shid (show (S.set k (some (partL l b r)))[k]? = some (some (partL l b r)) from List.getElem?_set_self hk)
        have c0 := HS1.out.row.cell HCK.out
        have c1 := ((HS1.out.set k _ HST.out).2.2.1).cell (k := r) (bools_get (show (partL l b r)[r]? = some x by rw [partL_get _ _ _ _ (by rw [HLL.out, HBL.out]) (by rw [HLL.out]; omega), if_neg (by omega)]; exact HX.out))
        have f1 := ((HS1.out.set k _ HST.out).2.2.1).frozen r
        have c2 := HV1.out.cell (bools_get HY.out)
        have HLS := shid (lostL_succ l b r x y HX.out HY.out)
        have hrI : (r : Int) < R := by omega
        have hrB : (r : Int) < b.length := by rw [HBL.out]; exact hrI
        generalize hlo : lostL (l.take r) (b.take r) = lo at *
        have HLO := shid hlo
        clear hlo
        cases x
        case false =>
          have HP := shid (partL_keep l b r false y (by rw [HLL.out, HBL.out]) HX.out HY.out rfl)
          go_wp2_with fail
          go_roundw
          case rel => exact ⟨r + 1, by omega, by go_num, by rw [HLS.out]; simp, HS1.out.congr (by rw [HP.out]), HV1.out, HO1.out⟩
          case measure => simp [intOf]; omega
        case true =>
          cases y
          case true =>
            have HP := shid (partL_keep l b r true true (by rw [HLL.out, HBL.out]) HX.out HY.out rfl)
            go_wp2_with fail
            go_roundw
            case rel => exact ⟨r + 1, by omega, by go_num, by rw [HLS.out]; simp, HS1.out.congr (by rw [HP.out]), HV1.out, HO1.out⟩
            case measure => simp [intOf]; omega
          case false =>
            have HP := shid (partL_succ l b r true false (by rw [HLL.out, HBL.out]) HX.out HY.out)
            have HS2 := shid ((HS1.out.lose HST.out hlt false).congr (show _ = S.set k (some (partL l b (r + 1))) by rw [HP.out, List.set_set]; rfl))
            have HV2 := shid (show VRow (wr.setCell ⟨gs k, r, none⟩ (.bool false)) gb 4 (bools b) from HV1.out.other (fun e => HNB.out e.symm) _)
            have HO2 := shid (show Only O w (wr.setCell ⟨gs k, r, none⟩ (.bool false)) from HO1.out.setCell HOK.out _)
            go_wp2_with fail
            go_roundw
            case rel => exact ⟨r + 1, by omega, by go_num, by rw [HLS.out]; simp, HS2.out, HV2.out, HO2.out⟩
            case measure => simp [intOf]; omega
      · obtain rfl : r = R := by omega
        have HP := shid (show partL l b r = andL l b by rw [← HLL.out]; exact partL_full l b (by rw [HLL.out, HBL.out]))
        have HL := shid (show lostL (l.take r) (b.take r) = lostL l b by rw [List.take_of_length_le (by rw [HLL.out]; omega), List.take_of_length_le (by rw [HBL.out]; omega)])
        rw [HL.out]
        go_wp2_with fail
        go_ret
        exact ⟨by rw [HR2.out]; rfl, vs, gs, HS1.out.congr (by rw [HP.out]; exact HR1.out.symm), HO1.out⟩
end Go.Proofs.Ytdefooailcbnlaa
/- The walk of shape.top. -/
namespace Go.Proofs.Ytdefooailcbnlaa
open Go.RowKit
set_option linter.unusedVariables false
set_option linter.unusedSimpArgs false
/-- A thread does not begin with a function that may be begun with. -/
def badT (fs : List Fnx) (t : Int) : Bool := !decide (0 ≤ t ∧ t < fs.length) || decide (argsOf fs t.toNat ≠ 0)
set_option maxHeartbeats 1000000 in
theorem topf_any (fs : List Fnx) (hp : Int) (tv : Value) (pf : Option Addr) (cf : Nat) (B : Nat) (w : World) (hB : PBox w B hp tv (.slice pf fs.length cf)) (hF : FnsIn w (.slice pf fs.length cf) fs) (t : Int) :
    Calls Try.prog 55 #[.int .i64 t, .pointer (some ⟨B, 0, none⟩)] w fun e w' => e = .returned (.bool (badT fs t)) ∧ w = w' := by
  have hfl := hF.1
  obtain ⟨_, p0, p1, p2⟩ := hB
  have HH := shid (has_any t fs.length w)
  by_cases hk : 0 ≤ t ∧ t < fs.length
  · have HH1 := shid (show Calls Try.prog 56 #[.int .i64 t, .int .i64 (fs.length : Int)] w fun e w' => e = .returned (.bool true) ∧ w = w' by have h := HH.out; unfold hasB at h; rw [decide_eq_true hk] at h; exact h)
    have HBD : Hid (badT fs t = decide (argsOf fs t.toNat ≠ 0)) := shid (by unfold badT; rw [decide_eq_true hk]; rfl)
    obtain ⟨k, rfl⟩ := Int.eq_ofNat_of_zero_le hk.1
    have hkl : k < fs.length := by omega
    obtain ⟨pbb, cbb, b, o, hbe, _, HBS⟩ := hF.hids
    cases hbe
    obtain rfl := HBS.out.1 (by omega)
    have c1 := fnargs_cell HBS.out.2 k hkl
    have h1 : (k : Int) < fs.length := by omega
    rw [HBD.out, show (k : Int).toNat = k from rfl]
    clear hF hk HBD HH
    generalize argsOf fs k = a at c1 ⊢
    by_cases ha : a = 0
    · have hb : (a != 0) = false := by simpa using ha
      have HR := shid (show decide (a ≠ 0) = false from decide_eq_false (fun h => h ha))
      clear ha
      go_enter Try.func55, Try.ntmps55
      go_wp2_with (go_at_call 56; (with_reducible refine HH1.out.mono ?_); rintro e w7 ⟨rfl, rfl⟩)
      go_ret
      exact ⟨sret_val (by rw [HR.out]; rfl), rfl⟩
    · have hb : (a != 0) = true := by simpa using ha
      have HR := shid (show decide (a ≠ 0) = true from decide_eq_true ha)
      clear ha
      go_enter Try.func55, Try.ntmps55
      go_wp2_with (go_at_call 56; (with_reducible refine HH1.out.mono ?_); rintro e w7 ⟨rfl, rfl⟩)
      go_ret
      exact ⟨sret_val (by rw [HR.out]; rfl), rfl⟩
  · have HH1 := shid (show Calls Try.prog 56 #[.int .i64 t, .int .i64 (fs.length : Int)] w fun e w' => e = .returned (.bool false) ∧ w = w' by have h := HH.out; unfold hasB at h; rw [decide_eq_false hk] at h; exact h)
    have HR : Hid (badT fs t = true) := shid (by unfold badT; rw [decide_eq_false hk]; rfl)
    clear hk hF HH
    go_enter Try.func55, Try.ntmps55
    go_wp2_with (go_at_call 56; (with_reducible refine HH1.out.mono ?_); rintro e w7 ⟨rfl, rfl⟩)
    go_ret
    exact ⟨sret_val (by rw [HR.out]; rfl), rfl⟩
set_option maxHeartbeats 1000000 in
theorem index_top (B : Nat) (bad : Int → Bool) (w : World) (v : Value) (l : List Int) (h : IntsIn w v l)
    (HC : Hid (∀ t : Int, Calls Try.prog 55 #[.int .i64 t, .pointer (some ⟨B, 0, none⟩)] w fun e w' => e = .returned (.bool (bad t)) ∧ w = w')) :
    Calls Try.prog 73 #[v, .func (.func 55) #[] #[.pointer (some ⟨B, 0, none⟩)]] w fun e w' => (∃ i : Int, e = .returned (.int .i64 i) ∧ (0 ≤ i ↔ ∃ y ∈ l, bad y = true)) ∧ w = w' := by
  obtain ⟨p, c, b, o, rfl, hl, H⟩ := h.hids
  clear h
  go_enter Try.func73, Try.ntmps73
  go_wp2_with fail
  go_loop [8] (fun i => ∃ k : Nat, k ≤ l.length ∧ i = .int .i64 k ∧ ∀ y ∈ l.take k, bad y = false) (fun i => l.length - (intOf i).toNat)
  case atStart => exact ⟨0, Nat.zero_le _, rfl, by simp⟩
  case round =>
    obtain ⟨k, hk, rfl, hf⟩ := hrel
    have HF := shid hf
    clear hf
    by_cases hlt : k < l.length
    · obtain rfl := H.out.1 (by omega)
      have c1 := (H.out.2 k l[k] (List.getElem?_eq_getElem hlt)).1
      have HT := shid (List.take_succ_eq_append_getElem hlt)
      have HM := shid (List.getElem_mem hlt)
      rw [Nat.mul_one] at c1
      generalize l[k] = y at c1 HT HM
      have HCy := shid (HC.out y)
      generalize hby : bad y = by_ at HCy
      have HBY := shid hby
      clear hby
      cases by_
      case true =>
        go_wp2_with (go_at_call 55; (with_reducible refine HCy.out.mono ?_); rintro e w' ⟨rfl, rfl⟩)
        go_ret
        exact ⟨⟨k, rfl, ⟨fun _ => ⟨y, HM.out, HBY.out⟩, fun _ => by omega⟩⟩, rfl⟩
      case false =>
        go_wp2_with (go_at_call 55; (with_reducible refine HCy.out.mono ?_); rintro e w' ⟨rfl, rfl⟩)
        go_round
        case rel => exact ⟨k + 1, by omega, by go_num, fun z hz => by
          rw [HT.out] at hz
          rcases List.mem_append.1 hz with h | h
          · exact HF.out z h
          · simp at h; rw [h]; exact HBY.out⟩
        case measure => simp [intOf]; omega
    · go_wp2_with fail
      go_ret
      have h1 := HF.out
      rw [List.take_of_length_le (by omega)] at h1
      exact ⟨⟨-1, rfl, ⟨fun h => by omega, fun ⟨y, hy, hn⟩ => by rw [h1 y hy] at hn; cases hn⟩⟩, rfl⟩
theorem contains_top (B : Nat) (bad : Int → Bool) (w : World) (v : Value) (l : List Int) (h : IntsIn w v l)
    (HC : Hid (∀ t : Int, Calls Try.prog 55 #[.int .i64 t, .pointer (some ⟨B, 0, none⟩)] w fun e w' => e = .returned (.bool (bad t)) ∧ w = w')) :
    Calls Try.prog 54 #[v, .func (.func 55) #[] #[.pointer (some ⟨B, 0, none⟩)]] w fun e w' => e = .returned (.bool (l.any bad)) ∧ w = w' := by
  have HI := shid (index_top B bad w v l h HC)
  have HB : Hid (∀ i : Int, (0 ≤ i ↔ ∃ y ∈ l, bad y = true) → decide (0 ≤ i) = l.any bad) := shid fun i hi => by
    rw [Bool.eq_iff_iff]
    simp [hi]
  obtain ⟨p, c, rfl⟩ := h.shape
  clear h HC
  go_enter Try.func54, Try.ntmps54
  go_wp2_with fail
  refine HI.out.mono ?_
  rintro e w' ⟨⟨i, rfl, hi⟩, rfl⟩
  have HJ := shid (HB.out i hi)
  clear hi HB
  go_wp2_with fail
  go_ret
  exact ⟨sret_val (by rw [← HJ.out]; rfl), rfl⟩
/-- Whether a program may be, but for its functions. -/
def topB (p : Prg) : Bool :=
  decide (0 ≤ p.heap ∧ p.heap ≤ 1024 ∧ 1 ≤ p.funcs.length ∧ p.funcs.length ≤ 64 ∧ 1 ≤ p.threads.length ∧ p.threads.length ≤ 4) && !p.threads.any (badT p.funcs)
set_option maxRecDepth 100000 in
set_option maxHeartbeats 2000000 in
theorem top_any (p : Prg) (pt : Option Addr) (ct : Nat) (pf : Option Addr) (cf : Nat) (w : World) (hT : IntsIn w (.slice pt p.threads.length ct) p.threads) (hF : FnsIn w (.slice pf p.funcs.length cf) p.funcs) :
    Calls Try.prog 33 #[.agg #[.int .i64 p.heap, .slice pt p.threads.length ct, .slice pf p.funcs.length cf]] w fun e w' => e = .returned (.bool (topB p)) ∧ Below w.heap.size w w' := by
  have htl := hT.1
  have hfl := hF.1
  have HW0 := shid (al1 w (.cells #[.int .i64 p.heap, .slice pt p.threads.length ct, .slice pf p.funcs.length cf] 25))
  have HPB := shid (PBox.new w p.heap (.slice pt p.threads.length ct) (.slice pf p.funcs.length cf) 25)
  have HCT := shid (contains_top w.heap.size (badT p.funcs) _ _ p.threads (IntsIn.keep hT HW0.out) (shid fun t => topf_any p.funcs p.heap _ pf cf w.heap.size _ HPB.out (FnsIn.keep hF HW0.out) t))
  have HTB := shid (show topB p = (decide (0 ≤ p.heap ∧ p.heap ≤ 1024 ∧ 1 ≤ p.funcs.length ∧ p.funcs.length ≤ 64 ∧ 1 ≤ p.threads.length ∧ p.threads.length ≤ 4) && !p.threads.any (badT p.funcs)) from rfl)
  clear hT hF
  generalize p.threads.any (badT p.funcs) = ab at HCT HTB
  obtain ⟨_, p0, p1, p2⟩ := HPB.out
  by_cases hk : 0 ≤ p.heap ∧ p.heap ≤ 1024 ∧ 1 ≤ p.funcs.length ∧ p.funcs.length ≤ 64 ∧ 1 ≤ p.threads.length ∧ p.threads.length ≤ 4
  · have HR : Hid (topB p = !ab) := shid (by rw [HTB.out, decide_eq_true hk]; rfl)
    obtain ⟨k1, k2, k3, k4, k5, k6⟩ := hk
    have q1 : decide (p.heap < 0) = false := decide_eq_false (by omega)
    have q2 : decide (1024 < p.heap) = false := decide_eq_false (by omega)
    have q3 : decide ((p.funcs.length : Int) < 1) = false := decide_eq_false (by omega)
    have q4 : decide ((64 : Int) < p.funcs.length) = false := decide_eq_false (by omega)
    have q5 : decide ((p.threads.length : Int) < 1) = false := decide_eq_false (by omega)
    have q6 : decide ((4 : Int) < p.threads.length) = false := decide_eq_false (by omega)
    clear k1 k2 k3 k4 k5 k6
    go_enter Try.func33, Try.ntmps33
    go_wp2_with (go_at_call 54; (with_reducible refine HCT.out.mono ?_); rintro e w' ⟨rfl, rfl⟩)
    go_ret
    exact ⟨sret_val (by rw [HR.out]; rfl), HW0.out⟩
  · have HR : Hid (topB p = false) := shid (by rw [HTB.out, decide_eq_false hk]; rfl)
    clear HCT
    go_enter Try.func33, Try.ntmps33
    go_wp2_with fail
    all_goals first
      | (go_ret; exact ⟨sret_val (by rw [HR.out]; rfl), HW0.out⟩)
      | (exfalso; apply hk; simp at *; omega)
end Go.Proofs.Ytdefooailcbnlaa
/- The walk of muntinref14.one, a class of operations at a time. -/
namespace Go.Proofs.Ytdefooailcbnlaa
open Go.RowKit
set_option linter.unusedVariables false
set_option linter.unusedSimpArgs false
end Go.Proofs.Ytdefooailcbnlaa
/- The walk of muntinref14.Great: it answers. -/
namespace Go.Proofs.Ytdefooailcbnlaa
open Go.RowKit
set_option linter.unusedVariables false
set_option linter.unusedSimpArgs false
def SomeBool (w : World) (e : Ending) (w' : World) : Prop := ∃ b : Bool, e = .returned (.bool b) ∧ Below w.heap.size w w'
def AnyNum (v : Value) : Prop := ∃ z : Int, v = .int .i64 z
set_option maxRecDepth 100000 in
set_option maxHeartbeats 4000000 in
theorem great_any (p : Prg) (pt : Option Addr) (ct : Nat) (pf : Option Addr) (cf : Nat) (w : World) (hF : FnsIn w (.slice pf p.funcs.length cf) p.funcs) :
    Calls Try.prog 22 #[.agg #[.int .i64 p.heap, .slice pt p.threads.length ct, .slice pf p.funcs.length cf]] w (SomeBool w) := by
  have hfl := hF.1
  obtain ⟨_, _, b, o, hbe, _, HBS⟩ := hF.hids
  cases hbe
  have HPF := shid HBS.out.1
  have HW0 := shid (al1 w (.cells #[.int .i64 p.heap, .slice pt p.threads.length ct, .slice pf p.funcs.length cf] 25))
  have HPB := shid (PBox.new w p.heap (.slice pt p.threads.length ct) (.slice pf p.funcs.length cf) 25)
  have HKF := shid (fun (k : Nat) (x : Fnx) (hx : p.funcs[k]? = some x) => (HBS.out.2 k x hx).keep HW0.out)
  clear hF HBS
  go_enter Try.func22, Try.ntmps22
  go_wp2_with fail
  generalize w.alloc (.cells #[.int .i64 p.heap, .slice pt p.threads.length ct, .slice pf p.funcs.length cf] 25) = W0 at *
  obtain ⟨_, p0, p1, p2⟩ := HPB.out
  go_loop [3, 4] (fun n i => ∃ k : Nat, k ≤ p.funcs.length ∧ i = .int .i64 k ∧ AnyNum n) (fun _ i => p.funcs.length - (intOf i).toNat)
  case atStart => exact ⟨0, Nat.zero_le _, rfl, 0, rfl⟩
  case round =>
    obtain ⟨k, hk, rfl, n0, rfl⟩ := hrel
    by_cases hlt : k < p.funcs.length ∧ k < 70
    · obtain ⟨hlt, h70⟩ := hlt
      obtain rfl := HPF.out (by omega)
      have HX := shid (List.getElem?_eq_getElem hlt)
      generalize p.funcs[k] = x at HX
      obtain ⟨c0, c1, c2, ⟨bv, c3, hbv⟩, hnm, _, _⟩ := HKF.out k x HX.out
      obtain ⟨pb, cb, rfl⟩ := hbv.shape
      have hbl := hbv.1
      obtain ⟨_, _, b2, o2, hbe2, _, HB2⟩ := hbv.hids
      cases hbe2
      have HPB2 := shid HB2.out.1
      have HKB := shid HB2.out.2
      have h1 : (k : Int) < p.funcs.length := by omega
      have h2 : decide ((k : Int) < 70) = true := decide_eq_true (by omega)
      clear hbv HB2
      go_wp2_with fail
      all_goals try (go_ret; exact ⟨_, rfl, HW0.out⟩)
      go_loop [3, 5] (fun n i => ∃ j : Nat, j ≤ x.blocks.length ∧ i = .int .i64 j ∧ AnyNum n) (fun _ i => x.blocks.length - (intOf i).toNat)
      case atStart => exact ⟨0, Nat.zero_le _, rfl, n0, rfl⟩
      case round =>
        obtain ⟨j, hj, rfl, n1, rfl⟩ := hrel
        by_cases hltj : j < x.blocks.length ∧ j < 300
        · obtain ⟨hltj, h300⟩ := hltj
          obtain rfl := HPB2.out (by omega)
          have HY := shid (List.getElem?_eq_getElem hltj)
          generalize x.blocks[j] = y at HY
          obtain ⟨d0, ⟨iv, d1, hiv⟩, hnm2⟩ := HKB.out j y HY.out
          obtain ⟨pi, ci, rfl⟩ := hiv.shape
          have hil := hiv.1
          obtain ⟨_, _, b3, o3, hbe3, _, HB3⟩ := hiv.hids
          cases hbe3
          have HPB3 := shid HB3.out.1
          have HKI := shid HB3.out.2
          have h3 : (j : Int) < x.blocks.length := by omega
          have h4 : decide ((j : Int) < 300) = true := decide_eq_true (by omega)
          clear hiv HB3
          go_wp2_with fail
          all_goals try (go_ret; exact ⟨_, rfl, HW0.out⟩)
          go_loop [3, 6] (fun n i => ∃ q : Nat, q ≤ y.ins.length ∧ i = .int .i64 q ∧ AnyNum n) (fun _ i => y.ins.length - (intOf i).toNat)
          case atStart => exact ⟨0, Nat.zero_le _, rfl, _, rfl⟩
          case round =>
            obtain ⟨q, hq, rfl, n2, rfl⟩ := hrel
            by_cases hltq : q < y.ins.length ∧ q < 300
            · obtain ⟨hltq, h301⟩ := hltq
              obtain rfl := HPB3.out (by omega)
              have HZ := shid (List.getElem?_eq_getElem hltq)
              generalize y.ins[q] = z at HZ
              obtain ⟨_, _, _, _, _, _, ⟨va, e6, hva⟩, _, _, _⟩ := HKI.out q z HZ.out
              obtain ⟨pa, ca, rfl⟩ := hva.shape
              have hal := hva.1
              have h5 : (q : Int) < y.ins.length := by omega
              have h6 : decide ((q : Int) < 300) = true := decide_eq_true (by omega)
              clear hva
              go_wp2_with fail
              go_round
              case rel => exact ⟨q + 1, by omega, by go_num, _, rfl⟩
              case measure => simp [intOf]; omega
            · by_cases hq2 : q < y.ins.length
              · have h6 : decide ((q : Int) < 300) = false := decide_eq_false (by omega)
                clear hltq
                go_wp2_with fail
                go_round
                case rel => exact ⟨j + 1, by omega, by go_num, _, rfl⟩
                case measure => simp [intOf]; omega
              · clear hltq
                go_wp2_with fail
                go_round
                case rel => exact ⟨j + 1, by omega, by go_num, _, rfl⟩
                case measure => simp [intOf]; omega
        · by_cases hj2 : j < x.blocks.length
          · have h6 : decide ((j : Int) < 300) = false := decide_eq_false (by omega)
            clear hltj
            go_wp2_with fail
            all_goals try (go_ret; exact ⟨_, rfl, HW0.out⟩)
            all_goals
              go_round
              case rel => exact ⟨k + 1, by omega, by go_num, _, rfl⟩
              case measure => simp [intOf]; omega
          · clear hltj
            go_wp2_with fail
            all_goals try (go_ret; exact ⟨_, rfl, HW0.out⟩)
            all_goals
              go_round
              case rel => exact ⟨k + 1, by omega, by go_num, _, rfl⟩
              case measure => simp [intOf]; omega
    · by_cases hk2 : k < p.funcs.length
      · have h6 : decide ((k : Int) < 70) = false := decide_eq_false (by omega)
        clear hlt
        go_wp2_with fail
        all_goals
          go_ret
          exact ⟨_, rfl, HW0.out⟩
      · clear hlt
        go_wp2_with fail
        all_goals
          go_ret
          exact ⟨_, rfl, HW0.out⟩
end Go.Proofs.Ytdefooailcbnlaa
