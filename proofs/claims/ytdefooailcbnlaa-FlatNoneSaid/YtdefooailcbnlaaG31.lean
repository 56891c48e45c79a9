/- The walk of ShapeAdds. -/
import Derived.Test.YtdefooailcbnlaaG22
import Derived.Test.YtdefooailcbnlaaG30
import Derived.Deep.RegionLaw
import Derived.IntWalk
import Derived.Deep.DeepCutAuto
namespace Go.Proofs.Ytdefooailcbnlaa
open Go.RowKit Go.Deep
set_option linter.unusedVariables false
set_option linter.unusedSimpArgs false
/-- A function's box, that may be written. -/
structure FBoxW (w : World) (g : Nat) (nm : ByteArray) (a r : Int) (bv : Value) : Prop where
  b : FBox w g nm a r bv
  f : ∀ i, w.frozen? ⟨g, i, none⟩ = false
theorem FBoxW.new (w : World) (nm : ByteArray) (a r : Int) (bv : Value) (t : TypeId) : FBoxW (w.alloc (.cells #[.string nm, .int .i64 a, .int .i64 r, bv] t)) w.heap.size nm a r bv :=
  ⟨FBox.new w nm a r bv t, fun i => free_of_obj (heap_alloc_new w _)⟩
theorem FBoxW.keep {w w' : World} {g : Nat} {nm : ByteArray} {a r : Int} {bv : Value} (h : FBoxW w g nm a r bv) (hb : Below w.heap.size w w') : FBoxW w' g nm a r bv :=
  ⟨h.b.keep hb, fun i => (hb.frozen (p := ⟨g, i, none⟩) h.b.lt).trans (h.f i)⟩
theorem FBoxW.set3 {w : World} {g : Nat} {nm : ByteArray} {a r : Int} {bv : Value} (h : FBoxW w g nm a r bv) (u : Value) : FBoxW (w.setCell ⟨g, 3, none⟩ u) g nm a r u := by
  obtain ⟨⟨lt, c0, c1, c2, c3⟩, f⟩ := h
  exact ⟨⟨by simpa [World.setCell] using lt, (World.cell?_setCell_other _ _ _ _ (by simp)).trans c0, (World.cell?_setCell_other _ _ _ _ (by simp)).trans c1, (World.cell?_setCell_other _ _ _ _ (by simp)).trans c2, World.cell?_setCell_same _ _ _ c3⟩, fun i => by simpa using f i⟩
theorem QBox.far {w : World} {g : Nat} {a b : Value} (k : QBox w g a b) {p : Addr} (hp : p.block ≠ g) (u : Value) : QBox (w.setCell p u) g a b :=
  ⟨by simpa [World.setCell] using k.lt, (World.cell?_setCell_other _ _ _ _ (show p ≠ (⟨g, 0, none⟩ : Addr) from fun e => hp (congrArg Addr.block e))).trans k.c0, (World.cell?_setCell_other _ _ _ _ (show p ≠ (⟨g, 1, none⟩ : Addr) from fun e => hp (congrArg Addr.block e))).trans k.c1, by simpa using k.f0, by simpa using k.f1⟩
theorem infoblk : (Try.prog.info? 46).map (fun i => (i.size, i.bytes)) = some (2, 40) := by kernel_rfl
theorem infoblk3 : (Try.prog.info? 46).map (fun i => (i.zero.map fun z => z.cells.size, i.size, i.bytes)) = some (some 2, 2, 40) := by kernel_rfl
theorem infofn3 : (Try.prog.info? 41).map (fun i => (i.zero.map fun z => z.cells.size, i.size, i.bytes)) = some (some 4, 4, 56) := by kernel_rfl
theorem infoins3 : (Try.prog.info? 44).map (fun i => (i.zero.map fun z => z.cells.size, i.size, i.bytes)) = some (some 9, 9, 88) := by kernel_rfl
theorem info3_parts {P : Program} {t : TypeId} {n s b : Nat} (h : (P.info? t).map (fun i => (i.zero.map fun z => z.cells.size, i.size, i.bytes)) = some (some n, s, b)) : ∃ i z, P.info? t = some i ∧ i.zero = some z ∧ i.size = s ∧ i.bytes = b ∧ z.cells.size = n := by
  obtain ⟨i, hi, he⟩ := Option.map_eq_some_iff.1 h
  simp only [Prod.mk.injEq] at he
  obtain ⟨h1, h2, h3⟩ := he
  obtain ⟨z, hz, hn⟩ := Option.map_eq_some_iff.1 h1
  exact ⟨i, z, hi, hz, h2, h3, hn⟩
/-- A box of three cells, that may be written. -/
structure TBox (w : World) (g : Nat) (a b c : Value) : Prop where
  c0 : w.cell? ⟨g, 0, none⟩ = some a
  c1 : w.cell? ⟨g, 1, none⟩ = some b
  c2 : w.cell? ⟨g, 2, none⟩ = some c
  f0 : w.frozen? ⟨g, 0, none⟩ = false
  f1 : w.frozen? ⟨g, 1, none⟩ = false
  f2 : w.frozen? ⟨g, 2, none⟩ = false
theorem TBox.new (w : World) (a b c : Value) (t : TypeId) : TBox (w.alloc (.cells #[a, b, c] t)) w.heap.size a b c := by
  have k := fun i => cell_of_obj (i := i) (heap_alloc_new w (.cells #[a, b, c] t))
  have f := fun i => free_of_obj (i := i) (heap_alloc_new w (.cells #[a, b, c] t))
  exact ⟨k 0, k 1, k 2, f 0, f 1, f 2⟩
theorem TBox.lt {w : World} {g : Nat} {a b c : Value} (h : TBox w g a b c) : g < w.heap.size := World.block_lt_of_cell? _ _ h.c0
theorem TBox.set2 {w : World} {g : Nat} {a b c : Value} (h : TBox w g a b c) (u : Value) : TBox (w.setCell ⟨g, 2, none⟩ u) g a b u :=
  ⟨(World.cell?_setCell_other _ _ _ _ (by simp)).trans h.c0, (World.cell?_setCell_other _ _ _ _ (by simp)).trans h.c1, World.cell?_setCell_same _ _ _ h.c2, by simpa using h.f0, by simpa using h.f1, by simpa using h.f2⟩
theorem FBoxW.far {w : World} {g : Nat} {nm : ByteArray} {a r : Int} {bv : Value} (h : FBoxW w g nm a r bv) {p : Addr} (hp : p.block ≠ g) (u : Value) : FBoxW (w.setCell p u) g nm a r bv :=
  ⟨h.b.far hp u, fun i => by simpa using h.f i⟩
theorem TBox.keep {w w' : World} {g : Nat} {a b c : Value} (h : TBox w g a b c) (hb : Below w.heap.size w w') : TBox w' g a b c :=
  ⟨(hb.cell (p := ⟨g, 0, none⟩) h.lt).trans h.c0, (hb.cell (p := ⟨g, 1, none⟩) h.lt).trans h.c1, (hb.cell (p := ⟨g, 2, none⟩) h.lt).trans h.c2, (hb.frozen (p := ⟨g, 0, none⟩) h.lt).trans h.f0, (hb.frozen (p := ⟨g, 1, none⟩) h.lt).trans h.f1, (hb.frozen (p := ⟨g, 2, none⟩) h.lt).trans h.f2⟩
theorem rem_run (x y : Nat) (hx : x < 65536) (hy : 0 < y) (hy2 : y ≤ 4096) (w : World) : (binOp .rem 3 (.int .i64 (x : Int)) (.int .i64 (y : Int))).run Try.prog w = .ok (.int .i64 ((x : Int) % (y : Int))) w := by
  have h0 : ((y : Int) == 0) = false := by rw [beq_eq_false_iff_ne]; omega
  have h1 : (y : Int) ≠ 0 := by omega
  have h2 : (x : Int).tmod (y : Int) = (x : Int) % (y : Int) := IntWalk.rem_in _ _ (by omega)
  have h3 : (x : Int) % (y : Int) < y := Int.emod_lt_of_pos _ (by omega)
  have h4 : 0 ≤ (x : Int) % (y : Int) := Int.emod_nonneg _ h1
  have h5 : IntKind.i64.wrap ((x : Int) % (y : Int)) = (x : Int) % (y : Int) := IntWalk.i64_in _ (by omega)
  go_simp
  omega
end Go.Proofs.Ytdefooailcbnlaa
